/- Parts of the proof: walks of functions and plain laws. -/
import Derived.Test.YtgmdpppljkmabaaGreatP0
import Derived.Test.YtgmdpppljkmabaaGreatP1
import Derived.Test.YtgmdpppljkmabaaGreatP16
import Derived.Test.YtgmdpppljkmabaaGreatP12
import Derived.Test.YtgmdpppljkmabaaGreatP2
import Derived.Test.YtgmdpppljkmabaaGreatP3
import Derived.Test.YtgmdpppljkmabaaGreatP7
import Derived.Test.YtgmdpppljkmabaaGreatP6
import Derived.Test.YtgmdpppljkmabaaGreatP5
import Derived.Test.YtgmdpppljkmabaaGreatP11
set_option maxRecDepth 100000
set_option maxHeartbeats 16000000
namespace Go.Proofs.YtgmdpppljkmabaaGreat
open Go Go.RowKit
open Go.Maps (Keyed)
def sL : Value → Option (DataW Unit × List MemPlace)
 | .slice none n c => some (.slice [lI 0,lI n,lI c] [],[])
 | .slice (some ⟨b,0,none⟩) n c => some (.slice [lI (b + 1),lI n,lI c] [],[])
 | _ => none
def zD : DataW Unit:=.slice [lI 0,lI (0 : Nat),lI (0 : Nat)] []
theorem F6 : sL (.slice none 0 0) = some (zD,[]):=rfl
theorem nN {a b : Int} (h : lI a = lI b) : a = b:=by
 unfold lI at h
 injection h with h
 injection h
theorem l9 {v : Value} {y : DataW Unit × List MemPlace} (h : sL v = some y) : (∃ n c,v = .slice none n c ∧ y = (.slice [lI 0,lI n,lI c] [],[])) ∨ ∃ b n c,v = .slice (some ⟨b,0,none⟩) n c ∧ y = (.slice [lI ((b : Int) + 1),lI n,lI c] [],[]):=by
 unfold sL at h
 split at h
 ·rename_i n c;injection h with h;exact .inl ⟨n,c,rfl,h.symm⟩
 ·rename_i b n c;injection h with h;exact .inr ⟨b,n,c,rfl,h.symm⟩
 ·cases h
theorem F7 {u v : Value} {y : DataW Unit × List MemPlace} (h : sL u = some y) (k : sL v = some y) : u = v:=by
 rcases l9 h with ⟨n,c,rfl,e1⟩ | ⟨b,n,c,rfl,e1⟩
 ·rcases l9 k with ⟨n',c',rfl,e2⟩ | ⟨b',n',c',rfl,e2⟩
  ·rw [e1] at e2;simp only [Prod.mk.injEq,DataW.slice.injEq,List.cons.injEq,and_true] at e2;have h1:=nN e2.2.1;have h2:=nN e2.2.2;rw [Int.ofNat.inj h1,Int.ofNat.inj h2]
  ·rw [e1] at e2;simp only [Prod.mk.injEq,DataW.slice.injEq,List.cons.injEq,and_true] at e2;have h0:=nN e2.1;omega
 ·rcases l9 k with ⟨n',c',rfl,e2⟩ | ⟨b',n',c',rfl,e2⟩
  ·rw [e1] at e2;simp only [Prod.mk.injEq,DataW.slice.injEq,List.cons.injEq,and_true] at e2;have h0:=nN e2.1;omega
  ·rw [e1] at e2;simp only [Prod.mk.injEq,DataW.slice.injEq,List.cons.injEq,and_true] at e2;have h0:=nN e2.1;have h1:=nN e2.2.1;have h2:=nN e2.2.2;rw [Int.ofNat.inj h1,Int.ofNat.inj h2,show b = b' by omega]
theorem Va (w : World) : (zeroValue 25).run Tryz.prog w = .ok (.slice none 0 0) w:=by kernel_rfl
structure gm (n : am) (w : World) (B k kk : Nat) (D : DataW Unit) (U : Nat → Value) : Prop where
 map : Maps.IsMap D
 val : ∀ p : Nat,sL (U p) = some (D.atKey (kI p) zD,[])
 own : ∀ p : Nat,Own w B (U p) ((en n p k).map Int.ofNat)
 dis : ∀ (p q j : Nat),p ≠ q → (U p).ownBlock = some j → (U q).ownBlock ≠ some j
 keys : ∀ kl,Maps.has D kl = true → ∃ v,v < kk ∧ kl = kI (al n v)
 all : ∀ v,v < kk → Maps.has D (kI (al n v)) = true
theorem gm.zero (n : am) (w : World) (B : Nat) : gm n w B 0 0 (.map []) (fun _ => .slice none 0 0) where
 map:=Maps.isMap_empty
 val:=fun p => by rw [F6];simp [DataW.atKey]
 own:=fun p => cH _ _
 dis:=fun p q j _ h => by simp [Value.ownBlock] at h
 keys:=fun kl h => by simp [Maps.has] at h
 all:=fun v hv => by omega
theorem gm.range {n : am} {w : World} {B k kk : Nat} {D : DataW Unit} {U : Nat → Value} (h : gm n w B k kk D U) {p j : Nat} (hj : (U p).ownBlock = some j) : B ≤ j ∧ j < w.heap.size:=World.ownsRow.lt (h.own p) j hj
theorem gm.stable {n : am} {w w' : World} {B k kk : Nat} {D : DataW Unit} {U : Nat → Value} (h : gm n w B k kk D U) (hs : ∀ j,B ≤ j → j < w.heap.size → w'.heap[j]? = w.heap[j]?) : gm n w' B k kk D U:=
 ⟨h.map,h.val,fun p => aO (h.own p) (fun j hj => by
  have:=h.range (p:=p) (j:=j) (by simpa using hj)
  exact hs j this.1 this.2),h.dis,h.keys,h.all⟩
theorem F8 {D : DataW Unit} (h : Maps.IsMap D) (n : am) {k : Nat} (d : DataW Unit) (hk : ∀ kl,Maps.has D kl = true → ∃ v,v < k ∧ kl = kI (al n v)) (ha : ∀ v,v < k → Maps.has D (kI (al n v)) = true) :
  (∀ kl,Maps.has (D.put (kI (al n k)) d) kl = true → ∃ v,v < k + 1 ∧ kl = kI (al n v)) ∧ ∀ v,v < k + 1 → Maps.has (D.put (kI (al n k)) d) (kI (al n v)) = true:=by
 constructor
 ·intro kl lq
  by_cases e : kl = kI (al n k)
  ·exact ⟨k,by omega,e⟩
  ·rw [Maps.has_put_other e] at lq;obtain ⟨v,hv,e2⟩:=hk kl lq;exact ⟨v,by omega,e2⟩
 ·intro v hv
  by_cases e : kI (al n v) = kI (al n k)
  ·rw [e];exact Maps.has_put_same h (rO _) _
  ·rw [Maps.has_put_other e]
   exact ha v (by
    apply Decidable.byContradiction
    intro hc
    exact e (by rw [show v = k by omega]))
theorem gm.lay {n : am} {w : World} {B k : Nat} {D : DataW Unit} {U : Nat → Value} (h : gm n w B k k D U) : gm n w B k (k + 1) (D.put (kI (al n k)) (D.atKey (kI (al n k)) zD)) U:=
 ⟨h.map.put _ _,fun p => by
  by_cases e : p = al n k
  ·subst e
   rw [Maps.atKey_put_same h.map (rO _)];exact h.val _
  ·rw [Maps.atKey_put_other (fun e2 => e (vq e2))];exact h.val _,h.own,h.dis,(F8 h.map n _ h.keys h.all).1,(F8 h.map n _ h.keys h.all).2⟩
theorem gm.skip {n : am} {w : World} {B k kk : Nat} {D : DataW Unit} {U : Nat → Value} (h : gm n w B k kk D U) (hx : n.inputs.getD k 0 ≠ 1) : gm n w B (k + 1) kk D U:=
 ⟨h.map,h.val,fun p => by
  have : mP n p k = false:=by unfold mP;rw [decide_eq_false hx,Bool.and_false]
  rw [(uJ this).1];exact h.own p,h.dis,h.keys,h.all⟩
theorem gm.grow {n : am} {w w' : World} {B k : Nat} {D : DataW Unit} {U : Nat → Value} {u : Value} {d : DataW Unit} {g : Nat} (h : gm n w B k (k + 1) D U) (hx : n.inputs.getD k 0 = 1) (ho : Own w' B u ((en n (al n k) k).map Int.ofNat ++ [(k : Int)]))
  (hu : sL u = some (d,[])) (Mn : u.ownBlock = some g) (hg : (U (al n k)).ownBlock = some g ∨ w.heap.size ≤ g) (gE : ∀ j,B ≤ j → j < w.heap.size → (U (al n k)).ownBlock ≠ some j → w'.heap[j]? = w.heap[j]?) :
  gm n w' B (k + 1) (k + 1) (D.put (kI (al n k)) d) (fun p => if p = al n k then u else U p):=by
 refine ⟨h.map.put _ _,fun p => ?_,fun p => ?_,fun p q j xj hj => ?_,fun kl lq => ?_,fun v hv => ?_⟩
 ·by_cases e : p = al n k
  ·subst e
   rw [if_pos rfl,Maps.atKey_put_same h.map (rO _)];exact hu
  ·rw [if_neg e,Maps.atKey_put_other (fun e2 => e (vq e2))];exact h.val _
 ·by_cases e : p = al n k
  ·subst e
   have : mP n (al n k) k = true:=by unfold mP;rw [decide_eq_true hx,decide_eq_true rfl];rfl
   rw [if_pos rfl,sb,if_pos this,List.map_append];exact ho
  ·have : mP n p k = false:=by unfold mP;rw [decide_eq_false (fun e2 => e e2.symm),Bool.false_and]
   rw [if_neg e,(uJ this).1];refine aO (h.own p) (fun j hj => ?_)
   have hj : (U p).ownBlock = some j:=by simpa using hj
   have hr:=h.range hj;exact gE j hr.1 hr.2 (h.dis p _ j e hj)
 ·by_cases e : p = al n k
  ·rw [if_pos e,Mn] at hj
   injection hj with hj
   subst hj;rw [if_neg (fun e2 => xj (e.trans e2.symm))]
   rcases hg with hg | hg
   ·exact h.dis (al n k) q g (fun e2 => xj (e.trans e2)) hg
   ·intro hc
    have:=(h.range hc).2
    omega
  ·rw [if_neg e] at hj
   by_cases e2 : q = al n k
   ·rw [if_pos e2,Mn];intro hc
    injection hc with hc
    subst hc;rcases hg with hg | hg
    ·exact h.dis p (al n k) g e hj hg
    ·have:=(h.range hj).2
     omega
   ·rw [if_neg e2];exact h.dis p q j xj hj
 ·by_cases e : kl = kI (al n k)
  ·exact ⟨k,by omega,e⟩
  ·rw [Maps.has_put_other e] at lq;exact h.keys kl lq
 ·by_cases e : kI (al n v) = kI (al n k)
  ·rw [e];exact Maps.has_put_same h.map (rO _) _
  ·rw [Maps.has_put_other e];exact h.all v hv
theorem vt {w : World} {ops : Array Oper} {rest : List Oper} {o : Oper} {a : Act} {Q : Exit → Act → World → Prop} (hg : o.guard = none) (m x : Operand) (wt : o.op = Op.lookup 112 m x false) (b n : Nat) (D : DataW Unit)
  (hm : a.eval m = .map (some b)) (aY : w.ownsMap Tryz.prog 3 sL b n D) (p : Nat) (hp : p ≤ 1000000) (hx : a.eval x = .int .i64 (p : Int)) (u : Value) (hu : sL u = some (D.atKey (kI p) zD,[]))
  (hK : wpList Tryz.prog ops Q rest (a.put o.dst u) w) : wpList Tryz.prog ops Q (o :: rest) a w:=by
 refine wpList_plain hg fun K' hK' => ?_
 obtain ⟨v,ps,dt,hv⟩:=aY.lookup B5 Tryz.underlying112 (Va w) F6 (NE hp)
 have hps : ps = []:=by
  rcases l9 hv with ⟨_,_,_,e⟩ | ⟨_,_,_,_,e⟩
  ·injection e with _ e
  ·injection e with _ e
 subst hps;obtain rfl:=F7 hu hv
 unfold Oper.wp;simp [execOp,wt,hm,hx,dt,Result.andThen]
 exact hK' _ _ hK
theorem yz {w : World} {ops : Array Oper} {rest : List Oper} {o : Oper} {a : Act} {Q : Exit → Act → World → Prop} (hg : o.guard = none) (m x v : Operand) (wt : o.op = Op.mapUpdate 112 m x v) (b n : Nat) (D : DataW Unit)
  (hm : a.eval m = .map (some b)) (aY : w.ownsMap Tryz.prog 3 sL b n D) (hn : n ≤ 1000000) (p : Nat) (hp : p ≤ 1000000) (hx : a.eval x = .int .i64 (p : Int)) (u : Value) (hv : a.eval v = u) (d : DataW Unit) (hu : sL u = some (d,[]))
  (hK : ∀ w',w'.ownsMap Tryz.prog 3 sL b (n + 1) (D.put (kI p) d) → w.grownBy w' (some b) → wpList Tryz.prog ops Q rest (a.put o.dst undef) w') : wpList Tryz.prog ops Q (o :: rest) a w:=
 wpList_mapUpdate_own w hg m x v 112 wt 3 25 B5 Tryz.underlying112 sL b n D hm aY (by unfold maxLen;omega) _ _ (kI p) hx hv (NE hp) d [] hu hK
theorem sk (ve vi vn : Value) (n : am) (w : World) (h : aT w ve vi vn n) (hn : an n = true) :
  Calls Tryz.prog 80 #[.agg #[ve,vi,vn]] w fun e w' => ∃ b D U,e = .returned (.map (some b)) ∧ w'.ownsMap Tryz.prog 3 sL b 100 D ∧ gm n w' (b + 1) n.ends.length n.ends.length D U ∧ w.heap.size ≤ b ∧ Below w.heap.size w w':=by
 have kE:=aN hn;have KJ:=kE.1;have KK:=kE.2;have DV:=zh (Ij hn).1;have Hn:=zh hn
 obtain ⟨w0,A,c,A2,c2,A3,c3,rfl,rfl,rfl,ft,hm,f6,gF,HA,dh,bv,H,eG,eX,fb⟩:=zB h;clear h
 clear hn kE;have hmm:=@run_makeMap Tryz.prog;obtain ⟨b,bj⟩ : ∃ b,b = w.heap.size + 1:=⟨_,rfl⟩
 have hb : b = w0.heap.size:=by rw [bj,dh.out];simp
 have gG:=zh bj;obtain ⟨w1,py⟩ : ∃ w1,w1 = w0.alloc (.map #[] 0):=⟨_,rfl⟩
 have dm : aa w0 w1:=by rw [py];exact ah _ (ad _)
 have wI : Hid (w1.ownsMap Tryz.prog 3 sL b 0 (.map [])):=by rw [py,hb];exact World.ownsMap_made _ _ _ _
 have gh:=zh dm;have Hb:=zh hb;have Q_:=zh py
 have xN : Hid (w0.heap.size ≤ b):=by rw [hb];exact Nat.le_refl _
 have Pj : Hid (b + 1 = w1.heap.size):=by show _ = _;rw [hb,py];simp
 clear py hb bj
 go_enter Tryz.func80,Tryz.ntmps80
 go_upto_region 2 with (fail);rw [← dh.out,← Q_.out,← gG.out];go_wp2_with fail;refine (fj _ _ _ n w1 (H.out.keep gh.out.below) Hn.out).mono ?_;rintro e w2 ⟨u2,rfl,dL,b_⟩
 obtain ⟨gc,cc,rfl⟩ : ∃ gc cc,u2 = .slice (some ⟨gc,0,none⟩) n.ends.length cc:=by
  obtain ⟨x,hx⟩:=aW (dW n) 0 (by simp [dW];omega)
  obtain ⟨g,c,h1,-⟩:=F5 dL hx
  exact ⟨g,c,by rw [h1];simp [dW]⟩
 have je:=zh (Below.ownsMap wI.out b_)
 have cw : Hid (Below b w0 w2):=(gh.out.below.mono (by have:=Hb.out;omega)).trans (b_.mono (by have:=Pj.out;omega))
 obtain ⟨B,hB⟩ : ∃ B,B = w2.heap.size:=⟨_,rfl⟩
 have Tg : Hid (b + 1 ≤ B):=by show _ ≤ _;rw [hB,Pj.out];exact b_.size
 have NF : Hid (∀ W,(∀ j,j < B → j ≠ b → W.heap[j]? = w2.heap[j]?) → Own W w1.heap.size (.slice (some ⟨gc,0,none⟩) n.ends.length cc) (dW n)):=fun W hW => aO dL (fun j hj => by
  have h5:=World.ownsRow.lt dL j (by simpa using hj);have h6:=Pj.out
  exact hW j (by omega) (by omega))
 have vx : Hid (B ≤ w2.heap.size):=by rw [hB];exact Nat.le_refl _
 clear dL b_ dm hmm hB;go_wp2
 go_loopw [10] (fun i wr => ∃ k D U m,k ≤ n.ends.length ∧ m = 2 * k ∧ i = .int .i64 (k : Nat) ∧ wr.ownsMap Tryz.prog 3 sL b m D ∧ gm n wr B k k D U ∧ (∀ j,j < B → j ≠ b → wr.heap[j]? = w2.heap[j]?) ∧ Below b w0 wr ∧ B ≤ wr.heap.size) (fun i _ => n.ends.length - (intOf i).toNat)
 case atStart => exact ⟨0,_,_,0,Nat.zero_le _,rfl,rfl,je.out,gm.zero n _ _,fun j _ _ => rfl,cw.out,vx.out⟩
 case round =>
  obtain ⟨k,D,U,m,hk,IS,rfl,hm,wy,FV,hs,Zn⟩:=hrel;have Hm:=zh hm;have F9:=zh wy;have KL:=zh FV;have Hs:=zh hs;have Th:=zh Zn;clear hm wy FV hs Zn
  by_cases hlt : k < n.ends.length
  ·have m3 : IntKind.i64.wrap ((k : Int) + 1) = (k : Int) + 1:=aL _ (by omega) (by omega);obtain ⟨p,hp⟩ : ∃ p,al n k = p:=⟨_,rfl⟩
   have za : p ≤ 1000000:=by rw [← hp];have:=cK Hn.out hlt;omega
   have c1:=(NF.out wr KL.out).cell (show (dW n)[k]? = some (p : Int) by rw [← hp];unfold dW;rw [List.getElem?_map,List.getElem?_range hlt];rfl)
   have Hp:=zh hp;obtain ⟨up,mB⟩ : ∃ up,U p = up:=⟨_,rfl⟩
   have CZ:=zh mB
   have Hv : Hid (sL up = some (D.atKey (kI p) zD,[])):=by have:=F9.out.val p;rwa [mB] at this
   have Hw : Hid (Own wr B up ((en n p k).map Int.ofNat)):=by have:=F9.out.own p;rwa [mB] at this
   have IQ : m ≤ 1000000:=by omega
   have Hmk:=zh IS;clear hp mB IS
   go_upto_region 6 with (first | (at_lookup;refine vt rfl _ _ rfl b m D rfl Hm.out p za rfl up Hv.out ?_) | (at_builtin;refine rK rfl _ _ rfl rfl Hw.out none 0 rfl ?_) | (at_mapUpdate;refine yz rfl _ _ _ rfl b m D rfl Hm.out IQ p za rfl up rfl _ Hv.out ?_;intro w3 B7 vr;have ph:=zh B7;have MA:=zh vr;clear B7 vr))
   obtain ⟨D3,hD3⟩ : ∃ D3,D.put (kI p) (D.atKey (kI p) zD) = D3:=⟨_,rfl⟩
   rw [hD3] at ph
   have NG : Hid (gm n w3 B k (k + 1) D3 U):=by
    have h7:=F9.out.lay;rw [Hp.out,hD3] at h7
    exact h7.stable (fun j hj xF => MA.out.block j xF (fun e => by simp only [Option.some.injEq] at e;have:=Tg.out;omega))
   have KM : Hid (∀ j,j < B → j ≠ b → w3.heap[j]? = w2.heap[j]?):=fun j hj fS => (MA.out.block j (Nat.lt_of_lt_of_le hj Th.out) (fun e => by simp only [Option.some.injEq] at e;exact fS e)).trans (KL.out j hj fS)
   have eY : Hid (Below b w0 w3):=Below.grown Hs.out MA.out (Nat.le_of_lt Hm.out.lt) (fun j hj => by simp only [Option.some.injEq] at hj;omega)
   have Mo : Hid (B ≤ w3.heap.size):=Nat.le_trans Th.out MA.out.size
   have Hv3 : Hid (sL up = some (D3.atKey (kI p) zD,[])):=by have:=NG.out.val p;rwa [CZ.out] at this
   have sG : Hid (Own w3 B up ((en n p k).map Int.ofNat)):=by have:=NG.out.own p;rwa [CZ.out] at this
   have Vb : aa w0 w3:=eY.out.mono (Nat.le_trans xN.out (Nat.le_refl _)) |> fun h => h
   obtain ⟨x,hx⟩:=aW n.inputs k (by rw [DV.out];exact hlt)
   obtain ⟨A9,c9,e9,-,-,Ik⟩:=H.out.ns;cases e9;obtain ⟨b9,abl,e8,hc9⟩:=Ik k x hx;subst e8;have i1:=bc Vb hc9;have q2:=fb w3 Vb
   have m_ : k < n.inputs.length:=by rw [DV.out];exact hlt
   have Hx : Hid (n.inputs.getD k 0 = x):=aH hx;clear c1 hD3 Ik hc9 hx Hm F9 KL Hs Th Hv Hw
   by_cases h1 : x = 1
   ·subst h1
    have aaa : m + 1 ≤ 1000000:=by have:=Hmk.out;omega
    have eZ : Hid (((en n p k).map Int.ofNat).length + 1 ≤ 17592186044416):=by show _ ≤ _;rw [List.length_map];have:=DR n p k;omega
    go_wp2_with (first | (at_lookup;refine vt rfl _ _ rfl b (m + 1) D3 rfl ph.out p za rfl up Hv3.out ?_) | (at_builtin;refine Fq rfl _ _ rfl rfl (sG.out.keep (ah _ (ad _))) w3.heap.size k rfl (by simp [go_sem]) eZ.out (Nat.le_trans Mo.out (by simp)) ?_;intro g cx w4 mf Bn Vc Vd;have sH:=zh mf;have Ye:=zh Bn;have Hl4:=zh Vc;have aab:=zh Vd;have Eg : Hid (w4.ownsMap Tryz.prog 3 sL b (m + 1) D3):=(ph.out.alloc _).kept Bn (fun e => by have h8:=(World.ownsRow.lt sG.out b e.symm).1;have:=Tg.out;omega);clear mf Bn Vc Vd) | (at_mapUpdate;refine yz rfl _ _ _ rfl b (m + 1) D3 rfl Eg.out aaa p za rfl _ rfl _ rfl ?_;intro w5 Pk nO;have fP:=zh Pk;have Ra:=zh nO;clear Pk nO))
    have Eh : ∀ j,j < w3.heap.size → j ≠ b → up.ownBlock ≠ some j → w5.heap[j]? = w3.heap[j]?:=fun j hj fS lN => by
     have h8 : w4.heap[j]? = (w3.alloc (.cells #[.int .i64 k] 3)).heap[j]?:=Ye.out.block j (by simp;omega) (fun e => lN e.symm)
     have h9:=Ra.out.block j (by have:=Ye.out.size;simp at this;omega) (fun e => by simp only [Option.some.injEq] at e;exact fS e)
     rw [h9,h8];exact Below.heap_alloc w3 _ j hj
    have Mn : ∀ j,up.ownBlock = some j → B ≤ j:=fun j hj => (World.ownsRow.lt sG.out j hj).1
    have OZ : (U p).ownBlock = some g ∨ w3.heap.size ≤ g:=by
     rw [CZ.out];rcases Hl4.out with h8 | h8
     ·exact .inl h8
     ·exact .inr (by rw [h8];simp)
    have hBg : B ≤ g:=by
     rcases OZ with h8 | h8
     ·rw [CZ.out] at h8;exact Mn g h8
     ·exact Nat.le_trans Mo.out h8
    have hL5:=NG.out.grow (w':=w5) (u:=.slice (some ⟨g,0,none⟩) (((en n p k).map Int.ofNat).length + 1) cx) (g:=g) (by rw [Hx.out])
     (by
      rw [Hp.out]
      exact aO sH.out (fun j hj => by
       have h8 : j = g:=by simpa [Value.ownBlock,eq_comm] using hj
       subst h8
       exact Ra.out.block j aab.out (fun e => by simp only [Option.some.injEq] at e;have:=Tg.out;omega))) rfl (by simp [Value.ownBlock]) (by rw [Hp.out];exact OZ)
     (fun j hj xF lN => Eh j xF (by have:=Tg.out;omega) (by rw [Hp.out,CZ.out] at lN;exact lN))
    rw [Hp.out] at hL5;have Ve:=zh hL5
    have Rb : Hid (∀ j,j < B → j ≠ b → w5.heap[j]? = w2.heap[j]?):=fun j hj fS => (Eh j (Nat.lt_of_lt_of_le hj Mo.out) fS (fun e => by have:=Mn j e;omega)).trans (KM.out j hj fS)
    have nd : Hid (Below b w0 w5):=Below.grown (Below.grown (eY.out.alloc (Nat.le_of_lt ph.out.lt) _) Ye.out (by have:=ph.out.lt;simp;omega) (fun j hj => by have:=Mn j hj;have:=Tg.out;omega)) Ra.out (Nat.le_of_lt Eg.out.lt) (fun j hj => by simp only [Option.some.injEq] at hj;omega)
    have Rc : Hid (B ≤ w5.heap.size):=by show _ ≤ _;have h7:=Mo.out;have h8:=Ye.out.size;have h9:=Ra.out.size;simp at h8;omega
    clear hL5 Eh Mn OZ hBg;go_roundw
    case rel => exact ⟨k + 1,_,_,m + 1 + 1,by omega,by have:=Hmk.out;omega,by first | rfl | go_num,fP.out,Ve.out,Rb.out,nd.out,Rc.out⟩
    case measure => simp [intOf];omega
   ·have me : (x == 1) = false:=by simpa using h1
    have HL4 : Hid (gm n w3 B (k + 1) (k + 1) D3 U):=NG.out.skip (by rw [Hx.out];exact h1)
    clear h1;go_wp2;go_roundw
    case rel => exact ⟨k + 1,_,_,m + 2,by omega,by have:=Hmk.out;omega,by first | rfl | go_num,ph.out.mono (by omega),HL4.out,KM.out,eY.out,Mo.out⟩
    case measure => simp [intOf];omega
  ·obtain rfl : k = n.ends.length:=by omega
   clear hk hlt;go_wp2;go_ret;refine ⟨b,D,U,rfl,Hm.out.mono (by omega),?_,Nat.le_trans bv.out.size xN.out,Below.trans bv.out (Hs.out.mono (Nat.le_trans bv.out.size xN.out))⟩;have h7:=F9.out;exact ⟨h7.map,h7.val,fun p => (h7.own p).mono Tg.out,h7.dis,h7.keys,h7.all⟩
section
variable {ops : Array Oper} {rest : List Oper} {o : Oper} {a : Act} {Q : Exit → Act → World → Prop}
end
section
variable {ops : Array Oper} {rest : List Oper} {o : Oper} {a : Act} {Q : Exit → Act → World → Prop}
end
theorem Il {n : am} (h : an n = true) : n.ids.length ≤ 40:=by
 have hl:=aN h;unfold an at h;simp only [Bool.and_eq_true] at h;have h2:=h.1.1.2;unfold sy at h2;rw [Bool.or_eq_true] at h2;rcases h2 with h2 | h2
 ·have : n.ids = []:=List.isEmpty_iff.1 h2
  rw [this];simp
 ·rw [Bool.and_eq_true] at h2
  have : (n.ids.length : Int) = n.ends.length:=by simpa using h2.1
  omega
def qZ (n : am) (k : Nat) : Prop:=((ca n).take k).any (mu n) = false
theorem zt (n : am) : qZ n 0:=rfl
theorem B8 {n : am} (h : qZ n (ca n).length) : pH n = true:=by
 unfold qZ at h;rw [List.take_length] at h;unfold pH
 rw [h];rfl
theorem B9 {n : am} {k : Nat} {x : Ed} (hx : (ca n)[k]? = some x) (h : mu n x = true) : pH n = false:=by
 unfold pH
 rw [List.any_eq_true.2 ⟨x,List.mem_of_getElem? hx,h⟩];rfl
theorem Im {n : am} (hn : an n = true) {k : Nat} {x : Ed} (hx : (ca n)[k]? = some x) : ∃ (v i y j : Nat),x = ((v : Int),(i : Int),(y : Int),(j : Int)) ∧ v < n.ends.length ∧ y < n.ends.length:=by
 obtain ⟨v,i,f,hv,hp,_,rfl⟩:=bZ.1 (List.mem_of_getElem? hx);obtain ⟨p1,p2,p3,p4,p5⟩:=dD hn hp;exact ⟨v,i,f.1.toNat,f.2.toNat,by rw [show ((f.1.toNat : Nat) : Int) = f.1 by omega,show ((f.2.toNat : Nat) : Int) = f.2 by omega],hv,by omega⟩
theorem l_ (ve vi vn : Value) (n : am) (w : World) (h : aT w ve vi vn n) (hn : an n = true) :
  Calls Tryz.prog 48 #[.agg #[ve,vi,vn]] w fun e w' => ∃ u,e = .returned (.tuple #[u,.bool (pH n)]) ∧ Own w' w.heap.size u (if pH n = true then pG n else []) ∧ Below w.heap.size w w':=by
 have kE:=aN hn;have KJ:=kE.1;have KK:=kE.2
 have DV : Hid (n.ids.length ≤ 17592186044416):=by show _ ≤ _;have:=Il hn;omega
 have Hn:=zh hn
 obtain ⟨w0,A,c,A2,c2,A3,c3,rfl,rfl,rfl,ft,hm,f6,gF,HA,dh,bv,H,eG,eX,fb⟩:=zB h;clear h
 have cX : aa w0 w0:=ad _;obtain ⟨rb,kq⟩ : ∃ rb,pH n = rb:=⟨_,rfl⟩
 have nP:=zh kq;rw [kq];clear hn kE kq
 go_enter Tryz.func48,Tryz.ntmps48
 go_upto_region 1 with (fail);rw [← dh.out];go_wp2_with fail;refine (dF _ _ _ n w0 H.out DV.out).mono ?_;rw [Hn.out];rintro e w1 ⟨rfl,bj⟩;have gh : Hid (aa w0 w1):=bj;have dm:=gh.out;clear bj cX;go_wp2_with fail;refine (fj _ _ _ n w1 (H.out.keep gh.out.below) Hn.out).mono ?_;rintro e w2 ⟨u2,rfl,dL,b_⟩;have kh : (dW n).length = n.ends.length:=by simp [dW]
 obtain ⟨gc,cc,rfl⟩ : ∃ gc cc,u2 = .slice (some ⟨gc,0,none⟩) n.ends.length cc:=by
  rcases dL.cases with ⟨-,e1⟩ | ⟨gc,cc,rfl,ib,oH⟩
  ·have:=congrArg List.length e1;rw [kh,List.length_nil] at this;omega
  ·exact ⟨gc,cc,by rw [kh]⟩
 have iU:=zh dL;have cw:=zh (gh.out.after b_);clear dL b_ kh dm;go_wp2
 go_loopw [4,15] (fun u i wr => ∃ k : Nat,k ≤ n.ends.length ∧ i = .int .i64 k ∧ Own wr w2.heap.size u ((List.range k).map (gS n)) ∧ aa w2 wr) (fun _ i _ => n.ends.length - (intOf i).toNat)
 case atStart => exact ⟨0,Nat.zero_le _,rfl,by simpa using cH _ w2.heap.size,ad _⟩
 case round =>
  obtain ⟨k,hk,rfl,ho,cJ⟩:=hrel;have Ho:=zh ho;have Hs:=zh cJ;clear ho cJ
  by_cases hlt : k < n.ends.length
  ·have m3 : IntKind.i64.wrap ((k : Int) + 1) = (k : Int) + 1:=aL _ (by omega) (by omega);obtain ⟨p,hp⟩ : ∃ p,p = al n k:=⟨_,rfl⟩
   have za : p < n.ends.length:=by rw [hp];exact cK Hn.out hlt
   have c1:=(iU.out.since Hs.out).cell (show (dW n)[k]? = some (p : Int) by rw [hp];unfold dW;rw [List.getElem?_map,List.getElem?_range hlt];rfl)
   have vy:=zh (cw.out.after Hs.out);have vz:=vy.out;have Hp:=zh hp
   have eZ : Hid (((List.range k).map (gS n)).length + 1 ≤ 17592186044416):=by show _ ≤ _;simp;omega
   have tl:=zh (GP n k);clear hp;go_wp2_with fail;refine (eR _ _ _ n p wr (H.out.keep vy.out.below) Hn.out za).mono ?_;obtain ⟨ds,CX⟩ : ∃ ds,ds = dM n p:=⟨_,rfl⟩
   rw [← CX];rintro e w3 ⟨u3,rfl,ie,bg⟩
   have Ja : ds.length = n.ends.length:=by rw [CX];exact oh Hn.out _ _ _ (BI.start za)
   obtain ⟨d,hd⟩:=aW ds k (by omega)
   obtain ⟨gd,cd,rfl⟩ : ∃ gd cd,u3 = .slice (some ⟨gd,0,none⟩) n.ends.length cd:=by
    rcases ie.cases with ⟨-,e1⟩ | ⟨gd,cd,rfl,ib,oH⟩
    ·have:=congrArg List.length e1;rw [List.length_nil] at this;omega
    ·exact ⟨gd,cd,by rw [Ja]⟩
   have cd1:=ie.cell hd;obtain ⟨y,hy⟩ : ∃ y,y = gS n k:=⟨_,rfl⟩
   have aac : Int.tmod d 2 = y:=by rw [hy];exact M5 Hn.out hlt (by rw [← Hp.out,← CX];exact hd)
   have U7 : 0 ≤ d:=by have:=(Bi Hn.out hlt).1;rw [← Hp.out,← CX,aH hd] at this;exact this
   have abe : d % 2 = y:=by rw [← aac];exact (Int.tmod_eq_emod_of_nonneg U7).symm
   have eY:=zh (Hs.out.after bg);have ms:=zh (Ho.out.since bg);rw [← hy] at tl;clear ie bg hd hy CX Ja c1 U7 vz
   go_wp2_with (at_builtin;refine ic rfl _ _ rfl rfl (ms.out.since (ah _ (ad _))) w3.heap.size y rfl (by simp [go_sem]) eZ.out (ah _ eY.out) ?_;intro g cx w4 mf kD)
   have sH:=zh mf;have mg:=zh kD;clear mf kD;go_wp2;go_roundw
   case rel => exact ⟨k + 1,by omega,by first | rfl | go_num,by rw [tl.out];have:=sH.out;simpa using this,mg.out⟩
   case measure => simp [intOf];omega
  ·obtain rfl : k = n.ends.length:=by omega
   have eY:=zh (cw.out.after Hs.out);have iB:=eY.out
   obtain ⟨A9,c9,rfl⟩ : ∃ gd cd,u4 = .slice (some ⟨gd,0,none⟩) n.ends.length cd:=by
    rcases Ho.out.cases with ⟨-,e1⟩ | ⟨gd,cd,rfl,ib,oH⟩
    ·have:=congrArg List.length e1;rw [List.length_map,List.length_range,List.length_nil] at this;omega
    ·exact ⟨gd,cd,by simp⟩
   have HT : Hid (Own wr w2.heap.size (.slice (some ⟨A9,0,none⟩) n.ends.length c9) (pG n)):=Ho.out;have X_:=zh hlt;clear hk hlt Ho;go_wp2_with fail;refine (xY _ _ _ n wr (H.out.keep eY.out.below) Hn.out).mono ?_;rintro e w5 ⟨u5,rfl,Jc,jT⟩;obtain ⟨A5,c5,rfl,P6,hl5,sC⟩:=Jc.read;unfold maxLen at P6;have Dj:=zh sC;have nd : Hid (aa wr w5):=jT;have GK:=nu Hn.out n.ends.length
   have SN : Hid ((ca n).length ≤ 1000000):=by show _ ≤ _;show (ea n n.ends.length).length ≤ _;omega
   have abm:=SN.out;clear Jc jT sC iB GK;go_wp2
   go_loopw [34] (fun i wq => ∃ j : Nat,j ≤ (ca n).length ∧ i = .int .i64 j ∧ qZ n j ∧ aa w5 wq) (fun i _ => (ca n).length - (intOf i).toNat)
   case atStart => exact ⟨0,Nat.zero_le _,rfl,zt n,ad _⟩
   case round =>
    obtain ⟨j,hj,rfl,wN,Jb⟩:=hrel;have Hnc:=zh wN;have vo:=zh Jb;clear wN Jb
    by_cases JN : j < (ca n).length
    ·obtain ⟨x,hx⟩:=aW (ca n) j JN;obtain ⟨v,i,y,z,rfl,hv,hy⟩:=Im Hn.out hx;obtain ⟨b,rfl,q0,q1,q2,q3⟩:=Dj.out j _ hx;have r0:=ae q0 wr vo.out;have r1:=ae q1 wr vo.out;have r2:=ae q2 wr vo.out;have r3:=ae q3 wr vo.out;have HTq:=zh (HT.out.since (nd.out.after vo.out));have t1:=ae (HTq.out.cell (ut hv));have t2:=ae (HTq.out.cell (ut hy));have m2 : IntKind.i64.wrap ((j : Int) + 1) = (j : Int) + 1:=aL _ (by omega) (by omega);obtain ⟨w8,rl⟩ : ∃ w8,w8 = wr.alloc (.cells #[.int .i64 v,.int .i64 i,.int .i64 y,.int .i64 z] 136):=⟨_,rfl⟩
     obtain ⟨be,me⟩ : ∃ be,be = wr.heap.size:=⟨_,rfl⟩
     have d0 : ∀ W,aa w8 W → W.cell? ⟨be,0,none⟩ = some (.int .i64 v):=ae (by rw [rl,me];simp)
     have d2 : ∀ W,aa w8 W → W.cell? ⟨be,2,none⟩ = some (.int .i64 y):=ae (by rw [rl,me];simp)
     have oP : aa wr w8:=by rw [rl];exact ah _ (ad _)
     have t1:=ai t1 oP;have t2:=ai t2 oP;have k_:=zh oP;have Qd:=zh rl;have SO:=zh me;have Hx:=zh hx;obtain ⟨a1,Re⟩ : ∃ a,gS n v = a:=⟨_,rfl⟩
     obtain ⟨a2,ha2⟩ : ∃ a,gS n y = a:=⟨_,rfl⟩
     have Hcl : Hid (mu n ((v : Int),(i : Int),(y : Int),(z : Int)) = (a1 == a2)):=by
      show _ = _
      unfold mu;simp only [Int.toNat_natCast];rw [fL hv,fL hy,Re,ha2]
     rw [Re] at t1;rw [ha2] at t2;clear hx q0 q1 q2 q3 rl me oP Re ha2;go_upto_region 12 with (fail);rw [← Qd.out,← SO.out];clear r0 r1 r2 r3;refine ao 11 (aa w8) (by kernel_rfl) (by kernel_rfl) (by simp) (ak (ad _)) ?_;simp only [zT]
     iterate 11 (apply ag rfl;(intro W hW;go_simp;with_reducible rfl);simp only [zA])
     intro W hW;have HW:=zh (vo.out.after (k_.out.after hW));clear hW d0 d2 t1 t2;cases hg : (a1 == a2)
     ·have px : Hid (qZ n (j + 1)):=by
       show _ = _
       rw [bk Hx.out,List.any_append,show ((ca n).take j).any (mu n) = false from Hnc.out];simp only [List.any_cons,List.any_nil,Hcl.out,hg,Bool.or_false]
      go_wp2;go_roundw
      case rel => exact ⟨j + 1,by omega,by first | rfl | go_num,px.out,HW.out⟩
      case measure => simp [intOf];omega
     ·have hbf:=B9 Hx.out (by rw [Hcl.out];exact hg)
      rw [nP.out] at hbf;subst hbf;go_wp2
      go_ret2
      exact ⟨.slice none 0 0,rfl,by simpa using cH _ _,aa.after bv.out (eY.out.after (nd.out.after HW.out))⟩
    ·obtain rfl : j = (ca n).length:=by omega
     have hbt:=B8 Hnc.out;rw [nP.out] at hbt;subst hbt;go_wp2
     go_ret2
     refine ⟨.slice (some ⟨A9,0,none⟩) n.ends.length c9,rfl,?_,aa.after bv.out (eY.out.after (nd.out.after vo.out))⟩;exact (HT.out.since (nd.out.after vo.out)).mono (Nat.le_trans bv.out.size cw.out.below.size)
section
variable {P : Program} {ops : Array Oper}
theorem dz {S : World → Prop} {fin : Act → World → Prop} {o : Oper} {rest : List Oper} {A : Act} {W : World} {ob : Obj} {v : Value} (hw : Region.wanted o (yielded ops A.tmps) = true) (h : (execOp A.eval o).run P W = .ok (.value v) (W.alloc ob)) (hS : S (W.alloc ob))
  (hr : ∀ W',W' = W.alloc ob → S W' → bA P ops S fin rest (A.put o.dst v) W') : bA P ops S fin (o :: rest) A W:=
 xT hw h hS (hr _ rfl hS)
end
structure aad (n : am) (K : List (List Bool)) (kf : Nat → Nat → Bool) : Prop where
 len : K.length = n.ends.length
 row : ∀ (v : Nat) (es : List (Int × Int)),n.ends[v]? = some es → ∃ row,K[v]? = some row ∧ row.length = es.length ∧ ∀ i,i < es.length → row[i]? = some (kf v i)
theorem ma (W : World) (x y : Value) (t : TypeId) : (W.alloc (.cells #[x,y] t)).cell? ⟨W.heap.size,0,none⟩ = some x ∧ (W.alloc (.cells #[x,y] t)).cell? ⟨W.heap.size,1,none⟩ = some y:=⟨by simp,by simp⟩
theorem kN {w : World} {ops : Array Oper} {rest : List Oper} {o : Oper} {a : Act} {Q : Exit → Act → World → Prop} (iS : o.guard = none) (s x : Operand)
  (ho : o.op = .call { callee:=.builtin .append,args:=#[s,x],argTypes:=#[81,81] }) {base : Nat} {v : Value} {xs : List (Int × Int)} {T : List Nat} (hs : a.eval s = v) (h : eU w base v xs T) (b : Nat) (y : Int × Int)
  (hx : a.eval x = .slice (some ⟨b,0,none⟩) 1 1) (hc : w.cell? ⟨b,0,none⟩ = some (.int .i64 y.1)) (eS : w.cell? ⟨b,1,none⟩ = some (.int .i64 y.2)) (hl : xs.length + 1 ≤ 1000000) (ww : base ≤ w.heap.size)
  (k : ∀ g cap w',eU w' base (.slice (some ⟨g,0,none⟩) (xs.length + 1) cap) (xs ++ [y]) [g] → w.grownBy w' v.ownBlock → (v.ownBlock = some g ∨ g = w.heap.size) → wpList Tryz.prog ops Q rest (a.put o.dst (.slice (some ⟨g,0,none⟩) (xs.length + 1) cap)) w') : wpList Tryz.prog ops Q (o :: rest) a w:=by
 obtain ⟨i0,hi,kg,eF,eD⟩:=info_parts Az
 refine wpList_append_lies w iS s x 81 ho base 83 i0 _ 2 16 Tryz.underlying81 hi kg eF eD rfl (by decide) v xs.length (xs.flatMap ni) hs h.1 ⟨b,0,none⟩ 1 1 [.int .i64 y.1,.int .i64 y.2] hx rfl
  (by intro j u hj;match j,hj with | 0,hj => (simp at hj;subst hj;simpa [Addr.add] using hc) | 1,hj => (simp at hj;subst hj;simpa [Addr.add] using eS) | j + 2,hj => simp at hj) (by simp [Value.oneCell']) (by omega) (by unfold maxLen;omega) (by omega) ww w.heap.size rfl ?_
 intro g cap w' q1 q2 q3 q4;have hq : w'.ownsRow base 83 2 (.slice (some ⟨g,0,none⟩) (xs.length + 1) cap) (xs ++ [y]).length ((xs ++ [y]).flatMap ni):=by simpa [ni] using q1
 exact k g cap w' ⟨hq,by simp [Value.ownBlock]⟩ q2 q3
def F_ (e : Ed) : Bool:=(e.1 == e.2.2.1) && (e.2.1 == e.2.2.2)
theorem KN (n : am) : (ca n).any F_ = yl n:=by
 unfold yl;congr 1
theorem KO (x : Ed) (w : World) : Calls Tryz.prog 148 #[.agg #[.int .i64 x.1,.int .i64 x.2.1,.int .i64 x.2.2.1,.int .i64 x.2.2.2]] w fun e w' => e = .returned (.bool (F_ x)) ∧ Below w.heap.size w w':=by
 unfold F_;obtain ⟨a,b,c,d⟩:=x;obtain ⟨w0,ck⟩ : ∃ w0,w0 = w.alloc (.cells #[.int .i64 a,.int .i64 b,.int .i64 c,.int .i64 d] 136):=⟨_,rfl⟩
 have bv : Hid (Below w.heap.size w w0):=by rw [ck];exact au _ _
 have p0 : ∀ W,aa w0 W → W.cell? ⟨w.heap.size,0,none⟩ = some (.int .i64 a):=ae (by rw [ck];simp)
 have p1 : ∀ W,aa w0 W → W.cell? ⟨w.heap.size,1,none⟩ = some (.int .i64 b):=ae (by rw [ck];simp)
 have p2 : ∀ W,aa w0 W → W.cell? ⟨w.heap.size,2,none⟩ = some (.int .i64 c):=ae (by rw [ck];simp)
 have p3 : ∀ W,aa w0 W → W.cell? ⟨w.heap.size,3,none⟩ = some (.int .i64 d):=ae (by rw [ck];simp)
 have dh:=zh ck;clear ck
 go_enter Tryz.func148,Tryz.ntmps148
 go_upto_region 1 with (fail);rw [← dh.out];refine aB 13 (aa w0) (ad _) ?_;simp only [zT]
 iterate 6 (apply ag rfl;(intro W hW;go_simp;with_reducible rfl);simp only [zA])
 iterate 5 (apply aj rfl rfl;(intro hb;intro W hW;go_simp;with_reducible rfl);simp only [zA])
 (first | refine bJ rfl rfl ?_ | (apply ag rfl;(intro W hW;go_simp;with_reducible rfl)));simp only [zA]
 apply ag rfl;(intro W hW;go_simp;with_reducible rfl);simp only [zA]
 intro W hW;go_wp2;go_ret;exact ⟨rfl,aa.after bv.out hW⟩
theorem B_ : ∀ args w,(callFunc 148 args).run Tryz.prog w = .ok (.enter 148 args) w:=enters_of Tryz.func148 (by kernel_rfl) rfl
theorem Ca (n : am) (k : Nat) : ja n (k + 1) = ja n k + (if al n k == k then 1 else 0):=by
 unfold ja;rw [List.range_succ,List.countP_append];simp only [List.countP_cons,List.countP_nil,Nat.zero_add]
theorem Io (n : am) (k : Nat) : ja n k ≤ k:=by
 unfold ja;exact Nat.le_trans List.countP_le_length (by simp)
theorem zu (ve vi vn : Value) (n : am) (w : World) (h : aT w ve vi vn n) (hn : an n = true) :
  Calls Tryz.prog 79 #[.agg #[ve,vi,vn]] w fun e w' => e = .returned (.bool (xg n)) ∧ Below w.heap.size w w':=by
 have kE:=aN hn;have KJ:=kE.1;have KK:=kE.2;have Hn:=zh hn
 obtain ⟨w0,A,c,A2,c2,A3,c3,rfl,rfl,rfl,ft,hm,f6,gF,HA,dh,bv,H,eG,eX,fb⟩:=zB h;clear h
 have cX : aa w0 w0:=ad _;obtain ⟨rb,kq⟩ : ∃ rb,xg n = rb:=⟨_,rfl⟩
 have nP:=zh kq;rw [kq];clear hn kE kq
 go_enter Tryz.func79,Tryz.ntmps79
 go_upto_region 1 with (fail);rw [← dh.out];go_wp2_with fail;refine (xY _ _ _ n w0 H.out Hn.out).mono ?_;rintro e w1 ⟨u1,rfl,iu,bj⟩;have gh : Hid (aa w0 w1):=bj;have ig:=qz u1 (ca n) 148 #[] F_ w1 iu.read B_ (fun x _ w _ => KO x w)
 rw [KN] at ig;have o5:=zh ig;obtain ⟨A1,c1,rfl,eS,rj,_⟩:=id iu.read;unfold maxLen at eS
 have GK : (ca n).length ≤ 240:=by have:=nu Hn.out n.ends.length;show (ea n n.ends.length).length ≤ _;omega
 have SN:=zh GK;clear ig iu bj cX;go_wp2_with fail;refine o5.out.mono ?_;rintro e w2 ⟨rfl,b_⟩;have cw:=zh (gh.out.after b_);have dE:=cw.out;clear b_;cases gE : yl n
 ·go_wp2_with fail;refine (fj _ _ _ n w2 (H.out.keep cw.out.below) Hn.out).mono ?_;rintro e w3 ⟨u3,rfl,ie,bg⟩;have kh : (dW n).length = n.ends.length:=by simp [dW]
  obtain ⟨gc,cc,rfl⟩ : ∃ gc cc,u3 = .slice (some ⟨gc,0,none⟩) n.ends.length cc:=by
   rcases ie.cases with ⟨-,e1⟩ | ⟨gc,cc,rfl,ib,oH⟩
   ·have:=congrArg List.length e1;rw [kh,List.length_nil] at this;omega
   ·exact ⟨gc,cc,by rw [kh]⟩
  have ms:=zh ie;have eY:=zh (cw.out.after bg);have pd:=zh gE;clear ie bg kh dE gE;go_wp2
  go_loopw [4,14] (fun u i wr => ∃ k : Nat,k ≤ n.ends.length ∧ i = .int .i64 k ∧ u = .int .i64 (ja n k : Nat) ∧ aa w3 wr) (fun _ i _ => n.ends.length - (intOf i).toNat)
  case atStart => exact ⟨0,Nat.zero_le _,rfl,rfl,ad _⟩
  case round =>
   obtain ⟨k,hk,rfl,rfl,cJ⟩:=hrel;have Hs:=zh cJ;clear cJ;have MB:=Io n k
   by_cases hlt : k < n.ends.length
   ·have m3 : IntKind.i64.wrap ((k : Int) + 1) = (k : Int) + 1:=aL _ (by omega) (by omega);have m4 : IntKind.i64.wrap ((ja n k : Int) + 1) = (ja n k : Int) + 1:=aL _ (by omega) (by omega);obtain ⟨p,hp⟩ : ∃ p,p = al n k:=⟨_,rfl⟩
    have c1:=(ms.out.since Hs.out).cell (show (dW n)[k]? = some (p : Int) by rw [hp];unfold dW;rw [List.getElem?_map,List.getElem?_range hlt];rfl)
    have tl:=Ca n k;rw [← hp] at tl;clear hp
    by_cases he : p = k
    ·subst he;rw [if_pos (by simp)] at tl;have HN1:=zh tl;clear tl;go_wp2;go_roundw
     case rel => exact ⟨p + 1,by omega,by first | rfl | go_num,by rw [HN1.out];first | rfl | go_num,Hs.out⟩
     case measure => simp [intOf];omega
    ·have me : ((k : Int) == (p : Int)) = false:=by simp;omega
     rw [if_neg (by simpa using he)] at tl;have HN1:=zh tl;clear tl he;go_wp2;go_roundw
     case rel => exact ⟨k + 1,by omega,by first | rfl | go_num,by rw [HN1.out];first | rfl | go_num,Hs.out⟩
     case measure => simp [intOf];omega
   ·obtain rfl : k = n.ends.length:=by omega
    have mg:=zh (eY.out.after Hs.out);have q0:=eG _ mg.out;obtain ⟨R,hR⟩ : ∃ R,ja n n.ends.length = R:=⟨_,rfl⟩
    rw [hR] at MB ⊢;have m5 : IntKind.i64.wrap ((n.ends.length : Int) - (R : Int)) = (n.ends.length : Int) - (R : Int):=aL _ (by omega) (by omega);obtain ⟨E,hE⟩ : ∃ E,(ca n).length = E:=⟨_,rfl⟩
    have Vf : ((E : Int) == (n.ends.length : Int) - (R : Int)) = rb:=by
     rw [← nP.out];unfold xg;rw [pd.out,hR,hE,Bool.not_false,Bool.true_and,Bool.eq_iff_iff,beq_iff_eq,decide_eq_true_eq];omega
    rw [hE] at rj ⊢;have aae:=zh Vf;clear Vf hR hE hk hlt;go_wp2;go_ret;exact ⟨bP aae.out,aa.after bv.out mg.out⟩
 ·have hf : rb = false:=by rw [← nP.out];unfold xg;rw [gE];rfl
  subst hf;go_wp2;go_ret;exact ⟨rfl,aa.after bv.out cw.out⟩
def Rf (n : am) (k : Nat) : Prop:=∀ v,v < k → nD n v = true
theorem Ei {n : am} (h : Rf n n.ends.length) : kc n = true:=by
 unfold kc;rw [List.all_eq_true];exact fun v hv => h v (List.mem_range.1 hv)
theorem Ej {n : am} {v : Nat} (h : (mz n (al n v)).length = 1) : js n v = true:=by unfold js;rw [h];rfl
theorem ir (ve vi vn : Value) (n : am) (s : Int) (w : World) (h : aT w ve vi vn n) (_ : -9223372036854775808 ≤ s ∧ s ≤ 9223372036854775807) (ed : f_ n ≤ 1048576) :
  Calls Tryz.prog 23 #[.agg #[ve,vi,vn],.int .i64 s] w fun e w' => e = .returned (.tuple #[.bool (aQ n s),.bool (bx n s)]) ∧ Below w.heap.size w w':=by
 have DV : Hid (n.ids.length ≤ 17592186044416):=by show _ ≤ _;unfold f_ at ed;omega
 clear ed
 obtain ⟨w0,A,c,A2,c2,A3,c3,rfl,rfl,rfl,ft,hm,f6,gF,HA,dh,bv,H,eG,eX,fb⟩:=zB h;clear h
 obtain ⟨r0,M8⟩ : ∃ r,aQ n s = r:=⟨_,rfl⟩
 obtain ⟨r1,rZ⟩ : ∃ r,bx n s = r:=⟨_,rfl⟩
 have Vg:=zh M8;have qM:=zh rZ;rw [M8,rZ];clear M8 rZ
 go_enter Tryz.func23,Tryz.ntmps23
 go_upto_region 1 with (fail);rw [← dh.out];refine aB 8 (aa w0) (ad _) ?_;simp only [zT]
 apply ag rfl;(intro W hW;go_simp;with_reducible rfl);simp only [zA]
 refine dn ?_ rfl ?_ ?_;rotate_left;(intro W hW;unfold bG;go_simp;(with_reducible refine (dF _ _ _ n W (H.out.keep hW.below) DV.out).mono ?_);rintro e W' ⟨rfl,bg⟩;first | (refine ⟨?_,aa.trans hW bg⟩;with_reducible rfl) | (subst bg;refine ⟨?_,hW⟩;with_reducible rfl))
 simp only [zA]
 iterate 2 (apply ag rfl;(intro W hW;go_simp;with_reducible rfl);simp only [zA])
 apply aj rfl rfl;(intro hb;intro W hW;go_simp;with_reducible rfl);simp only [zA]
 refine bC (v:=?_) rfl rfl ?_ ?_;rotate_left;(intro hb;intro W hW;unfold bG;go_simp;(with_reducible refine (kt _ W).mono ?_);rintro e W' ⟨rfl,bg⟩;first | (refine ⟨?_,aa.trans hW bg⟩;with_reducible rfl) | (subst bg;refine ⟨?_,hW⟩;with_reducible rfl))
 simp only [zA]
 apply aj rfl rfl;(intro hb;intro W hW;go_simp;with_reducible rfl);simp only [zA]
 (first | refine bu rfl rfl ?_ | (apply ag rfl;(intro W hW;go_simp;with_reducible rfl)));simp only [zA]
 intro W hW;have HW:=zh hW
 cases hg : (!an n || !ee 1 5 s)
 ·simp only [Bool.or_eq_false_iff,Bool.not_eq_false'] at hg
  have e0 : r0 = ik n s:=by rw [← Vg.out];unfold aQ xh;rw [hg.1,hg.2];rfl
  have e1 : r1 = qN n s:=by rw [← qM.out];unfold bx xh;rw [hg.1,hg.2];rfl
  have Hn:=zh hg.1;have cJ:=aM.1 hg.2;have kE:=aN hg.1;have KJ:=kE.1;have KK:=kE.2
  have he : (!an n || !ee 1 5 s) = false:=by rw [hg.1,hg.2];rfl
  have Pl:=zh e0;have HE1:=zh e1;clear hg kE e0 e1
  by_cases h1 : s = 1
  ·subst h1
   have e0 : r0 = pH n:=by rw [Pl.out];unfold ik;rw [if_pos rfl]
   have e1 : r1 = true:=by rw [HE1.out];unfold qN;rw [if_neg (by decide)]
   subst e0 e1;go_wp2_with fail;refine (l_ _ _ _ n W (H.out.keep HW.out.below) Hn.out).mono ?_;rintro e w1 ⟨u,rfl,ho,hb⟩;have gh:=zh (HW.out.after hb);clear ho hb hW;go_wp2
   go_ret2
   exact ⟨rfl,aa.after bv.out gh.out⟩
  by_cases h2 : s = 2
  ·subst h2
   have e0 : r0 = O0 (ii n):=by rw [Pl.out];unfold ik;rw [if_neg h1,if_pos rfl]
   have e1 : r1 = (ii n).isSome:=by rw [HE1.out];unfold qN;rw [if_pos rfl]
   subst e0 e1;go_wp2_with fail;refine (pN _ _ _ n W (H.out.keep HW.out.below) Hn.out).mono ?_;rintro e w1 ⟨u,rfl,ho,hb⟩;have gh:=zh (HW.out.after hb);have Ho:=zh ho;clear ho hb hW
   cases hR : ii n with
   | none =>
    rw [hR] at Ho;obtain rfl : u = .slice none 0 0:=Ho.out
    go_wp2
    go_ret2
    rw [hR];exact ⟨rfl,aa.after bv.out gh.out⟩
   | some q =>
    cases q with
    | none =>
     rw [hR] at Ho;obtain rfl : u = .slice none 0 0:=Ho.out
     go_wp2
     go_ret2
     rw [hR];exact ⟨rfl,aa.after bv.out gh.out⟩
    | some l =>
     rw [hR] at Ho;obtain ⟨g,c9,rfl⟩ : ∃ g c,u = .slice (some ⟨g,0,none⟩) n.ends.length c:=Ho.out
     go_wp2
     go_ret2
     rw [hR];exact ⟨rfl,aa.after bv.out gh.out⟩
  have e1 : r1 = true:=by rw [HE1.out];unfold qN;rw [if_neg h2]
  subst e1
  by_cases h3 : s = 3
  ·subst h3
   have e0 : r0 = xg n:=by rw [Pl.out];unfold ik;rw [if_neg h1,if_neg h2,if_pos rfl]
   subst e0;go_wp2_with fail;refine (zu _ _ _ n W (H.out.keep HW.out.below) Hn.out).mono ?_;rintro e w1 ⟨rfl,hb⟩;have gh:=zh (HW.out.after hb);clear hb hW;go_wp2
   go_ret2
   exact ⟨rfl,aa.after bv.out gh.out⟩
  have b1 : (s == 1) = false:=by simpa using h1
  have b2 : (s == 2) = false:=by simpa using h2
  have b3 : (s == 3) = false:=by simpa using h3
  have Vh:=eX W hW
  by_cases hid : n.ids.length = 0
  ·have e0 : r0 = false:=by rw [Pl.out];unfold ik;rw [if_neg h1,if_neg h2,if_neg h3,if_pos hid]
   subst e0;have Um : ((n.ids.length : Int) == 0) = true:=by simpa using hid
   clear h1 h2 h3 hid hW;go_wp2
   go_ret2
   exact ⟨rfl,aa.after bv.out HW.out⟩
  have Um : ((n.ids.length : Int) == 0) = false:=by simpa using hid
  have Un : ¬ n.ids = []:=fun e => hid (by rw [e];rfl)
  by_cases h4 : s = 4
  ·subst h4
   have e0 : r0 = fZ n:=by rw [Pl.out];unfold ik;rw [if_neg h1,if_neg h2,if_neg h3,if_neg hid,if_pos rfl]
   have KP : Hid (fZ n = r0):=e0.symm;clear e0 h1 h2 h3 b1 b2 b3 hid;go_wp2_with fail;refine (sk _ _ _ n W (H.out.keep HW.out.below) Hn.out).mono ?_;rintro e w3 ⟨b,D,U,rfl,hm,wy,rq,hb⟩;have Hm:=zh hm;have F9:=zh wy;have eY:=zh (HW.out.after hb);have vj : Hid (w0.heap.size ≤ b):=Nat.le_trans HW.out.below.size rq;obtain ⟨r,hr⟩ : ∃ r,w3.heap.size = r:=⟨_,rfl⟩
   have Db : Hid (w0.heap.size ≤ r):=by show _ ≤ _;rw [← hr];exact eY.out.below.size
   clear hm wy rq hb hW Vh
   go_wp2_with (first | (at_range;refine wpList_range_own _ rfl _ 112 rfl 3 25 B5 Tryz.underlying112 sL b 100 D rfl Hm.out ?_;rw [hr];intro w4 wV Bn kD;have Hrg:=zh wV;have mg : Hid (aa w0 w4):=Below.grown eY.out Bn eY.out.below.size (fun j hj => by simp at hj);clear wV Bn kD))
   go_frame
   clear hr
   go_loopw [11] (fun _ wr => ∃ left cnt,wr.ranges Tryz.prog 3 sL b r 100 D left cnt ∧ (∀ kl,left kl = true → Maps.has D kl = true) ∧ (∀ v,v < n.ends.length → left (kI (al n v)) = false → js n v = true) ∧ aa w0 wr) (fun _ wr => wr.rangeLeft b r)
   case atStart => exact ⟨_,_,Hrg.out,fun _ h => h,fun v hv h => absurd ((F9.out.all v hv).symm.trans h) (by simp),mg.out⟩
   case round =>
    obtain ⟨left,cnt,wV,rj,lp,KQ⟩:=hrel;have KR:=zh wV;have Pe:=zh rj;have Cb:=zh lp;have Ek:=zh KQ;clear wV rj lp KQ
    go_wp2_with (first | (at_next;refine wpList_next_ranges _ rfl _ rfl 3 B5 sL (Value.int .i64) (fun c : Option Addr × Nat × Nat => Value.slice c.1 c.2.1 c.2.2) (fun n8 kl NH => by obtain ⟨x,rfl,_⟩:=Go.Maps.keyOf_int_inv Tryz.underlying3 NH;exact ⟨x,rfl⟩) (fun v y hv => by rcases l9 hv with ⟨m,c,rfl,_⟩ | ⟨g,m,c,rfl,_⟩ <;> exact ⟨(_,_,_),rfl⟩) b r 100 D left cnt rfl KR.out ?_ ?_))
    ·intro h0 hl
     have bj : r0 = true:=by
      rw [← KP.out];exact Ec (fun v hv => Cb.out v hv (hl _))
     subst bj;go_wp2
     go_ret2
     exact ⟨rfl,aa.after bv.out Ek.out⟩
    ·intro x cA cn cc kl y1 y2 w5 aaf NH CU hv I9 El KS Vi ro hen
     (try dsimp only at hv)
     (try dsimp only at hen)
     (try dsimp only)
     obtain ⟨v0,sR,rfl⟩:=F9.out.keys kl (Pe.out kl CU);obtain ⟨p,hp⟩ : ∃ p,al n v0 = p:=⟨_,rfl⟩
     rw [hp] at NH CU I9 El
     have Te : cn = (mz n p).length:=by
      have e1:=F9.out.val p
      have e2 : (y1,y2) = (D.atKey (kI p) zD,[]):=by
       have e3:=I9 zD;rcases l9 hv with ⟨_,_,_,e4⟩ | ⟨_,_,_,_,e4⟩
       ·rw [e3,(Prod.mk.inj e4).2]
       ·rw [e3,(Prod.mk.inj e4).2]
      rw [← e2] at e1;have e5:=F7 hv e1;have e6:=F9.out.own p;rw [← e5] at e6;rcases e6.cases with ⟨e7,e8⟩ | ⟨g,c0,e7,-,-⟩
      ·simp only [Value.slice.injEq] at e7
       have:=congrArg List.length e8
       rw [List.length_map,List.length_nil] at this;unfold mz;omega
      ·simp only [Value.slice.injEq] at e7;rw [List.length_map] at e7;unfold mz;omega
     have KT:=zh El
     have nd : Hid (aa w0 w5):=Below.grown Ek.out Vi Ek.out.below.size (fun j hj => by simp only [Option.some.injEq] at hj;have:=Db.out;omega)
     have Hcn:=zh Te;have Hp:=zh hp;have Rg:=zh KS;clear NH CU hv I9 El KS Vi ro hp Te
     by_cases h1 : cn = 1
     ·subst h1
      have Hn2 : Hid (∀ v,v < n.ends.length → (left (kI (al n v)) && !(kI (al n v)).sameKey (kI p)) = false → js n v = true):=fun v hv hc => by
       rcases Bool.and_eq_false_iff.1 hc with h2 | h2
       ·exact Cb.out v hv h2
       ·have h3 : al n v = p:=vq (WideAt.sameKey_eq (by simpa using h2))
        exact Ej (by rw [h3];exact Hcn.out.symm)
      go_wp2;go_roundw
      case rel => exact ⟨_,_,KT.out,fun kl hk => Pe.out kl (by rw [Bool.and_eq_true] at hk;exact hk.1),Hn2.out,nd.out⟩
      case measure => rw [KT.out.left_eq,KR.out.left_eq];exact Rg.out
     ·have lN:=DS sR (by rw [Hp.out,← Hcn.out];exact h1)
      rw [KP.out] at lN;subst lN
      have h2 : ((cn : Int) != 1) = true:=by simp;omega
      have h3 : ((cn : Int) == 1) = false:=by simp;omega
      go_wp2
      go_ret2
      exact ⟨rfl,aa.after bv.out nd.out⟩
  have e0 : r0 = kc n:=by rw [Pl.out];unfold ik;rw [if_neg h1,if_neg h2,if_neg h3,if_neg hid,if_neg h4]
  have KP : Hid (kc n = r0):=e0.symm;have b4 : (s == 4) = false:=by simpa using h4
  clear e0 h1 h2 h3 h4 hid;go_wp2_with fail;refine (pR _ _ _ n W (H.out.keep HW.out.below) Hn.out).mono ?_;rintro e w3 ⟨b,D,rfl,hm,wy,rq,hb⟩;have Hm:=zh hm;have F9:=zh wy;have eY:=zh (HW.out.after hb);obtain ⟨r,hr⟩ : ∃ r,w3.heap.size = r:=⟨_,rfl⟩
  have Db : Hid (w0.heap.size ≤ r):=by show _ ≤ _;rw [← hr];exact eY.out.below.size
  clear hm wy rq hb hW Vh
  go_wp2_with (first | (at_range;refine wpList_range_own _ rfl _ 114 rfl 3 3 B5 Tryz.underlying114 (plainElem (H:=Unit) Tryz.prog 3) b n.ends.length D rfl Hm.out ?_;rw [hr];intro w4 wV Bn kD;have Hrg:=zh wV;have mg : Hid (aa w0 w4):=Below.grown eY.out Bn eY.out.below.size (fun j hj => by simp at hj);clear wV Bn kD))
  go_frame
  clear hr
  go_loopw [13] (fun _ wr => ∃ left cnt,wr.ranges Tryz.prog 3 (plainElem (H:=Unit) Tryz.prog 3) b r n.ends.length D left cnt ∧ (∀ kl,left kl = true → Maps.has D kl = true) ∧ (∀ v,v < n.ends.length → left (kI (al n v)) = false → nD n v = true) ∧ aa w0 wr) (fun _ wr => wr.rangeLeft b r)
  case atStart => exact ⟨_,_,Hrg.out,fun _ h => h,fun v hv h => absurd ((F9.out.all v hv).symm.trans h) (by simp),mg.out⟩
  case round =>
   obtain ⟨left,cnt,wV,rj,lp,KQ⟩:=hrel;have KR:=zh wV;have Pe:=zh rj;have Cb:=zh lp;have Ek:=zh KQ;clear wV rj lp KQ
   go_wp2_with (first | (at_next;refine wpList_next_ranges_ii _ rfl _ rfl 3 3 .i64 .i64 B5 Tryz.underlying3 Tryz.underlying3 b r n.ends.length D left cnt rfl KR.out ?_ ?_))
   ·intro h0 hl
    have bj : r0 = true:=by
     rw [← KP.out];exact Ei (fun v hv => Cb.out v hv (hl _))
    subst bj;go_wp2
    go_ret2
    exact ⟨rfl,aa.after bv.out Ek.out⟩
   ·intro x c9 w5 aaf hwx Yf CU I9 El KS Vi ro hen;obtain ⟨v0,sR,lq⟩:=F9.out.keys _ (Pe.out _ CU);obtain ⟨p,hp⟩ : ∃ p,al n v0 = p:=⟨_,rfl⟩
    rw [hp] at lq;rw [lq] at CU I9 El
    have Te : c9 = ((li n p : Nat) : Int):=by
     have e1:=(I9 (lI 0)).symm.trans (F9.out.val p);exact nN e1
    obtain ⟨z,hz⟩ : ∃ z,li n p = z:=⟨_,rfl⟩
    rw [hz] at Te;subst Te;have KT:=zh El
    have nd : Hid (aa w0 w5):=Below.grown Ek.out Vi Ek.out.below.size (fun j hj => by simp only [Option.some.injEq] at hj;have:=Db.out;omega)
    have Hz:=zh hz;have Hp:=zh hp;have Rg:=zh KS;clear hwx Yf CU I9 El KS Vi ro hp hz lq
    by_cases OI : z % 2 = 1
    ·have t1 : Int.tmod (z : Int) 2 = 1:=by rw [Int.tmod_eq_emod_of_nonneg (by omega)];omega
     have t2 : (z : Int) % 2 = 1:=by omega
     have lN : kc n = false:=zi sR (by unfold nD;rw [Hp.out,Hz.out,OI];rfl)
     rw [KP.out] at lN;subst lN;go_wp2
     go_ret2
     exact ⟨rfl,aa.after bv.out nd.out⟩
    ·have t1 : Int.tmod (z : Int) 2 = 0:=by rw [Int.tmod_eq_emod_of_nonneg (by omega)];omega
     have t2 : (z : Int) % 2 = 0:=by omega
     have Hn2 : Hid (∀ v,v < n.ends.length → (left (kI (al n v)) && !(kI (al n v)).sameKey (kI p)) = false → nD n v = true):=fun v hv hc => by
      rcases Bool.and_eq_false_iff.1 hc with h2 | h2
      ·exact Cb.out v hv h2
      ·have h3 : al n v = p:=vq (WideAt.sameKey_eq (by simpa using h2));unfold nD;rw [h3,Hz.out]
       have : (z % 2 == 1) = false:=by simpa using OI
       rw [this];rfl
     clear OI;go_wp2;go_roundw
     case rel => exact ⟨_,_,KT.out,fun kl hk => Pe.out kl (by rw [Bool.and_eq_true] at hk;exact hk.1),Hn2.out,nd.out⟩
     case measure => rw [KT.out.left_eq,KR.out.left_eq];exact Rg.out
 ·have lN : xh n s = false:=by unfold xh;revert hg;cases an n <;> cases ee 1 5 s <;> simp
  have e0 : r0 = false:=by rw [← Vg.out];unfold aQ;rw [lN];rfl
  have e1 : r1 = false:=by rw [← qM.out];unfold bx;rw [lN];rfl
  subst e0 e1;clear hW lN;go_wp2
  go_ret2
  exact ⟨rfl,aa.after bv.out HW.out⟩
theorem Ip {n : am} {s : Int} (h : ik n s = true) : qN n s = true:=by
 unfold qN
 by_cases e : s = 2
 ·subst e;rw [if_pos rfl];unfold ik at h;rw [if_neg (by decide),if_pos rfl] at h
  cases hR : ii n with
  | none => rw [hR] at h;cases h
  | some R => rfl
 ·rw [if_neg e]
def bw (n : am) (s : Int) : Bool:=xh n s && ik n s
def bh (n : am) (s : Int) : List Int:=if bw n s = true then sI n s else []
theorem Vj (n : am) (s : Int) : aQ n s = bw n s:=rfl
theorem NI (n : am) (s : Int) : (!bx n s || !aQ n s) = !bw n s:=by
 unfold bx aQ bw
 cases xh n s
 ·rfl
 ·cases hh : ik n s
  ·simp
  ·rw [Ip hh];rfl
end Go.Proofs.YtgmdpppljkmabaaGreat
