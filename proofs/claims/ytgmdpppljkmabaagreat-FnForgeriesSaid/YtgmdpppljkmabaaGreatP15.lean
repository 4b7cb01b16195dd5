/- Parts of the proof: walks of functions and plain laws. -/
import Derived.Test.YtgmdpppljkmabaaGreatP0
import Derived.Test.YtgmdpppljkmabaaGreatP14
import Derived.Test.YtgmdpppljkmabaaGreatP3
import Derived.Test.YtgmdpppljkmabaaGreatP6
import Derived.Test.YtgmdpppljkmabaaGreatP9
import Derived.Laws.EntriesVeiled
import Derived.Test.YtgmdpppljkmabaaGreatP1
import Derived.Test.YtgmdpppljkmabaaGreatP11
set_option maxRecDepth 100000
set_option maxHeartbeats 16000000
namespace Go.Proofs.YtgmdpppljkmabaaGreat
open Go Go.RowKit
def dB (n : am) (s : Int) (B : Nat) : Nat → Nat × List Int
 | 0 => (n.ends.length + 1,[])
 | k + 1 => if (iT n s (dp B n.ends.length k)).length < (dB n s B k).1 then ((iT n s (dp B n.ends.length k)).length,dp B n.ends.length k) else dB n s B k
theorem Ih {n : am} {s : Int} {B : Nat} (k : Nat) : (dB n s B k).1 ≤ n.ends.length + 1 ∧ (dB n s B k).2.length ≤ n.ends.length:=by
 induction k with
 | zero => simp [dB]
 | succ k ih =>
  unfold dB
  split
  ·have:=FR n s (dp B n.ends.length k)
   rw [dS] at this
   exact ⟨by simp only;omega,by simp only;rw [dS];exact Nat.le_refl _⟩
  ·exact ih
def bV (n : am) (s most : Int) : Bool:=ax n s most
def aJ (n : am) (s most : Int) : Int:=if ax n s most then ((dB n s (most.toNat + 1) (nM most n.ends.length).toNat).1 : Int) else 0
def aF (n : am) (s most : Int) : List Int:=if ax n s most then (dB n s (most.toNat + 1) (nM most n.ends.length).toNat).2 else []
theorem D8 {a b : Int} {u : Value} {c d : Bool} (h1 : a = b) (h2 : c = d) : Ending.returned (.tuple #[.int .i64 a,u,.bool c]) = .returned (.tuple #[.int .i64 b,u,.bool d]):=by rw [h1,h2]
def U1 (W : World) (b : Nat) (u : Value) : Prop:=W.heap[b]? = some (.cells #[u] 25)
theorem U1.cells {W : World} {b : Nat} {u : Value} (h : U1 W b u) : W.cell? ⟨b,0,none⟩ = some u ∧ W.frozen? ⟨b,0,none⟩ = false:=by
 unfold U1 at h;constructor
 ·simp [World.cell?,h]
 ·simp [World.frozen?,h]
theorem U1.lt {W : World} {b : Nat} {u : Value} (h : U1 W b u) : b < W.heap.size:=(Array.getElem?_eq_some_iff.1 h).1
theorem U1.since {W W' : World} {b : Nat} {u : Value} (h : U1 W b u) (hs : aa W W') : U1 W' b u:=(hs.below.block b h.lt).trans h
theorem U1.only {W W' : World} {b : Nat} {u : Value} {S : List Nat} (h : U1 W b u) (ho : aU S W W') (hb : b ∉ S) : U1 W' b u:=(ho.block b h.lt hb).trans h
theorem U1.other {W : World} {b b' : Nat} {u : Value} (h : U1 W b u) (hb : b ≠ b') (i : Nat) (v : Value) : U1 (W.setCell ⟨b',i,none⟩ v) b u:=(Below.heap_setCell W _ v b hb).trans h
theorem I1.other {W : World} {b b' : Nat} {x : Int} (h : I1 W b x) (hb : b ≠ b') (i : Nat) (v : Value) : I1 (W.setCell ⟨b',i,none⟩ v) b x:=(Below.heap_setCell W _ v b hb).trans h
theorem U1.set {W : World} {b : Nat} {u : Value} (h : U1 W b u) (v : Value) : U1 (W.setCell ⟨b,0,none⟩ v) b v:=by
 unfold U1 at *
 simp [World.setCell,Array.getElem?_modify,h]
theorem U1.new (W : World) (u : Value) : U1 (W.alloc (.cells #[u] 25)) W.heap.size u:=by
 unfold U1;show (W.heap.push _)[W.heap.size]? = _
 rw [Array.getElem?_push_size]
def QQ (W W' : World) (bl bb : Nat) (q r : Nat) (u : Value) (ls : List Int) : Prop:=
 aU [bl,bb] W W' ∧ ((r < q ∧ I1 W' bl r ∧ ∃ u',U1 W' bb u' ∧ Own W' W.heap.size u' ls) ∨ (¬ r < q ∧ I1 W' bl q ∧ U1 W' bb u))
theorem D9 (ve vi vn vl : Value) (n : am) (s : Int) (ls : List Int) (q : Nat) (u : Value) (bl bb bn bs : Nat) (w : World) (h : aT w ve vi vn n) (hl : bD w vl ls) (gD : eL n s ls = true) (p_ : ls.length ≤ 17592186044416) (hc : I1 w bl q) (hb : U1 w bb u) (fS : bl ≠ bb) (A0 : Option Addr) (l0 k0 : Nat) (hu : u = .slice A0 l0 k0)
  (c0 : w.cell? ⟨bn,0,none⟩ = some ve) (c1 : w.cell? ⟨bn,1,none⟩ = some vi) (c2 : w.cell? ⟨bn,2,none⟩ = some vn) (c3 : w.cell? ⟨bs,0,none⟩ = some (.int .i64 s)) :
  Calls Tryz.prog 91 #[vl,.pointer (some ⟨bn,0,none⟩),.pointer (some ⟨bs,0,none⟩),.pointer (some ⟨bl,0,none⟩),.pointer (some ⟨bb,0,none⟩)] w fun e w' => (∃ x,e = .returned x) ∧ QQ w w' bl bb q (iT n s ls).length u ls:=by
 subst hu;have H:=zh h;have HL:=zh hl;have HC:=zh hc;have HB:=zh hb;have th:=zh fS;have eS:=hc.cells.1;have hr:=jt _ _ _ _ n s ls w h hl gD;have Hr:=zh hr;obtain ⟨AL,cL,rfl,sA,mn,_⟩:=hl;obtain ⟨⟨A,c,rfl,ft,hm,_⟩,⟨A2,oK,rfl,_,ly,_⟩,⟨A3,pc,rfl,_,rF,_⟩⟩:=h;clear gD hc hb fS hr
 go_enter Tryz.func91,Tryz.ntmps91
 go_wp2_with fail;refine Hr.out.mono ?_;rintro e w1 ⟨u1,rfl,iu,bj⟩;have d1:=aa.cell bj eS;obtain ⟨Bv,dv,rfl,_⟩:=id iu.ints;have gG:=zh bj;clear iu bj c0 c1 c2 c3 eS Hr
 by_cases he : (iT n s ls).length < q
 ·go_wp2_with fail;refine (xH _ ls w1 (HL.out.keep gG.out) p_).mono ?_;rintro e w2 ⟨u2,rfl,dL,b_⟩;have dE : aa w w2:=aa.trans gG.out b_;obtain ⟨Bw,dw,rfl,_⟩:=id dL.ints;have cw:=zh dE;have iU:=zh dL;have Fw:=zh (Below.size gG.out);have e1:=(HC.out.since dE).cells.1;have e2:=(HC.out.since dE).cells.2;have e3:=((HB.out.since dE).other th.out.symm 0 (.int .i64 ((iT n s ls).length : Int))).cells.1;have e4:=((HB.out.since dE).other th.out.symm 0 (.int .i64 ((iT n s ls).length : Int))).cells.2;clear dL b_ dE d1;go_wp2
  first | go_end0 | refine bodyPost_ret (results_none rfl _ _ _) rfl ?_
  refine ⟨⟨_,rfl⟩,((aU.of_below cw.out.below).setCell (.inl (by simp)) _).setCell (.inl (by simp)) _,.inl ⟨he,((HC.out.since cw.out).set _).other th.out 0 _,_,((HB.out.since cw.out).other th.out.symm 0 _).set _,?_⟩⟩;have pF : ∀ j,(Value.slice Bw ls.length dw).ownBlock = some j → w.heap.size ≤ j:=fun j hj => Nat.le_trans Fw.out (World.ownsRow.lt iU.out j (by simpa using hj)).1
  refine nL (nL (iU.out.mono Fw.out) (S:=[bl]) ((aU.refl _ _).setCell (.inl (by simp)) _) (fun k hk e => ?_)) (S:=[bb]) ((aU.refl _ _).setCell (.inl (by simp)) _) (fun k hk e => ?_)
  ·simp at hk;subst hk;have:=pF _ e;have:=HC.out.lt;omega
  ·simp at hk;subst hk;have:=pF _ e;have:=HB.out.lt;omega
 ·clear HL;go_wp2
  first | go_end0 | refine bodyPost_ret (results_none rfl _ _ _) rfl ?_
  exact ⟨⟨_,rfl⟩,aU.of_below gG.out,.inr ⟨he,HC.out.since gG.out,HB.out.since gG.out⟩⟩
theorem xn : ∀ args w,(callFunc 91 args).run Tryz.prog w = .ok (.enter 91 args) w:=enters_of Tryz.func91 (by kernel_rfl) rfl
theorem kK (ve vi vn : Value) (n : am) (s most : Int) (w : World) (h : aT w ve vi vn n) (_ : -9223372036854775808 ≤ s ∧ s ≤ 9223372036854775807) (hmb : -9223372036854775808 ≤ most ∧ most ≤ 9223372036854775807) (ed : f_ n ≤ 1048576) :
  Calls Tryz.prog 27 #[.agg #[ve,vi,vn],.int .i64 s,.int .i64 most] w fun e w' => ∃ u,e = .returned (.tuple #[.int .i64 (aJ n s most),u,.bool (bV n s most)]) ∧ Own w' w.heap.size u (aF n s most) ∧ Below w.heap.size w w':=by
 obtain ⟨w0,ck⟩ : ∃ w0,w0 = ((w).alloc (.cells #[ve,vi,vn] 27)).alloc (.cells #[.int .i64 s] 3):=⟨_,rfl⟩
 have jL : Below w.heap.size w w0:=by rw [ck];exact (((Below.refl _ _).alloc (by simp <;> omega) _).alloc (by simp <;> omega) _)
 have H:=zh (h.keep jL);obtain ⟨h1,h2,h3⟩:=h.keep jL;obtain ⟨A,c,rfl,ft,hm,hA⟩:=h1;obtain ⟨A2,c2,rfl,_,f6,_⟩:=h2;obtain ⟨A3,c3,rfl,_,gF,_⟩:=h3;unfold maxLen at hm f6 gF
 have eG : ∀ W,aa w0 W → W.cell? ⟨w.heap.size,0,none⟩ = some (.slice A n.ends.length c):=ae (by rw [ck];simp)
 have eX : ∀ W,aa w0 W → W.cell? ⟨w.heap.size,1,none⟩ = some (.slice A2 n.ids.length c2):=ae (by rw [ck];simp)
 have fb : ∀ W,aa w0 W → W.cell? ⟨w.heap.size,2,none⟩ = some (.slice A3 n.inputs.length c3):=ae (by rw [ck];simp)
 have O8 : ∀ W,aa w0 W → W.cell? ⟨w.heap.size + 1,0,none⟩ = some (.int .i64 s):=ae (by rw [ck];simp)
 have bv:=zh jL;have dh:=zh ck;have HA:=zh hA;clear hA h;clear jL ck
 go_enter Tryz.func27,Tryz.ntmps27
 go_upto_region 1 with (fail);rw [← dh.out];refine aB 12 (aa w0) (ad _) ?_;simp only [zT]
 apply ag rfl;(intro W hW;go_simp;with_reducible rfl);simp only [zA]
 refine dn ?_ rfl ?_ ?_;rotate_left;(intro W hW;unfold bG;go_simp;(with_reducible refine (dF _ _ _ n W (H.out.keep hW.below) (kn ed)).mono ?_);rintro e W' ⟨rfl,bg⟩;first | (refine ⟨?_,aa.trans hW bg⟩;with_reducible rfl) | (subst bg;refine ⟨?_,hW⟩;with_reducible rfl))
 simp only [zA]
 iterate 2 (apply ag rfl;(intro W hW;go_simp;with_reducible rfl);simp only [zA])
 apply aj rfl rfl;(intro hb;intro W hW;go_simp;with_reducible rfl);simp only [zA]
 refine bC (v:=?_) rfl rfl ?_ ?_;rotate_left;(intro hb;intro W hW;unfold bG;go_simp;(with_reducible refine (kt _ W).mono ?_);rintro e W' ⟨rfl,bg⟩;first | (refine ⟨?_,aa.trans hW bg⟩;with_reducible rfl) | (subst bg;refine ⟨?_,hW⟩;with_reducible rfl))
 simp only [zA]
 apply aj rfl rfl;(intro hb;intro W hW;go_simp;with_reducible rfl);simp only [zA]
 (first | refine bu rfl rfl ?_ | (apply ag rfl;(intro W hW;go_simp;with_reducible rfl)));simp only [zA]
 apply ag rfl;(intro W hW;go_simp;with_reducible rfl);simp only [zA]
 iterate 2 (apply aj rfl rfl;(intro hb;intro W hW;go_simp;with_reducible rfl);simp only [zA])
 (first | refine bu rfl rfl ?_ | (apply ag rfl;(intro W hW;go_simp;with_reducible rfl)));simp only [zA]
 intro W hW
 cases hg : (!an n || !ee 1 5 s || decide (most < 0))
 ·simp only [Bool.or_eq_false_iff,Bool.not_eq_false'] at hg;have lh : 1 ≤ n.ends.length ∧ n.ends.length ≤ 40:=aN hg.1.1
  have kW : 0 ≤ most:=by have:=hg.2;simp at this;exact this
  have e1 : ax n s most = (dy most n.ends.length).isSome:=by rw [qW,hg.1.1,hg.1.2,hg.2];simp
  have Hg:=zh hg;have E1:=zh e1;obtain ⟨mo,rfl⟩:=Int.eq_ofNat_of_zero_le kW;have k9:=hmb.2;have m0 : IntKind.i64.wrap ((n.ends.length : Int) + 1) = (n.ends.length : Int) + 1:=aL _ (by omega) (by omega);obtain ⟨bl,qy⟩ : ∃ b,b = W.heap.size:=⟨_,rfl⟩
  obtain ⟨bb,rq⟩ : ∃ b,b = W.heap.size + 1:=⟨_,rfl⟩
  obtain ⟨w2,dK⟩ : ∃ w2,w2 = (W.alloc (.cells #[.int .i64 ((n.ends.length : Int) + 1)] 3)).alloc (.cells #[.slice none 0 0] 25):=⟨_,rfl⟩
  have Hi : Hid (I1 w2 bl ((n.ends.length : Int) + 1)):=by rw [dK,qy];exact (I1.new W _).since (ah _ (ad _))
  have Hu : Hid (U1 w2 bb (.slice none 0 0)):=by rw [dK,rq];have:=U1.new (W.alloc (.cells #[.int .i64 ((n.ends.length : Int) + 1)] 3)) (.slice none 0 0);show U1 _ _ _;simpa using this
  have tQ : w0.heap.size ≤ bl:=by rw [qy];exact (aa.below hW).size
  have dE : aa w0 w2:=by rw [dK];exact ah _ (ah _ hW)
  have X_:=zh (And.intro Hi.out.lt Hu.out.lt);have cw:=zh dE;have xN:=zh tQ
  have th : Hid (bl ≠ bb):=by show _ ≠ _;omega
  have QP:=lh.1;have j7:=zh dK;have Mw:=zh qy;have vj:=zh rq;clear hg e1 kW hmb lh tQ dK qy rq;go_upto_region 5 with (fail);rw [← j7.out,← vj.out,← Mw.out];clear hW;go_wp2_with fail
  refine (lY _ _ _ n mo 91 #[.pointer (some ⟨w.heap.size,0,none⟩),.pointer (some ⟨w.heap.size + 1,0,none⟩),.pointer (some ⟨bl,0,none⟩),.pointer (some ⟨bb,0,none⟩)] w2 (fun g k X => aa w0 X ∧ I1 X bl ((dB n s (mo + 1) k).1 : Int) ∧ ∃ u,U1 X bb u ∧ Own X w0.heap.size u (dB n s (mo + 1) k).2 ∧ ∀ j,u.ownBlock = some j → j ≠ g ∧ j ≠ bl ∧ j ≠ bb) (H.out.keep cw.out.below) QP (aN Hg.out.1.1).2 (by omega) k9 xn
   (fun g X hg hb => ⟨cw.out.trans hb,by have:=Hi.out.since hb;simpa [dB] using this,_,Hu.out.since hb,cH _ _,fun j hj => by simp [Value.ownBlock] at hj⟩)
   (fun g k X X' hg hJ ho => ?_)
   (fun c hc g k X vl hk hg hJ ho Kh => ?_)).mono ?_
  ·obtain ⟨j1,j2,u,j3,j4,j5⟩:=hJ;have hl:=X_.out
   exact ⟨aU.since j1 ho (fun j hj => by simp at hj;subst hj;have:=cw.out.below.size;omega),j2.only ho (by simp;omega),u,j3.only ho (by simp;omega),nL j4 ho (fun j hj e => by simp at hj;subst hj;exact (j5 _ e).1 rfl),j5⟩
  ·have hb:=jI (by omega) _ hc
   have tg : mo < 20000:=by have:=hb.2.2 (by omega);omega
   obtain ⟨hs,j2,u,j3,j4,j5⟩:=hJ;rw [Int.toNat_natCast] at ho;obtain ⟨Bu,du,hu,_⟩:=id j4.ints;have p_:=dS (mo + 1) n.ends.length k;have Uu:=(aN Hg.out.1.1).2;refine (D9 _ _ _ _ n s (dp (mo + 1) n.ends.length k) _ u bl bb w.heap.size (w.heap.size + 1) X (H.out.keep hs.below) ho.ints (si Hg.out.1.1 Hg.out.1.2 tg k) (by omega) j2 j3 th.out _ _ _ hu (eG X hs) (eX X hs) (fb X hs) (O8 X hs)).mono ?_;rintro e X' ⟨⟨x,rfl⟩,fm,ZH⟩;have hl:=X_.out;have tQ:=xN.out
   have rq : w0.heap.size ≤ bb:=by have:=vj.out;have:=Mw.out;omega
   refine ⟨x,rfl,⟨aU.since hs fm (fun j hj => by simp at hj;rcases hj with rfl | rfl <;> assumption),?_⟩,[bl,bb],fm,fun j hj => by simp at hj;rcases hj with rfl | rfl;exact hl.1;exact hl.2⟩
   rcases ZH with ⟨c1,c2,u',c3,c4⟩ | ⟨c1,c2,c3⟩
   ·have e : dB n s (mo + 1) (k + 1) = ((iT n s (dp (mo + 1) n.ends.length k)).length,dp (mo + 1) n.ends.length k):=by rw [dB,if_pos c1]
    rw [e];refine ⟨c2,u',c3,c4.mono (aa.below hs).size,fun j h => ?_⟩
    have a1:=(World.ownsRow.lt c4 j (by simpa using h)).1;have a2:=(World.ownsRow.lt ho g (by simpa using Kh)).2;have a3:=j2.lt;have a4:=j3.lt;omega
   ·have e : dB n s (mo + 1) (k + 1) = dB n s (mo + 1) k:=by rw [dB,if_neg c1]
    rw [e];refine ⟨c2,u,c3,nL j4 fm (fun j hj h => ?_),j5⟩
    have:=j5 j h
    simp at hj
    rcases hj with e | e
    ·exact this.2.1 e
    ·exact this.2.2 e
  ·rintro e W3 ⟨rfl,vg,vh⟩
   cases hL : dy (mo : Int) n.ends.length with
   | none =>
    have Hr:=zh (show false = bV n s mo by unfold bV;rw [E1.out,hL];rfl)
    have qM : ax n s mo = false:=Hr.out.symm
    have UT:=zh (show 0 = aJ n s mo by unfold aJ;rw [if_neg (by rw [qM];simp)])
    have UU:=zh (show aF n s mo = [] by unfold aF;rw [if_neg (by rw [qM];simp)])
    have Hb:=zh (vh hL);clear vg vh hL qM;go_wp2
    first | go_ret3 | fail
    exact ⟨_,D8 UT.out Hr.out,by rw [UU.out];exact cH _ _,aa.after bv.out (cw.out.trans Hb.out)⟩
   | some c =>
    obtain ⟨g,-,iB,Mk,u,hu3,ie,-⟩:=vg c hL;have hb:=jI (by omega) _ hL;obtain ⟨cn,rfl⟩:=Int.eq_ofNat_of_zero_le (show 0 ≤ c by omega)
    rw [Int.toNat_natCast] at Mk ie
    have Hr:=zh (show true = bV n s mo by unfold bV;rw [E1.out,hL];rfl)
    have qM : ax n s mo = true:=Hr.out.symm
    have UT:=zh (show ((dB n s (mo + 1) cn).1 : Int) = aJ n s mo by unfold aJ;rw [if_pos qM];simp [nM,hL])
    have UU:=zh (show (dB n s (mo + 1) cn).2 = aF n s mo by unfold aF;rw [if_pos qM];simp [nM,hL])
    have eY:=zh iB;have cz:=ae Mk.cells.1;have cu:=ae hu3.cells.1;have ms:=zh ie;clear vg vh hL Mk iB hu3 ie qM;go_upto_region 8 with (fail);refine ao 5 (aa W3) (by kernel_rfl) (by kernel_rfl) (by simp) (ak (ad _)) ?_;simp only [zT]
    iterate 5 (apply ag rfl;(intro W hW;go_simp;with_reducible rfl);simp only [zA])
    intro W4 jq;have s8:=zh jq;clear cz cu jq;go_wp2
    first | go_ret3 | fail
    exact ⟨_,D8 UT.out Hr.out,by rw [← UU.out];exact (ms.out.since s8.out).mono bv.out.size,aa.after bv.out (eY.out.after s8.out)⟩
 ·have hr : ax n s most = false:=by
   rw [qW]
   revert hg
   cases an n <;> cases ee 1 5 s <;> cases decide (most < 0) <;> simp
  have Hr:=zh (show false = bV n s most from hr.symm)
  have UT:=zh (show 0 = aJ n s most by unfold aJ;rw [if_neg (by rw [hr];simp)])
  have UU:=zh (show aF n s most = [] by unfold aF;rw [if_neg (by rw [hr];simp)])
  have HW:=zh hW;clear hg hr hW;go_wp2
  first | go_ret3 | fail
  exact ⟨_,D8 UT.out Hr.out,by rw [UU.out];exact cH _ _,aa.after bv.out HW.out⟩
theorem BX (ve vi vn vl : Value) (n : am) (m : Int) (ls : List Int) (k : Nat) (es : List (Int × Int)) (l : Int) (bn bm : Nat) (w : World) (h : aT w ve vi vn n) (hl : bD w vl ls) (cM : n.ends[k]? = some es) (n9 : es.length ≤ 6) (dC : ∀ e ∈ es,0 ≤ e.1 ∧ e.1 < ls.length)
  (hx : ∀ x ∈ aw ls es,0 ≤ x ∧ x < m) (k9 : 3 ≤ m) (f6 : m ≤ 40) (hk : ls[k]? = some l) (rj : 0 ≤ l) (lp : l < m)
  (c0 : w.cell? ⟨bn,0,none⟩ = some ve) (c1 : w.cell? ⟨bn,1,none⟩ = some vi) (c2 : w.cell? ⟨bn,2,none⟩ = some vn) (c3 : w.cell? ⟨bm,0,none⟩ = some (.int .i64 m)) :
  Calls Tryz.prog 158 #[vl,.int .i64 k,.pointer (some ⟨bn,0,none⟩),.pointer (some ⟨bm,0,none⟩)] w fun e w' => e = .returned (.bool (Di m l (aw ls es))) ∧ Below w.heap.size w w':=by
 have H:=zh h;have HL:=zh hl;have p9:=zh dC;have ml:=zh cM;have Hx:=zh hx
 obtain ⟨_,bl,ol,cl,l',e0,rfl,lq,lu,-,hd⟩:=eV HL.out (x:=(k : Int)) (by omega) (by have:=aq hk;omega)
 obtain rfl : k = _:=by exact Int.ofNat.inj e0
 obtain rfl : l = l':=Option.some.inj (hk.symm.trans lu)
 obtain ⟨⟨A,c,rfl,ft,hm,_⟩,⟨A2,oK,rfl,_,ly,_⟩,⟨A3,pc,rfl,_,rF,_⟩⟩:=h;obtain ⟨_,_,hv,sA,mn,_⟩:=id hl;cases hv;unfold maxLen at mn hm ly rF;have p0:=ae c0;have p1:=ae c1;have p2:=ae c2;have p3:=ae c3;have t0:=ae hd;have cX : aa w w:=ad _;clear cM dC hd hk lu e0 hl c0 c1 c2 c3 hx
 go_enter Tryz.func158,Tryz.ntmps158
 go_wp2_with fail;refine (kA _ _ _ _ n ls k es _ H.out HL.out ml.out (by omega) p9.out).mono ?_;rintro e W1 ⟨u,rfl,ho,hb⟩;have dm : aa w W1:=hb;have hlen : (aw ls es).length = es.length:=by simp [aw]
 obtain ⟨A5,z5,hu,_,SJ,sC⟩:=ho.ints;rw [hlen] at hu;subst hu;unfold maxLen at SJ;have Dj:=zh sC;have eZ:=zh hlen;clear hb ho cX sC hlen;go_wp2
 go_loopw [7,8,18] (fun c g i wr => ∃ j : Nat,j ≤ es.length ∧ i = .int .i64 j ∧ c = .int .i64 (((aw ls (es.take j)).countP fun x => (x + 1) % m == l : Nat) : Int) ∧ g = .int .i64 (((aw ls (es.take j)).countP fun x => x == (l + 1) % m : Nat) : Int) ∧ aa W1 wr) (fun _ _ i _ => es.length - (intOf i).toNat)
 case atStart => exact ⟨0,Nat.zero_le _,rfl,by simp [aw],by simp [aw],ad _⟩
 case round =>
  obtain ⟨j,hj,rfl,rfl,rfl,cJ⟩:=hrel
  have iw : ((aw ls (es.take j)).countP fun x => (x + 1) % m == l) ≤ 6 ∧ ((aw ls (es.take j)).countP fun x => x == (l + 1) % m) ≤ 6:=by
   have h1:=List.countP_le_length (p:=fun x => (x + 1) % m == l) (l:=aw ls (es.take j))
   have h2:=List.countP_le_length (p:=fun x => x == (l + 1) % m) (l:=aw ls (es.take j))
   simp [aw] at h1 h2 ⊢
   omega
  generalize hc : ((aw ls (es.take j)).countP fun x => (x + 1) % m == l) = c at iw ⊢
  generalize hg : ((aw ls (es.take j)).countP fun x => x == (l + 1) % m) = g at iw ⊢
  obtain ⟨iw,Mm⟩:=iw;have Hc:=zh hc;have Hg:=zh hg;clear hc hg
  by_cases hlt : j < es.length
  ·obtain ⟨⟨x1,x2⟩,hx⟩:=aW es j hlt;obtain ⟨y,hy⟩:=aW (aw ls es) j (by simpa [aw] using hlt);obtain ⟨b1,qp,rfl,kV⟩:=Dj.out j y hy;obtain ⟨y0,ym⟩:=Hx.out y (List.mem_of_getElem? hy)
   have e1 : Hid (aw ls (es.take (j + 1)) = aw ls (es.take j) ++ [y]):=by
    show _ = _
    have e2 : aw ls (es.take (j + 1)) = (aw ls es).take (j + 1):=by simp [aw,List.map_take]
    have e3 : aw ls (es.take j) = (aw ls es).take j:=by simp [aw,List.map_take]
    rw [e2,e3,bk hy]
   have q1:=ae kV;clear hx hy kV;go_upto_region 6 with (fail);have q2:=ai q1 cJ;have q3:=ai p3 (dm.after cJ);have q0:=ai t0 (dm.after cJ);have f1 : ∃ d1 : Bool,((y + 1) % m == l) = d1:=⟨_,rfl⟩;obtain ⟨d1,f1⟩:=f1;obtain ⟨d2,f2⟩ : ∃ d2 : Bool,(y == (l + 1) % m) = d2:=⟨_,rfl⟩
   have m1 : IntKind.i64.wrap (y + 1) = y + 1:=aL _ (by omega) (by omega);have m2 : IntKind.i64.wrap (l + 1) = l + 1:=aL _ (by omega) (by omega);have m3 : (y + 1).tmod m = (y + 1) % m:=Int.tmod_eq_emod_of_nonneg (by omega);have m4 : (l + 1).tmod m = (l + 1) % m:=Int.tmod_eq_emod_of_nonneg (by omega);have m0 : ¬ m = 0:=by omega
   have m5 : IntKind.i64.wrap ((c : Int) + if d1 = true then 1 else 0) = (c : Int) + if d1 = true then 1 else 0:=aL _ (by split <;> omega) (by split <;> omega)
   have m6 : IntKind.i64.wrap ((g : Int) + if d2 = true then 1 else 0) = (g : Int) + if d2 = true then 1 else 0:=aL _ (by split <;> omega) (by split <;> omega)
   refine ao 12 (aa wr) (by kernel_rfl) (by kernel_rfl) (by simp) (ak (ad _)) ?_;simp only [zT]
   iterate 10 (apply ag rfl;(intro W hW;go_simp;with_reducible rfl);simp only [zA])
   refine dn ?_ rfl ?_ ?_;rotate_left;(intro W hW;unfold bG;go_simp;(with_reducible refine (oa _ W).mono ?_);rintro e W' ⟨rfl,bg⟩;first | (refine ⟨?_,aa.trans hW bg⟩;with_reducible rfl) | (subst bg;refine ⟨?_,hW⟩;with_reducible rfl))
   simp only [zA]
   apply ag rfl;(intro W hW;go_simp;with_reducible rfl);simp only [zA]
   intro W2 iv;go_upto_region 7 with (fail);have r3:=ai q3 iv;have r0:=ai q0 iv;have CO:=zh (cJ.after iv);clear q2 q3 q0 iv;refine ao 12 (aa W2) (by kernel_rfl) (by kernel_rfl) (by simp) (ak (ad _)) ?_;simp only [zT]
   iterate 10 (apply ag rfl;(intro W hW;go_simp;with_reducible rfl);simp only [zA])
   refine dn ?_ rfl ?_ ?_;rotate_left;(intro W hW;unfold bG;go_simp;(with_reducible refine (oa _ W).mono ?_);rintro e W' ⟨rfl,bg⟩;first | (refine ⟨?_,aa.trans hW bg⟩;with_reducible rfl) | (subst bg;refine ⟨?_,hW⟩;with_reducible rfl))
   simp only [zA]
   apply ag rfl;(intro W hW;go_simp;with_reducible rfl);simp only [zA]
   intro W3 hW3;have HW3:=zh (CO.out.after hW3);have F1:=zh f1;have F2:=zh f2;clear hW3 f1 f2 m1 m2 m3 m4 m5 m6 r3 r0;go_wp2;go_roundw
   case rel => exact ⟨j + 1,by omega,by go_num,by rw [e1.out,fq,Hc.out,F1.out];cases d1 <;> simp,by rw [e1.out,fq,Hg.out,F2.out];cases d2 <;> simp,HW3.out⟩
   case measure => simp [intOf];omega
  ·obtain rfl : j = es.length:=by omega
   have hr : Hid (Di m l (aw ls es) = (decide (c ≤ 1) && (c + g == es.length) && (c == 1 || l == 0))):=by
    show _ = _
    have h1:=Hc.out;have h2:=Hg.out;rw [List.take_length] at h1 h2;unfold Di;rw [h1,h2,eZ.out]
   have q0:=ai t0 (dm.after cJ);have m1 : IntKind.i64.wrap ((c : Int) + g) = (c : Int) + g:=aL _ (by omega) (by omega);go_upto_region 9 with (fail);refine aB 22 (aa wr) (ad _) ?_;simp only [zT]
   iterate 3 (apply ag rfl;(intro W hW;go_simp;with_reducible rfl);simp only [zA])
   iterate 6 (apply aj rfl rfl;(intro hb;intro W hW;go_simp;with_reducible rfl);simp only [zA])
   (first | refine bJ rfl rfl ?_ | (apply ag rfl;(intro W hW;go_simp;with_reducible rfl)));simp only [zA]
   apply ag rfl;(intro W hW;go_simp;with_reducible rfl);simp only [zA]
   iterate 3 (apply aj rfl rfl;(intro hb;intro W hW;go_simp;with_reducible rfl);simp only [zA])
   iterate 5 (apply fB rfl rfl;(intro hb b_;intro W hW;go_simp;with_reducible rfl);simp only [zA])
   refine Jm rfl rfl rfl ?_;simp only [zA]
   (first | refine bJ rfl rfl ?_ | (apply ag rfl;(intro W hW;go_simp;with_reducible rfl)));simp only [zA]
   apply ag rfl;(intro W hW;go_simp;with_reducible rfl);simp only [zA]
   intro W2 iv;have CO:=zh iv;clear iv m1;go_wp2;go_ret;refine ⟨bP ?_,dm.after (cJ.after CO.out)⟩;rw [hr.out]
   have e1 : decide ((c : Int) ≤ 1) = decide (c ≤ 1):=by apply decide_eq_decide.2;omega
   have e2 : ((c : Int) + g == (es.length : Int)) = (c + g == es.length):=by rw [Bool.eq_iff_iff];simp;omega
   try rw [e1,e2,oe]
def mF (n : am) (m : Int) (ls : List Int) (v : Int) : Bool:=sB m (ls.getD v.toNat 0) (aw ls (n.ends.getD v.toNat []))
def aC (n : am) (m : Int) (ls : List Int) : Bool:=an n && ee 3 40 m && ((ls.length : Int) == (n.ends.length : Int)) && ls.all (ee 0 (m - 1))
def bX (n : am) (m : Int) (ls : List Int) : List Int:=if aC n m ls then gR (mF n m ls) (gJ ls.length) else []
theorem QR {n : am} {m : Int} {ls : List Int} (h : aC n m ls = true) {k : Nat} (hk : k < ls.length) :
  ∃ es l,n.ends[k]? = some es ∧ ls[k]? = some l ∧ es.length ≤ 6 ∧ (∀ e ∈ es,0 ≤ e.1 ∧ e.1 < ls.length) ∧ 3 ≤ m ∧ m ≤ 40 ∧ 0 ≤ l ∧ l < m ∧ (∀ x ∈ aw ls es,0 ≤ x ∧ x < m) ∧ mF n m ls k = sB m l (aw ls es) ∧ Di m l (aw ls es) = sB m l (aw ls es):=by
 unfold aC at h;simp only [Bool.and_eq_true,beq_iff_eq] at h;obtain ⟨⟨⟨h1,h2⟩,h3⟩,h4⟩:=h;have hm:=aM.1 h2;have hl : ls.length = n.ends.length:=by omega
 obtain ⟨es,cM⟩:=aW n.ends k (by omega);obtain ⟨l,G4⟩:=aW ls k hk;obtain ⟨r1,r2⟩:=df h1 cM;rw [List.all_eq_true] at h4
 have ha : ∀ x ∈ ls,0 ≤ x ∧ x < m:=fun x hx => by have:=aM.1 (h4 x hx);omega
 have p_:=ha l (List.mem_of_getElem? G4)
 have dC : ∀ e ∈ es,0 ≤ e.1 ∧ e.1 < ls.length:=fun e he => by rw [hl];exact r2 e he
 have hx : ∀ x ∈ aw ls es,0 ≤ x ∧ x < m:=fun x hx => by
  obtain ⟨e,he,rfl⟩:=List.mem_map.1 hx;obtain ⟨i1,i2⟩:=dC e he
  have : e.1.toNat < ls.length:=by omega
  rw [zDd,List.getElem?_eq_getElem this];exact ha _ (List.getElem_mem this)
 exact ⟨es,l,cM,G4,r1,dC,hm.1,hm.2,p_.1,p_.2,hx,by simp [mF,cM,G4],Jz hm.1 p_.1 p_.2 hx⟩
theorem D_ (m : Int) (w : World) : Calls Tryz.prog 98 #[.int .i64 m] w fun e w' => e = .returned (.bool (ee 3 40 m)) ∧ w = w':=by
 go_enter Tryz.func98,Tryz.ntmps98
 go_wp2_with (go_at_call 75;refine (iZ _ _ _ _).mono ?_;rintro e w' ⟨rfl,rfl⟩)
 go_ret;exact ⟨rfl,rfl⟩
def UV (ls : List Int) (lo hi : Int) : Bool:=ls.all (ee lo hi)
theorem BY (v : Value) (xs : List Int) (lo hi : Int) (w : World) (h : bD w v xs) :
  Calls Tryz.prog 99 #[v,.int .i64 lo,.int .i64 hi] w fun e w' => e = .returned (.bool (UV xs lo hi)) ∧ Below w.heap.size w w':=ll v xs lo hi w h
theorem KB {a c : Bool} {m : Int} (h : (a || !ee 3 40 m || c) = false) : IntKind.i64.wrap (m - 1) = m - 1:=by
 simp only [Bool.or_eq_false_iff,Bool.not_eq_false'] at h
 have:=aM.1 h.1.2
 exact aL _ (by omega) (by omega)
theorem sj : ∀ args w,(callFunc 158 args).run Tryz.prog w = .ok (.enter 158 args) w:=enters_of Tryz.func158 (by kernel_rfl) rfl
theorem BZ : ∀ args w,(callFunc 102 args).run Tryz.prog w = .ok (.enter 102 args) w:=enters_of Tryz.func102 (by kernel_rfl) rfl
def Ea (b : Nat) : Value:=.func (.func 158) #[] #[.pointer (some ⟨b,0,none⟩),.pointer (some ⟨b + 1,0,none⟩)]
theorem kL (ve vi vn : Value) (n : am) (m : Int) (w : World) (h : aT w ve vi vn n) :
  Calls Tryz.prog 97 #[.agg #[ve,vi,vn],.int .i64 m] w fun e w' => e = .returned (Ea w.heap.size) ∧ w' = (w.alloc (.cells #[ve,vi,vn] 27)).alloc (.cells #[.int .i64 m] 3):=by
 obtain ⟨⟨A,c,rfl,ft,hm,_⟩,⟨A2,oK,rfl,_,ly,_⟩,⟨A3,pc,rfl,_,rF,_⟩⟩:=h
 go_enter Tryz.func97,Tryz.ntmps97
 go_wp2;go_ret;exact ⟨rfl,rfl⟩
theorem KC (ve vi vn vl : Value) (n : am) (m : Int) (ls : List Int) (k : Nat) (es : List (Int × Int)) (l : Int) (b ba bl : Nat) (w : World) (h : aT w ve vi vn n) (hl : bD w vl ls) (cM : n.ends[k]? = some es) (n9 : es.length ≤ 6) (dC : ∀ e ∈ es,0 ≤ e.1 ∧ e.1 < ls.length)
  (hx : ∀ x ∈ aw ls es,0 ≤ x ∧ x < m) (k9 : 3 ≤ m) (f6 : m ≤ 40) (hk : ls[k]? = some l) (rj : 0 ≤ l) (lp : l < m)
  (c0 : w.cell? ⟨b,0,none⟩ = some ve) (c1 : w.cell? ⟨b,1,none⟩ = some vi) (c2 : w.cell? ⟨b,2,none⟩ = some vn) (c3 : w.cell? ⟨b + 1,0,none⟩ = some (.int .i64 m)) (c4 : w.cell? ⟨ba,0,none⟩ = some (Ea b)) (c5 : w.cell? ⟨bl,0,none⟩ = some vl) :
  Calls Tryz.prog 102 #[.int .i64 k,.pointer (some ⟨ba,0,none⟩),.pointer (some ⟨bl,0,none⟩)] w fun e w' => e = .returned (.bool (Di m l (aw ls es))) ∧ Below w.heap.size w w':=by
 have hc:=BX ve vi vn vl n m ls k es l b (b + 1) w h hl cM n9 dC hx k9 f6 hk rj lp c0 c1 c2 c3;have Hc:=zh hc;obtain ⟨AL,cL,rfl,sA,mn,_⟩:=hl;unfold Ea at c4;have eg:=sj;clear hc h cM dC hx hk c0 c1 c2 c3
 go_enter Tryz.func102,Tryz.ntmps102
 go_wp2_with fail;refine Hc.out.mono ?_;rintro e w2 ⟨rfl,hb⟩;have Hb:=zh hb;clear hb;go_wp2;go_ret;exact ⟨rfl,Hb.out⟩
theorem NB {n : am} {m : Int} {ls : List Int} (h : aC n m ls = true) : ls.length ≤ 1000000:=by
 unfold aC at h;simp only [Bool.and_eq_true,beq_iff_eq] at h
 have:=aN h.1.1.1
 omega
theorem lC (ve vi vn : Value) (n : am) (m : Int) (vl : Value) (ls : List Int) (w : World) (h : aT w ve vi vn n) (_ : -9223372036854775808 ≤ m ∧ m ≤ 9223372036854775807) (hl : bD w vl ls) (ed : f_ n ≤ 1048576) (hbig : ls.length ≤ 1048576) :
  Calls Tryz.prog 31 #[.agg #[ve,vi,vn],.int .i64 m,vl] w fun e w' => ∃ u,e = .returned (.tuple #[u,.bool (aC n m ls)]) ∧ Own w' w.heap.size u (bX n m ls) ∧ Below w.heap.size w w':=by
 have QH:=zh hl;obtain ⟨AL,cL,rfl,sA,mn,_⟩:=hl;unfold maxLen at mn;obtain ⟨w0,ck⟩ : ∃ w0,w0 = ((w).alloc (.cells #[ve,vi,vn] 27)).alloc (.cells #[.slice AL ls.length cL] 25):=⟨_,rfl⟩
 have jL : Below w.heap.size w w0:=by rw [ck];exact (((Below.refl _ _).alloc (by simp <;> omega) _).alloc (by simp <;> omega) _)
 have H:=zh (h.keep jL);obtain ⟨h1,h2,h3⟩:=h.keep jL;obtain ⟨A,c,rfl,ft,hm,hA⟩:=h1;obtain ⟨A2,c2,rfl,_,f6,_⟩:=h2;obtain ⟨A3,c3,rfl,_,gF,_⟩:=h3;unfold maxLen at hm f6 gF
 have eG : ∀ W,aa w0 W → W.cell? ⟨w.heap.size,0,none⟩ = some (.slice A n.ends.length c):=ae (by rw [ck];simp)
 have eX : ∀ W,aa w0 W → W.cell? ⟨w.heap.size,1,none⟩ = some (.slice A2 n.ids.length c2):=ae (by rw [ck];simp)
 have fb : ∀ W,aa w0 W → W.cell? ⟨w.heap.size,2,none⟩ = some (.slice A3 n.inputs.length c3):=ae (by rw [ck];simp)
 have O8 : ∀ W,aa w0 W → W.cell? ⟨w.heap.size + 1,0,none⟩ = some (.slice AL ls.length cL):=ae (by rw [ck];simp)
 have bv:=zh jL;have dh:=zh ck;have HA:=zh hA;clear hA h;clear jL ck;have HL:=zh (QH.out.keep bv.out)
 go_enter Tryz.func31,Tryz.ntmps31
 go_upto_region 1 with (fail);rw [← dh.out];refine aB 23 (aa w0) (ad _) ?_;simp only [zT]
 apply ag rfl;(intro W hW;go_simp;with_reducible rfl);simp only [zA]
 refine dn ?_ rfl ?_ ?_;rotate_left;(intro W hW;unfold bG;go_simp;(with_reducible refine (dF _ _ _ n W (H.out.keep hW.below) (kn ed)).mono ?_);rintro e W' ⟨rfl,bg⟩;first | (refine ⟨?_,aa.trans hW bg⟩;with_reducible rfl) | (subst bg;refine ⟨?_,hW⟩;with_reducible rfl))
 simp only [zA]
 iterate 2 (apply ag rfl;(intro W hW;go_simp;with_reducible rfl);simp only [zA])
 apply aj rfl rfl;(intro hb;intro W hW;go_simp;with_reducible rfl);simp only [zA]
 refine bC (v:=?_) rfl rfl ?_ ?_;rotate_left;(intro hb;intro W hW;unfold bG;go_simp;(with_reducible refine (dV _ _ _ W).mono ?_);rintro e W' ⟨rfl,bg⟩;first | (refine ⟨?_,aa.trans hW bg⟩;with_reducible rfl) | (subst bg;refine ⟨?_,hW⟩;with_reducible rfl))
 simp only [zA]
 apply aj rfl rfl;(intro hb;intro W hW;go_simp;with_reducible rfl);simp only [zA]
 (first | refine bu rfl rfl ?_ | (apply ag rfl;(intro W hW;go_simp;with_reducible rfl)));simp only [zA]
 apply ag rfl;(intro W hW;go_simp;with_reducible rfl);simp only [zA]
 iterate 6 (apply aj rfl rfl;(intro hb;intro W hW;go_simp;with_reducible rfl);simp only [zA])
 (first | refine bu rfl rfl ?_ | (apply ag rfl;(intro W hW;go_simp;with_reducible rfl)));simp only [zA]
 apply ag rfl;(intro W hW;go_simp;with_reducible rfl);simp only [zA]
 iterate 2 (apply aj rfl rfl;(intro hb;intro W hW;go_simp;with_reducible rfl);simp only [zA])
 apply aj rfl rfl;(intro hb;intro W hW;have m1:=KB hb;go_simp;with_reducible rfl);simp only [zA]
 refine bC (v:=?_) rfl rfl ?_ ?_;rotate_left;(intro hb;intro W hW;unfold bG;go_simp;(with_reducible refine (BY _ ls _ _ W (HL.out.keep hW.below)).mono ?_);rintro e W' ⟨rfl,bg⟩;first | (refine ⟨?_,aa.trans hW bg⟩;with_reducible rfl) | (subst bg;refine ⟨?_,hW⟩;with_reducible rfl))
 simp only [zA]
 apply aj rfl rfl;(intro hb;intro W hW;go_simp;with_reducible rfl);simp only [zA]
 (first | refine bu rfl rfl ?_ | (apply ag rfl;(intro W hW;go_simp;with_reducible rfl)));simp only [zA]
 intro W hW
 cases hg : (!an n || !ee 3 40 m || ((ls.length : Int) != (n.ends.length : Int)) || !UV ls 0 (m - 1))
 ·have hr : aC n m ls = true:=by
   simp only [Bool.or_eq_false_iff,Bool.not_eq_false',bne_eq_false_iff_eq] at hg;simp [aC,hg.1.1.1,hg.1.1.2,hg.1.2,show ls.all (ee 0 (m - 1)) = true from hg.2]
  have Hr:=zh hr;have hd:=zh (show bX n m ls = gR (mF n m ls) (gJ ls.length) by simp [bX,hr])
  have Z3 : ls.length ≤ 1000000:=NB hr;clear hg hr;go_wp2_with fail;refine (kL _ _ _ n m W (H.out.keep hW.below)).mono ?_;rintro e W2 ⟨rfl,iv⟩;unfold Ea
  have UW : aa W W2:=by rw [iv];exact ah _ (ah _ (ad _))
  have s0:=ae (show W2.cell? ⟨W.heap.size,0,none⟩ = some (.slice A n.ends.length c) by rw [iv];simp)
  have s1:=ae (show W2.cell? ⟨W.heap.size,1,none⟩ = some (.slice A2 n.ids.length c2) by rw [iv];simp)
  have s2:=ae (show W2.cell? ⟨W.heap.size,2,none⟩ = some (.slice A3 n.inputs.length c3) by rw [iv];simp)
  have s3:=ae (show W2.cell? ⟨W.heap.size + 1,0,none⟩ = some (.int .i64 m) by rw [iv];simp)
  have dE:=hW.after UW;have HS:=zh (And.intro s0 (And.intro s1 (And.intro s2 s3)));have cw:=zh dE;have q10:=ai O8 dE;clear iv UW s0 s1 s2 s3 hW dE eG eX fb O8;go_wp2_with fail;obtain ⟨wA,Ya⟩ : ∃ wA,wA = W2.alloc (.cells #[.func (.func 158) #[] #[.pointer (some ⟨W.heap.size,0,none⟩),.pointer (some ⟨W.heap.size + 1,0,none⟩)]] 101):=⟨_,rfl⟩
  rw [← Ya]
  have pg : aa W2 wA:=by rw [Ya];exact ah _ (ad _)
  have Qo : wA.cell? ⟨W2.heap.size,0,none⟩ = some (Ea W.heap.size):=by rw [Ya];simp [Ea]
  have Mx:=zh pg;have Hac:=zh Qo;have Hq:=zh (ai q10 pg);clear Ya pg Qo q10;refine (jm ls.length Z3 wA).mono ?_;rintro e W3 ⟨u3,rfl,ie,bg⟩
  have HP : Hid (mh wA 102 #[.pointer (some ⟨W2.heap.size,0,none⟩),.pointer (some ⟨w.heap.size + 1,0,none⟩)] (mF n m ls) (gJ ls.length)):=by
   intro x hx X hX;obtain ⟨k,hk,rfl⟩:=List.mem_map.1 hx;have lu:=List.mem_range.1 hk;obtain ⟨es,l,cM,lq,n9,dC,k9,ly,rj,lp,hxs,hrj,hme⟩:=QR Hr.out lu;have My : aa W2 X:=Mx.out.after hX
   have:=KC (.slice A n.ends.length c) (.slice A2 n.ids.length c2) (.slice A3 n.inputs.length c3) (.slice AL ls.length cL) n m ls k es l W.heap.size W2.heap.size (w.heap.size + 1) X (H.out.keep (cw.out.after My).below) (HL.out.keep (cw.out.after My).below) cM n9 dC hxs k9 ly lq rj lp (HS.out.1 X My) (HS.out.2.1 X My) (HS.out.2.2.1 X My) (HS.out.2.2.2 X My) (bc hX Hac.out) (Hq.out X hX)
   rw [hme,← hrj] at this;exact this
  have ms:=zh ie;have eY : Hid (aa wA W3):=bg;clear ie bg;go_wp2_with fail
  refine (nt _ (gJ ls.length) _ _ (mF n m ls) _ wA ms.out eY.out (by rw [fe];omega) BZ HP.out).mono ?_
  rintro e W4 ⟨u4,rfl,mf,kD⟩;have sH:=zh mf;have mg:=zh kD;clear mf kD;go_wp2
  go_ret2
  refine ⟨_,congrArg (fun b => Ending.returned (.tuple #[_,.bool b])) Hr.out.symm,by rw [hd.out];exact sH.out.mono (Nat.le_trans bv.out.size (aa.below (cw.out.after Mx.out)).size),aa.after bv.out (cw.out.after (Mx.out.after mg.out))⟩
 ·have hr : aC n m ls = false:=by
   simp only [Bool.or_eq_true,Bool.not_eq_true',bne_iff_ne,ne_eq] at hg;rcases hg with ((hg | hg) | hg) | hg
   ·simp [aC,hg]
   ·simp [aC,hg]
   ·simp [aC,hg]
   ·simp [aC,show ls.all (ee 0 (m - 1)) = false from hg]
  have hd : bX n m ls = []:=by simp [bX,hr]
  have Hr:=zh hr;have Hd:=zh hd;have HW:=zh hW;clear hg hr hd hW;go_wp2
  go_ret2
  exact ⟨_,congrArg (fun b => Ending.returned (.tuple #[_,.bool b])) Hr.out.symm,by rw [Hd.out];exact cH _ _,aa.after bv.out HW.out⟩
theorem iM (good : List Int → Nat → Bool) (most lim : Int) : ∀ (f : Nat) (ls : List Int) (v : Nat) (made : Int),(gL good most lim f ls v made).2.1 ≠ 1 → (gL good most lim f ls v made).1 = []
 | 0,_,_,_,_ => rfl
 | f + 1,ls,v,made,h => by
  unfold gL at h ⊢
  split at h
  ·rename_i h1
   rw [if_pos h1]
   split at h
   ·rename_i h2
    rw [if_pos h2]
    split at h
    ·rename_i h3
     rw [if_pos h3]
    ·rename_i h3
     rw [if_neg h3];exact iM good most lim f _ _ _ h
   ·rename_i h2
    rw [if_neg h2]
    split at h
    ·rename_i h3
     rw [if_pos h3]
    ·rename_i h3
     rw [if_neg h3];exact iM good most lim f _ _ _ h
  ·exact absurd rfl h
theorem qX (good : List Int → Nat → Bool) (most lim : Int) : ∀ (f : Nat) (ls : List Int) (v : Nat) (made : Int),(gL good most lim f ls v made).1.length ≤ ls.length
 | 0,_,_,_ => Nat.zero_le _
 | f + 1,ls,v,made => by
  unfold gL
  split
  ·split
   ·split
    ·exact Nat.zero_le _
    ·have:=qX good most lim f (ls.set v (-1)) (v - 1) made
     rwa [List.length_set] at this
   ·split
    ·exact Nat.zero_le _
    ·have:=qX good most lim f (ls.set v (ls.getD v 0 + 1)) (if good (ls.set v (ls.getD v 0 + 1)) v then v + 1 else v) (made + 1)
     rwa [List.length_set] at this
  ·exact Nat.le_refl _
theorem yx (ve vi vn vl : Value) (s m most lim st z : Int) (B : Nat) (w : World) (ha : AS w B ve vi vn s m most lim st vl) :
  Calls Tryz.prog 77 #[.pointer (some ⟨B,0,none⟩),.int .i64 z] w fun e w' => e = .returned (if z = 1 then vl else .slice none 0 0) ∧ Below w.heap.size w w':=by
 have c8:=ha.c8
 by_cases hz : z = 1
 ·subst hz;rw [if_pos rfl]
  go_enter Tryz.func77,Tryz.ntmps77
  go_wp2;go_ret;exact ⟨rfl,Below.refl _ _⟩
 ·rw [if_neg hz]
  have hzf : (z == 1) = false:=by rw [beq_eq_false_iff_ne];exact hz
  have Pb : (z != 1) = true:=by simpa using hz
  go_enter Tryz.func77,Tryz.ntmps77
  go_wp2;go_ret;exact ⟨rfl,Below.refl _ _⟩
theorem KD {ve vi vn : Value} {n : am} {m : Int} {b : Nat} {w0 : World} (h : aT w0 ve vi vn n) (hn : an n = true) (k9 : 3 ≤ m) (f6 : m ≤ 40)
  (c0 : ∀ W,aa w0 W → W.cell? ⟨b,0,none⟩ = some ve) (c1 : ∀ W,aa w0 W → W.cell? ⟨b,1,none⟩ = some vi) (c2 : ∀ W,aa w0 W → W.cell? ⟨b,2,none⟩ = some vn) (c3 : ∀ W,aa w0 W → W.cell? ⟨b + 1,0,none⟩ = some (.int .i64 m)) :
  sa w0 158 b n (m - 1) (accG n 0 m):=by
 intro W vl ls k hW hl p_ hk DK;obtain ⟨n1,n2,n3,n4,n5⟩:=my hn hk;have CU : ls[k]? = some (ls.getD k 0):=getD_some (by omega);have aY:=DK (ls.getD k 0) (by simp)
 have hx : ∀ x ∈ aw ls (n.ends.getD k []),0 ≤ x ∧ x < m:=fun x hx => by have:=DK x (List.mem_cons_of_mem _ hx);omega
 have:=BX ve vi vn vl n m ls k _ (ls.getD k 0) b (b + 1) W (h.keep hW.below) hl n1 n2 (fun e he => by rw [p_];exact n3 e he) hx k9 f6 CU aY.1 (by omega) (c0 W hW) (c1 W hW) (c2 W hW) (c3 W hW)
 rw [Jz k9 aY.1 (by omega) hx] at this;rw [show accG n 0 m ls k = sB m (ls.getD k 0) (aw ls (n.ends.getD k [])) by simp [accG]]
 exact this
def az (n : am) (m steps : Int) : Bool:=an n && ee 3 40 m && ee 0 200000 steps
def a_ (n : am) (m steps : Int) : Int:=if az n m steps then (dY n 0 m (m - 1) steps).2.2 else 0
def aR (n : am) (m steps : Int) : Int:=if az n m steps then (dY n 0 m (m - 1) steps).2.1 else 0
def aG (n : am) (m steps : Int) : List Int:=if az n m steps then (dY n 0 m (m - 1) steps).1 else []
theorem B0 {u : Value} {a b a' b' : Int} {c c' : Bool} (h1 : a = a') (h2 : b = b') (h3 : c = c') : Ending.returned (.tuple #[u,.int .i64 a,.int .i64 b,.bool c]) = .returned (.tuple #[u,.int .i64 a',.int .i64 b',.bool c']):=by rw [h1,h2,h3]
theorem eQ {fn : Func} {t u v x : Tmp} (h : fn.results = #[.tmp t,.tmp u,.tmp v,.tmp x]) (tmps : Array Value) (P : Program) (w : World) :
  (results fn tmps).run P w = .ok (.tuple #[tmps.getD t undef,tmps.getD u undef,tmps.getD v undef,tmps.getD x undef]) w:=by
 simp [results,h]
theorem lZ (ve vi vn : Value) (n : am) (m steps : Int) (w : World) (h : aT w ve vi vn n) (_ : -9223372036854775808 ≤ m ∧ m ≤ 9223372036854775807) (_ : -9223372036854775808 ≤ steps ∧ steps ≤ 9223372036854775807) (ed : f_ n ≤ 1048576) :
  Calls Tryz.prog 30 #[.agg #[ve,vi,vn],.int .i64 m,.int .i64 steps] w fun e w' => ∃ u,e = .returned (.tuple #[u,.int .i64 (aR n m steps),.int .i64 (a_ n m steps),.bool (az n m steps)]) ∧ Own w' w.heap.size u (aG n m steps) ∧ Below w.heap.size w w':=by
 obtain ⟨w0,A,c,A2,c2,A3,c3,rfl,rfl,rfl,ft,hm,f6,gF,HA,dh,bv,H,eG,eX,fb⟩:=zB h;clear h
 go_enter Tryz.func30,Tryz.ntmps30
 go_upto_region 1 with (fail);rw [← dh.out];refine aB 13 (aa w0) (ad _) ?_;simp only [zT]
 apply ag rfl;(intro W hW;go_simp;with_reducible rfl);simp only [zA]
 refine dn ?_ rfl ?_ ?_;rotate_left;(intro W hW;unfold bG;go_simp;(with_reducible refine (tV _ _ _ n W (H.out.keep hW.below)).mono ?_);rintro e W' ⟨rfl,bg⟩;first | (refine ⟨?_,aa.trans hW bg⟩;with_reducible rfl) | (subst bg;refine ⟨?_,hW⟩;with_reducible rfl))
 simp only [zA]
 iterate 2 (apply ag rfl;(intro W hW;go_simp;with_reducible rfl);simp only [zA])
 apply aj rfl rfl;(intro hb;intro W hW;go_simp;with_reducible rfl);simp only [zA]
 refine bC (v:=?_) rfl rfl ?_ ?_;rotate_left;(intro hb;intro W hW;unfold bG;go_simp;(with_reducible refine (D_ _ W).mono ?_);rintro e W' ⟨rfl,bg⟩;first | (refine ⟨?_,aa.trans hW bg⟩;with_reducible rfl) | (subst bg;refine ⟨?_,hW⟩;with_reducible rfl))
 simp only [zA]
 apply aj rfl rfl;(intro hb;intro W hW;go_simp;with_reducible rfl);simp only [zA]
 (first | refine bu rfl rfl ?_ | (apply ag rfl;(intro W hW;go_simp;with_reducible rfl)));simp only [zA]
 apply ag rfl;(intro W hW;go_simp;with_reducible rfl);simp only [zA]
 apply aj rfl rfl;(intro hb;intro W hW;go_simp;with_reducible rfl);simp only [zA]
 refine bC (v:=?_) rfl rfl ?_ ?_;rotate_left;(intro hb;intro W hW;unfold bG;go_simp;(with_reducible refine (iZ _ _ _ W).mono ?_);rintro e W' ⟨rfl,bg⟩;first | (refine ⟨?_,aa.trans hW bg⟩;with_reducible rfl) | (subst bg;refine ⟨?_,hW⟩;with_reducible rfl))
 simp only [zA]
 apply aj rfl rfl;(intro hb;intro W hW;go_simp;with_reducible rfl);simp only [zA]
 (first | refine bu rfl rfl ?_ | (apply ag rfl;(intro W hW;go_simp;with_reducible rfl)));simp only [zA]
 intro W hW
 cases hg : (!an n || !ee 3 40 m || !ee 0 200000 steps)
 ·simp only [Bool.or_eq_false_iff,Bool.not_eq_false'] at hg;have hr : az n m steps = true:=by simp [az,hg.1.1,hg.1.2,hg.2]
  have hm:=aM.1 hg.1.2;have gE:=aM.1 hg.2;have hn:=hg.1.1;obtain ⟨R,hR⟩ : ∃ R,R = dY n 0 m (m - 1) steps:=⟨_,rfl⟩
  have Hr:=zh (show true = az n m steps from hr.symm)
  have H1:=zh (show R.2.1 = aR n m steps by unfold aR;rw [if_pos hr,hR])
  have H2:=zh (show R.2.2 = a_ n m steps by unfold a_;rw [if_pos hr,hR])
  have H3:=zh (show R.1 = aG n m steps by unfold aG;rw [if_pos hr,hR])
  have px : Hid (R.2.1 ≠ 1 → R.1 = []):=by rw [hR];exact iM _ _ _ _ _ _ _
  have HR:=zh hR;have Hn:=zh hn;have m1 : IntKind.i64.wrap (m - 1) = m - 1:=aL _ (by omega) (by omega);obtain ⟨w2,dK⟩ : ∃ w2,w2 = W.alloc (.cells #[.slice A n.ends.length c,.slice A2 n.ids.length c2,.slice A3 n.inputs.length c3,.int .i64 0,.int .i64 m,.int .i64 (m - 1),.int .i64 steps,.int .i64 0,.slice none 0 0] 109):=⟨_,rfl⟩
  obtain ⟨B,hB⟩ : ∃ B,B = W.heap.size:=⟨_,rfl⟩
  have HA : Hid (AS w2 B (.slice A n.ends.length c) (.slice A2 n.ids.length c2) (.slice A3 n.inputs.length c3) 0 m (m - 1) steps 0 (.slice none 0 0)):=by
   show (_ : Option _) = _
   rw [dK,hB];show (W.heap.push _)[W.heap.size]? = _
   rw [Array.getElem?_push_size]
  have cw : Hid (aa w0 w2):=by rw [dK];exact ah _ hW
  have QS : Hid (w0.heap.size ≤ B):=by rw [hB];exact (aa.below hW).size
  have j7:=zh dK;have HB:=zh hB;clear hg hr hn hR dK hB;go_upto_region 4 with (fail);rw [← j7.out,← HB.out];clear hW;go_wp2_with fail;refine (By _ _ _ _ n 0 m (m - 1) steps B w2 w0 H.out cw.out QS.out HA.out Hn.out (.inl ⟨rfl,hm.1,hm.2,rfl⟩) gE.1 (by omega)).mono ?_;rw [← HR.out];rintro e w3 ⟨rfl,iB,I3,QT,aY⟩;have SW:=zh QT;have vk:=zh aY;have eY:=zh iB;have c7:=ae QT.c7;obtain ⟨uf,QU⟩ : ∃ u,u = (if R.2.1 = 1 then I3 else .slice none 0 0):=⟨_,rfl⟩
  have Z4 : Hid (∀ W,aa w3 W → Calls Tryz.prog 77 #[.pointer (some ⟨B,0,none⟩),.int .i64 R.2.1] W fun e w' => e = .returned uf ∧ Below W.heap.size W w'):=fun W hW => by rw [QU];exact yx _ _ _ _ _ _ _ _ _ R.2.1 B W (SW.out.since hW)
  have Z5:=zh QU;clear iB QT aY QU;go_upto_region 5 with (fail);refine ao 12 (aa w3) (by kernel_rfl) (by kernel_rfl) (by simp) (ak (ad _)) ?_;simp only [zT]
  iterate 2 (apply ag rfl;(intro W hW;go_simp;with_reducible rfl);simp only [zA])
  refine dn ?_ rfl ?_ ?_;rotate_left;(intro W hW;unfold bG;go_simp;(with_reducible refine (Z4.out W hW).mono ?_);rintro e W' ⟨rfl,bg⟩;first | (refine ⟨?_,aa.trans hW bg⟩;with_reducible rfl) | (subst bg;refine ⟨?_,hW⟩;with_reducible rfl))
  simp only [zA]
  iterate 9 (apply ag rfl;(intro W hW;go_simp;with_reducible rfl);simp only [zA])
  intro W4 jq;have s8:=zh jq;clear c7 jq;go_wp2;refine bodyPost_ret (eQ rfl _ _ _) rfl ?_;refine ⟨_,B0 H1.out H2.out Hr.out,?_,aa.after bv.out (eY.out.after s8.out)⟩;rw [← H3.out];show Own _ _ uf _
  rw [Z5.out]
  by_cases h1 : R.2.1 = 1
  ·rw [if_pos h1];exact ((vk.out h1).since s8.out).mono bv.out.size
  ·rw [if_neg h1,px.out h1];exact cH _ _
 ·have hr : az n m steps = false:=by
   unfold az
   revert hg
   cases an n <;> cases ee 3 40 m <;> cases ee 0 200000 steps <;> simp
  have Hr:=zh (show false = az n m steps from hr.symm)
  have H1:=zh (show 0 = aR n m steps by unfold aR;rw [if_neg (by rw [hr];simp)])
  have H2:=zh (show 0 = a_ n m steps by unfold a_;rw [if_neg (by rw [hr];simp)])
  have H3:=zh (show [] = aG n m steps by unfold aG;rw [if_neg (by rw [hr];simp)])
  have HW:=zh hW;clear hg hr hW;go_wp2;refine bodyPost_ret (eQ rfl _ _ _) rfl ?_
  exact ⟨_,B0 H1.out H2.out Hr.out,by rw [← H3.out];exact cH _ _,aa.after bv.out HW.out⟩
theorem l7 (ve vi vn : Value) (n : am) (m steps : Int) (w : World) (h : aT w ve vi vn n) (_ : -9223372036854775808 ≤ m ∧ m ≤ 9223372036854775807) (_ : -9223372036854775808 ≤ steps ∧ steps ≤ 9223372036854775807) (ed : f_ n ≤ 1048576) :
  Calls Tryz.prog 29 #[.agg #[ve,vi,vn],.int .i64 m,.int .i64 steps] w fun e w' => ∃ u,e = .returned (.tuple #[u,.int .i64 (aR n m steps),.int .i64 (a_ n m steps),.bool (az n m steps)]) ∧ Own w' w.heap.size u (aG n m steps) ∧ Below w.heap.size w w':=by
 obtain ⟨w0,A,c,A2,c2,A3,c3,rfl,rfl,rfl,ft,hm,f6,gF,HA,dh,bv,H,eG,eX,fb⟩:=zB h;clear h
 go_enter Tryz.func29,Tryz.ntmps29
 go_upto_region 1 with (fail);rw [← dh.out];refine aB 13 (aa w0) (ad _) ?_;simp only [zT]
 apply ag rfl;(intro W hW;go_simp;with_reducible rfl);simp only [zA]
 refine dn ?_ rfl ?_ ?_;rotate_left;(intro W hW;unfold bG;go_simp;(with_reducible refine (dF _ _ _ n W (H.out.keep hW.below) (kn ed)).mono ?_);rintro e W' ⟨rfl,bg⟩;first | (refine ⟨?_,aa.trans hW bg⟩;with_reducible rfl) | (subst bg;refine ⟨?_,hW⟩;with_reducible rfl))
 simp only [zA]
 iterate 2 (apply ag rfl;(intro W hW;go_simp;with_reducible rfl);simp only [zA])
 apply aj rfl rfl;(intro hb;intro W hW;go_simp;with_reducible rfl);simp only [zA]
 refine bC (v:=?_) rfl rfl ?_ ?_;rotate_left;(intro hb;intro W hW;unfold bG;go_simp;(with_reducible refine (dV _ _ _ W).mono ?_);rintro e W' ⟨rfl,bg⟩;first | (refine ⟨?_,aa.trans hW bg⟩;with_reducible rfl) | (subst bg;refine ⟨?_,hW⟩;with_reducible rfl))
 simp only [zA]
 apply aj rfl rfl;(intro hb;intro W hW;go_simp;with_reducible rfl);simp only [zA]
 (first | refine bu rfl rfl ?_ | (apply ag rfl;(intro W hW;go_simp;with_reducible rfl)));simp only [zA]
 apply ag rfl;(intro W hW;go_simp;with_reducible rfl);simp only [zA]
 apply aj rfl rfl;(intro hb;intro W hW;go_simp;with_reducible rfl);simp only [zA]
 refine bC (v:=?_) rfl rfl ?_ ?_;rotate_left;(intro hb;intro W hW;unfold bG;go_simp;(with_reducible refine (dV _ _ _ W).mono ?_);rintro e W' ⟨rfl,bg⟩;first | (refine ⟨?_,aa.trans hW bg⟩;with_reducible rfl) | (subst bg;refine ⟨?_,hW⟩;with_reducible rfl))
 simp only [zA]
 apply aj rfl rfl;(intro hb;intro W hW;go_simp;with_reducible rfl);simp only [zA]
 (first | refine bu rfl rfl ?_ | (apply ag rfl;(intro W hW;go_simp;with_reducible rfl)));simp only [zA]
 intro Wa Eb
 cases hg : (!an n || !ee 3 40 m || !ee 0 200000 steps)
 ·simp only [Bool.or_eq_false_iff,Bool.not_eq_false'] at hg;have hr : az n m steps = true:=by simp [az,hg.1.1,hg.1.2,hg.2]
  have hm:=aM.1 hg.1.2;have gE:=aM.1 hg.2;have hn:=hg.1.1;obtain ⟨R,hR⟩ : ∃ R,R = yj n (accG n 0 m) (m - 1) steps:=⟨_,rfl⟩
  have Hr:=zh (show true = az n m steps from hr.symm)
  have H1:=zh (show R.2.1 = aR n m steps by unfold aR;rw [if_pos hr,hR];rfl)
  have H2:=zh (show R.2.2 = a_ n m steps by unfold a_;rw [if_pos hr,hR];rfl)
  have H3:=zh (show R.1 = aG n m steps by unfold aG;rw [if_pos hr,hR];rfl)
  have HR:=zh hR;have Hn:=zh hn;have m1 : IntKind.i64.wrap (m - 1) = m - 1:=aL _ (by omega) (by omega);have q0:=ai eG Eb;have q1:=ai eX Eb;have q2:=ai fb Eb;have Hs:=zh Eb;clear hg hr hn hR Eb;go_upto_region 3 with (fail);refine cm (w0:=Wa) 5 [false,false,false,true,true] (by kernel_rfl) (by kernel_rfl) (ad _) ?_;simp only [d_,dO,zT]
  iterate 3 (apply bB rfl;(intro W hW;go_simp;with_reducible rfl);simp only [zA])
  intro W hW;refine Or.inl ⟨rfl,?_⟩
  go_simp
  (with_reducible refine (kL _ _ _ n m W (H.out.keep (Hs.out.after hW).below)).mono ?_)
  rintro e W' ⟨rfl,hw⟩
  refine ⟨_,rfl,(show aa Wa W' from aa.after hW (by rw [hw];exact ah _ (ah _ (ad _)))),?_⟩
  replace hW:=(show aa Wa W' from aa.after hW (by rw [hw];exact ah _ (ah _ (ad _))))
  unfold Ea
  (try simp only [zA])
  refine dA (v:=?_) rfl ?_ hW ?_;rotate_left;(go_simp;with_reducible rfl)
  simp only [zA];simp only [bA];obtain ⟨b,hb⟩ : ∃ b,b = W.heap.size:=⟨_,rfl⟩
  have s0:=ae (show W'.cell? ⟨b,0,none⟩ = some (.slice A n.ends.length c) by rw [hw,hb];simp)
  have s1:=ae (show W'.cell? ⟨b,1,none⟩ = some (.slice A2 n.ids.length c2) by rw [hw,hb];simp)
  have s2:=ae (show W'.cell? ⟨b,2,none⟩ = some (.slice A3 n.inputs.length c3) by rw [hw,hb];simp)
  have s3:=ae (show W'.cell? ⟨b + 1,0,none⟩ = some (.int .i64 m) by rw [hw,hb];simp)
  have FZ:=zh (Hs.out.after hW);have DO : Hid (sa W' 158 b n (m - 1) (accG n 0 m)):=KD (H.out.keep FZ.out.below) Hn.out hm.1 hm.2 s0 s1 s2 s3;obtain ⟨B,hB⟩ : ∃ B,B = W'.heap.size:=⟨_,rfl⟩
  obtain ⟨w3,gY⟩ : ∃ w3,w3 = W'.alloc (.cells #[.slice A n.ends.length c,.slice A2 n.ids.length c2,.slice A3 n.inputs.length c3,pM 158 b,.slice none 0 0] 104):=⟨_,rfl⟩
  have HA : Hid (LS w3 B (.slice A n.ends.length c) (.slice A2 n.ids.length c2) (.slice A3 n.inputs.length c3) (pM 158 b) (.slice none 0 0)):=by
   show (_ : Option _) = _
   rw [gY,hB];show (W'.heap.push _)[W'.heap.size]? = _
   rw [Array.getElem?_push_size]
  have eY : Hid (aa W' w3):=by rw [gY];exact ah _ (ad _)
  have QS : Hid (W'.heap.size ≤ B):=by rw [hB];exact Nat.le_refl _
  have Z6:=zh (H.out.keep FZ.out.below);have sG:=zh gY;have HB:=zh hB;have Hb:=zh hb;unfold pM at sG;clear q0 q1 q2 s0 s1 s2 s3 gY hB hb hw hW;go_upto_region 4 with (fail);rw [← Hb.out,← sG.out,← HB.out];go_wp2_with fail;refine (BB _ _ _ _ n (m - 1) steps (accG n 0 m) 158 B b w3 W' Z6.out eY.out QS.out HA.out Hn.out (by omega) (by omega) gE.1 (by omega) sj DO.out).mono ?_;rw [← HR.out];rintro e w4 ⟨u4,rfl,mf,kD⟩;have sH:=zh mf;have mg:=zh kD;clear mf kD;go_wp2;refine bodyPost_ret (eQ rfl _ _ _) rfl ?_
  exact ⟨_,B0 H1.out H2.out Hr.out,by rw [← H3.out];exact sH.out.mono (Nat.le_trans bv.out.size FZ.out.below.size),aa.after bv.out (FZ.out.after mg.out)⟩
 ·have hr : az n m steps = false:=by
   unfold az
   revert hg
   cases an n <;> cases ee 3 40 m <;> cases ee 0 200000 steps <;> simp
  have Hr:=zh (show false = az n m steps from hr.symm)
  have H1:=zh (show 0 = aR n m steps by unfold aR;rw [if_neg (by rw [hr];simp)])
  have H2:=zh (show 0 = a_ n m steps by unfold a_;rw [if_neg (by rw [hr];simp)])
  have H3:=zh (show [] = aG n m steps by unfold aG;rw [if_neg (by rw [hr];simp)])
  have HW:=zh Eb;clear hg hr Eb;go_wp2;refine bodyPost_ret (eQ rfl _ _ _) rfl ?_
  exact ⟨_,B0 H1.out H2.out Hr.out,by rw [← H3.out];exact cH _ _,aa.after bv.out HW.out⟩
end Go.Proofs.YtgmdpppljkmabaaGreat
