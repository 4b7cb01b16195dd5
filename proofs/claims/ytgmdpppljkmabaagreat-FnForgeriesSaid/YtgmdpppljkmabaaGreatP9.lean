/- Parts of the proof: walks of functions and plain laws. -/
import Derived.Test.YtgmdpppljkmabaaGreatP0
import Derived.Test.YtgmdpppljkmabaaGreatP1
import Derived.Test.YtgmdpppljkmabaaGreatP3
import Derived.Test.YtgmdpppljkmabaaGreatP8
set_option maxRecDepth 100000
set_option maxHeartbeats 16000000
namespace Go.Proofs.YtgmdpppljkmabaaGreat
open Go Go.RowKit
theorem wZ (vl va : Value) (ls FH : List Int) (w : World) (hl : bD w vl ls) (ha : bD w va FH) (n9 : FH.length ≤ 1000000) (dC : ∀ x ∈ FH,0 ≤ x ∧ x < ls.length) :
  Calls Tryz.prog 185 #[vl,va] w fun e w' => ∃ u,e = .returned u ∧ Own w' w.heap.size u (FH.map fun x => ls.getD x.toNat 0) ∧ Below w.heap.size w w':=by
 have HL:=zh hl;have p9:=zh dC;obtain ⟨AL,cL,rfl,sA,mn,_⟩:=hl;obtain ⟨A1,z1,rfl,eF,eD,lP⟩:=ha;unfold maxLen at mn eD;have po:=zh lP;have cX : aa w w:=ad _;clear lP dC
 go_enter Tryz.func185,Tryz.ntmps185
 go_wp2
 go_loopw [5,10] (fun u i wr => ∃ j : Nat,j ≤ FH.length ∧ i = .int .i64 j ∧ Own wr w.heap.size u ((FH.take j).map fun x => ls.getD x.toNat 0) ∧ aa w wr) (fun _ i _ => FH.length - (intOf i).toNat)
 case atStart => exact ⟨0,Nat.zero_le _,rfl,by simpa using cH w w.heap.size,cX⟩
 case round =>
  obtain ⟨j,hj,rfl,ho,hs⟩:=hrel;have Ho:=zh ho;clear cX ho
  by_cases hlt : j < FH.length
  ·obtain ⟨x1,hx⟩:=aW FH j hlt;obtain ⟨b1,qp,rfl,kV⟩:=po.out j _ hx;obtain ⟨i1,i2⟩:=p9.out _ (List.mem_of_getElem? hx);obtain ⟨m1,bl,ol,cl,y,rfl,hv,k9,CP,ib,yQ⟩:=eV HL.out i1 i2;cases hv;have t1:=ae kV;have t3:=ae yQ;have Hx:=zh hx;have Hg:=zh ib
   have hlen : Hid (((FH.take j).map fun x => ls.getD x.toNat 0).length + 1 ≤ 17592186044416):=by show _ ≤ _;simp;omega
   have E2 : Hid (((FH.take j).map fun x => ls.getD x.toNat 0).length = j):=by show _ = _;simp;omega
   clear hx kV yQ CP ib
   go_wp2_with (at_builtin;refine ic rfl _ _ rfl rfl (Ho.out.since (ah _ (ad _))) wr.heap.size y rfl (by simp [go_sem]) hlen.out (ah _ hs) ?_;intro g cc w2 dL dE)
   have e1 : ((FH.take j).map fun x => ls.getD x.toNat 0) ++ [y] = (FH.take (j + 1)).map fun x => ls.getD x.toNat 0:=by rw [bk Hx.out];simp only [List.map_append,List.map_cons,List.map_nil,Hg.out]
   rw [e1] at dL;have iU:=zh dL;have cw:=zh dE;clear dL dE hs e1;go_wp2;go_roundw
   case rel => exact ⟨j + 1,by omega,by go_num,by first | exact iU.out | (have:=iU.out;rw [E2.out] at this;exact this),cw.out⟩
   case measure => simp [intOf];omega
  ·obtain rfl : j = FH.length:=by omega
   go_wp2;go_ret
   exact ⟨_,rfl,by have:=Ho.out;rwa [List.take_length] at this,hs⟩
def DH (own : Int) (xs : List Int) : Bool:=(xs.all fun x => x == own - 1 || x == own + 1) && ((own == 0 && (xs.countP (fun x => x == own - 1) == 0)) || (decide (0 < own) && (xs.countP (fun x => x == own - 1) == 1)))
def uG (own : Int) (xs : List Int) : Bool:=if own = 0 then xs.countP (fun x => x == own + 1) == xs.length else (xs.countP (fun x => x == own - 1) == 1) && (((xs.countP (fun x => x == own + 1) : Nat) : Int) == (xs.length : Int) - 1)
theorem Qj {own : Int} {xs : List Int} (h0 : 0 ≤ own) : uG own xs = DH own xs:=by
 have hs:=xR (p:=fun x => x == own - 1) (q:=fun x => x == own + 1) (xs:=xs) (fun x _ hp => by
  simp only [beq_iff_eq] at hp
  simp;omega)
 unfold uG DH
 generalize xs.countP (fun x => x == own - 1) = a at *
 generalize xs.countP (fun x => x == own + 1) = b at *
 rw [Bool.eq_iff_iff]
 by_cases h : own = 0
 ·rw [if_pos h];simp only [Bool.and_eq_true,decide_eq_true_eq,beq_iff_eq,Bool.or_eq_true,List.all_eq_true] at *
  rw [← hs.2];omega
 ·rw [if_neg h];simp only [Bool.and_eq_true,decide_eq_true_eq,beq_iff_eq,Bool.or_eq_true,List.all_eq_true] at *
  rw [← hs.2];omega
theorem zb (own : Int) (va : Value) (xs : List Int) (w : World) (h0 : 0 ≤ own) (h1 : own ≤ 999999999999) (ha : bD w va xs) (n9 : xs.length ≤ 1000000) :
  Calls Tryz.prog 188 #[.int .i64 own,va] w fun e w' => e = .returned (.bool (DH own xs)) ∧ Below w.heap.size w w':=by
 obtain ⟨A1,z1,rfl,eF,eD,lP⟩:=ha;unfold maxLen at eD;have po:=zh lP;clear lP
 go_enter Tryz.func188,Tryz.ntmps188
 go_wp2
 go_loop [5,10] (fun c i => ∃ j : Nat,j ≤ xs.length ∧ i = .int .i64 j ∧ c = .int .i64 (((xs.take j).countP fun x => x == own - 1 : Nat) : Int) ∧ ((xs.take j).all fun x => x == own - 1 || x == own + 1) = true) (fun _ i => xs.length - (intOf i).toNat)
 case atStart => exact ⟨0,Nat.zero_le _,rfl,by simp,by simp⟩
 case round =>
  obtain ⟨j,hj,rfl,rfl,bW⟩:=hrel;have fk:=zh bW
  have iw : ((xs.take j).countP fun x => x == own - 1) ≤ 1000000:=by
   have:=List.countP_le_length (p:=fun x => x == own - 1) (l:=xs.take j)
   simp at this ⊢
   omega
  clear bW
  generalize hc : ((xs.take j).countP fun x => x == own - 1) = c at iw ⊢
  have Hc:=zh hc;clear hc
  by_cases hlt : j < xs.length
  ·obtain ⟨y,hx⟩:=aW xs j hlt;obtain ⟨b1,qp,rfl,kV⟩:=po.out j y hx;have Hx:=zh hx;clear hx;cases f1 : (y == own - 1)
   ·cases f2 : (y == own + 1)
    ·have F:=zh (And.intro f1 f2);have f3 : (y != own + 1) = true:=by simp [bne,f2]
     go_wp2;go_ret;refine ⟨bt ?_,Below.refl _ _⟩;unfold DH;rw [Bool.and_eq_false_iff]
     left
     rw [List.all_eq_false];exact ⟨y,List.mem_of_getElem? Hx.out,by simp [F.out.1,F.out.2]⟩
    ·have F:=zh (And.intro f1 f2);have f3 : (y != own + 1) = false:=by simp [bne,f2]
     go_wp2
     go_round
     case rel => exact ⟨j + 1,by omega,by go_num,by rw [bk Hx.out,fq,Hc.out];simp [F.out.1],by rw [bk Hx.out,List.all_append,fk.out];simp [F.out.2]⟩
     case measure => simp [intOf];omega
   ·have F:=zh f1;go_wp2
    go_round
    case rel => exact ⟨j + 1,by omega,by go_num,by rw [bk Hx.out,fq,Hc.out];simp [F.out],by rw [bk Hx.out,List.all_append,fk.out];simp [F.out]⟩
    case measure => simp [intOf];omega
  ·obtain rfl : j = xs.length:=by omega
   have hr : Hid (DH own xs = ((own == 0 && (c == 0)) || (decide (0 < own) && (c == 1)))):=by
    show _ = _
    have h1:=fk.out;have h2:=Hc.out;rw [List.take_length] at h1 h2;unfold DH;rw [h1,h2,Bool.true_and]
   go_upto_region 10 with (fail);refine aB 15 (aa w) (ad _) ?_;simp only [zT]
   iterate 3 (apply ag rfl;(intro W hW;go_simp;with_reducible rfl);simp only [zA])
   iterate 2 (apply aj rfl rfl;(intro hb;intro W hW;go_simp;with_reducible rfl);simp only [zA])
   (first | refine bJ rfl rfl ?_ | (apply ag rfl;(intro W hW;go_simp;with_reducible rfl)));simp only [zA]
   apply ag rfl;(intro W hW;go_simp;with_reducible rfl);simp only [zA]
   iterate 3 (apply aj rfl rfl;(intro hb;intro W hW;go_simp;with_reducible rfl);simp only [zA])
   iterate 2 (apply fB rfl rfl;(intro hb b_;intro W hW;go_simp;with_reducible rfl);simp only [zA])
   refine h_ rfl rfl rfl ?_;simp only [zA]
   (first | refine bu rfl rfl ?_ | (apply ag rfl;(intro W hW;go_simp;with_reducible rfl)));simp only [zA]
   apply ag rfl;(intro W hW;go_simp;with_reducible rfl);simp only [zA]
   intro W2 iv;have CO:=zh iv;clear iv;go_wp2;go_ret;refine ⟨bP ?_,CO.out⟩;rw [hr.out,oe,xS]
theorem qI (own : Int) (va : Value) (xs : List Int) (w : World) (h0 : 0 ≤ own) (h1 : own ≤ 999999999999) (ha : bD w va xs) (n9 : xs.length ≤ 1000000) :
  Calls Tryz.prog 173 #[.int .i64 own,va] w fun e w' => e = .returned (.bool (uG own xs)) ∧ Below w.heap.size w w':=by
 obtain ⟨A1,z1,rfl,eF,eD,lP⟩:=ha;unfold maxLen at eD;have po:=zh lP;clear lP
 go_enter Tryz.func173,Tryz.ntmps173
 go_wp2
 go_loop [5,6,11] (fun c g i => ∃ j : Nat,j ≤ xs.length ∧ i = .int .i64 j ∧ c = .int .i64 (((xs.take j).countP fun x => x == own - 1 : Nat) : Int) ∧ g = .int .i64 (((xs.take j).countP fun x => x == own + 1 : Nat) : Int)) (fun _ _ i => xs.length - (intOf i).toNat)
 case atStart => exact ⟨0,Nat.zero_le _,rfl,by simp,by simp⟩
 case round =>
  obtain ⟨j,hj,rfl,rfl,rfl⟩:=hrel
  have iw : ((xs.take j).countP fun x => x == own - 1) ≤ 1000000 ∧ ((xs.take j).countP fun x => x == own + 1) ≤ 1000000:=by
   have h1:=List.countP_le_length (p:=fun x => x == own - 1) (l:=xs.take j)
   have h2:=List.countP_le_length (p:=fun x => x == own + 1) (l:=xs.take j)
   simp at h1 h2 ⊢
   omega
  generalize hc : ((xs.take j).countP fun x => x == own - 1) = c at iw ⊢
  generalize hg : ((xs.take j).countP fun x => x == own + 1) = g at iw ⊢
  obtain ⟨iw,Mm⟩:=iw;have Hc:=zh hc;have Hg:=zh hg;clear hc hg
  by_cases hlt : j < xs.length
  ·obtain ⟨y,hx⟩:=aW xs j hlt;obtain ⟨b1,qp,rfl,kV⟩:=po.out j y hx;have Hx:=zh hx;clear hx;cases f1 : (y == own - 1)
   all_goals
    cases f2 : (y == own + 1)
   all_goals
    have F:=zh (And.intro f1 f2)
    go_wp2_with (go_at_call 90;refine (oa _ _).mono ?_;rintro e w' ⟨rfl,rfl⟩)
    go_round
    case rel => exact ⟨j + 1,by omega,by go_num,by rw [bk Hx.out,fq,Hc.out,F.out.1];simp,by rw [bk Hx.out,fq,Hg.out,F.out.2];simp⟩
    case measure => simp [intOf];omega
  ·obtain rfl : j = xs.length:=by omega
   have h1:=Hc.out;have h2:=Hg.out;rw [List.take_length] at h1 h2
   by_cases ho : own = 0
   ·have hr : Hid (uG own xs = (g == xs.length)):=by
     show _ = _
     unfold uG;rw [if_pos ho,h2]
    have rt : (own == 0) = true:=by simp [ho]
    have Ho:=zh ho;clear h1 h2 ho;go_wp2;go_ret;refine ⟨bP ?_,Below.refl _ _⟩
    rw [hr.out,Bool.eq_iff_iff];simp <;> omega
   ·have hr : Hid (uG own xs = ((c == 1) && ((g : Int) == (xs.length : Int) - 1))):=by
     show _ = _
     unfold uG;rw [if_neg ho,h1,h2]
    have rt : (own == 0) = false:=by simpa using ho
    have m1 : IntKind.i64.wrap ((xs.length : Int) - 1) = (xs.length : Int) - 1:=aL _ (by omega) (by omega);clear h1 h2;go_upto_region 10 with (fail);refine aB 10 (aa w) (ad _) ?_;simp only [zT]
    iterate 3 (apply ag rfl;(intro W hW;go_simp;with_reducible rfl);simp only [zA])
    iterate 5 (apply aj rfl rfl;(intro hb;intro W hW;go_simp;with_reducible rfl);simp only [zA])
    (first | refine bJ rfl rfl ?_ | (apply ag rfl;(intro W hW;go_simp;with_reducible rfl)));simp only [zA]
    apply ag rfl;(intro W hW;go_simp;with_reducible rfl);simp only [zA]
    intro W2 iv;have CO:=zh iv;clear iv m1;go_wp2;go_ret;refine ⟨bP ?_,CO.out⟩;rw [hr.out,oe]
theorem sZ (l : Int) : gM 4 l = [l / 100,l % 100]:=by simp [gM,aV,lx,eB]
theorem Na (l : Int) : gM 5 l = [l / 2 / 10 / 100,l / 2 / 10 % 100,l / 2 % 10,l % 2]:=by simp [gM,aV,lx,eB]
theorem FI {w : World} {v : Value} {a b : Int} (h : bD w v [a,b]) : ∃ g off c,v = .slice (some ⟨g,off,none⟩) 2 c ∧ (∀ W,aa w W → W.cell? ⟨g,off,none⟩ = some (.int .i64 a)) ∧ (∀ W,aa w W → W.cell? ⟨g,off + 1,none⟩ = some (.int .i64 b)):=by
 obtain ⟨A,c,rfl,_,_,hA⟩:=h;obtain ⟨g,off,rfl,h0⟩:=hA 0 a rfl;obtain ⟨g',pl,e,h1⟩:=hA 1 b rfl;cases e;exact ⟨g,off,c,rfl,ae (by simpa using h0),ae h1⟩
theorem FJ {w : World} {v : Value} {a b d e : Int} (h : bD w v [a,b,d,e]) : ∃ g off c,v = .slice (some ⟨g,off,none⟩) 4 c ∧ (∀ W,aa w W → W.cell? ⟨g,off,none⟩ = some (.int .i64 a)) ∧ (∀ W,aa w W → W.cell? ⟨g,off + 1,none⟩ = some (.int .i64 b)) ∧ (∀ W,aa w W → W.cell? ⟨g,off + 2,none⟩ = some (.int .i64 d)) ∧ (∀ W,aa w W → W.cell? ⟨g,off + 3,none⟩ = some (.int .i64 e)):=by
 obtain ⟨A,c,rfl,_,_,hA⟩:=h;obtain ⟨g,off,rfl,h0⟩:=hA 0 a rfl;obtain ⟨g',pl,e1,h1⟩:=hA 1 b rfl;cases e1;obtain ⟨g',pl,e1,h2⟩:=hA 2 d rfl;cases e1;obtain ⟨g',pl,e1,h3⟩:=hA 3 e rfl;cases e1;exact ⟨g,off,c,rfl,ae (by simpa using h0),ae h1,ae h2,ae h3⟩
theorem gj {k : Nat} {p : Nat → Bool} : (List.range (k + 1)).any p = ((List.range k).any p || p k):=by rw [List.range_succ,List.any_append];simp
def lab (ls : List Int) (e : Int × Int) : Int:=ls.getD e.1.toNat 0
def iX (gt jp : Int) (ls : List Int) (l : Int) (es : List (Int × Int)) : Bool:=
 ((List.range es.length).all fun i => lab ls (es.getD i (0,0)) / 100 == l / 100) && ((l % 100 == 0 && gt == l / 100 && jp == 1) || (decide (0 < l % 100) && jp != 1 && (List.range es.length).any fun i => lab ls (es.getD i (0,0)) % 100 == l % 100 - 1))
theorem r8 (ve vi vn : Value) (n : am) (k : Nat) (x gt : Int) (w : World) (h : aT w ve vi vn n) (hid : n.ids[k]? = some gt) :
  Calls Tryz.prog 214 #[.agg #[ve,vi,vn],.int .i64 k,.int .i64 x] w fun e w' => e = .returned (.bool (gt == x)) ∧ Below w.heap.size w w':=by
 obtain ⟨w0,A,c,A2,c2,A3,c3,rfl,rfl,rfl,ft,hm,f6,gF,HA,dh,bv,H,eG,eX,fb⟩:=zB h;clear h
 obtain ⟨_,bl,ol,cl,l',e0,hv,lq,lu,-,hd⟩:=eV H.out.is (x:=(k : Int)) (by omega) (by have:=aq hid;omega)
 cases hv;obtain rfl : k = _:=by exact Int.ofNat.inj e0
 obtain rfl : gt = l':=Option.some.inj (hid.symm.trans lu)
 have t0:=ae hd;have cX : aa w0 w0:=ad _;clear hd lu e0 hid
 go_enter Tryz.func214,Tryz.ntmps214
 go_upto_region 1 with (fail);rw [← dh.out];go_wp2;go_ret;exact ⟨rfl,bv.out⟩
theorem qJ (ve vi vn vl : Value) (n : am) (ls : List Int) (k : Nat) (es : List (Int × Int)) (l gt jp : Int) (w : World) (h : aT w ve vi vn n) (hl : bD w vl ls) (cM : n.ends[k]? = some es) (n9 : es.length ≤ 6) (dC : ∀ e ∈ es,0 ≤ e.1 ∧ e.1 < ls.length)
  (pF : ∀ x ∈ l :: aw ls es,0 ≤ x ∧ x ≤ 999999999999) (hk : ls[k]? = some l) (hid : n.ids.length ≠ 0 → n.ids[k]? = some gt) (nA : n.inputs[k]? = some jp) :
  Calls Tryz.prog 174 #[.agg #[ve,vi,vn],vl,.int .i64 k] w fun e w' => e = .returned (.bool (decide (n.ids.length ≠ 0) && iX gt jp ls l es)) ∧ Below w.heap.size w w':=by
 obtain ⟨w0,A,c,A2,c2,A3,c3,rfl,rfl,rfl,ft,hm,f6,gF,HA,dh,bv,H,eG,eX,fb⟩:=zB h;clear h
 have HL:=zh (hl.keep bv.out)
 by_cases jE : n.ids.length = 0
 ·have hr:=zh (show (decide (n.ids.length ≠ 0) && iX gt jp ls l es) = false by simp [jE])
  have Nb : ((n.ids.length : Int) == 0) = true:=by simp [jE]
  clear jE;have cX : aa w0 w0:=ad _;obtain ⟨AL,cL,rfl,sA,mn,_⟩:=hl
  go_enter Tryz.func174,Tryz.ntmps174
  go_upto_region 1 with (fail);rw [← dh.out];go_wp2;go_ret;exact ⟨bt hr.out,bv.out⟩
 ·have w_:=hid jE;have hr:=zh (show (decide (n.ids.length ≠ 0) && iX gt jp ls l es) = iX gt jp ls l es by simp [jE])
  have Nb : ((n.ids.length : Int) == 0) = false:=by simp;exact fun e => jE (by simp [e])
  obtain ⟨_,bl,ol,cl,l',e0,rfl,lq,lu,-,hd⟩:=eV HL.out (x:=(k : Int)) (by omega) (by have:=aq hk;omega)
  obtain rfl : k = _:=by exact Int.ofNat.inj e0
  obtain rfl : l = l':=Option.some.inj (hk.symm.trans lu)
  obtain ⟨_,bi,oi,ci,i',e1,hv,YU,wu,-,OX⟩:=eV H.out.ns (x:=(k : Int)) (by omega) (by have:=aq nA;omega)
  cases hv;obtain rfl : k = _:=by exact Int.ofNat.inj e1
  obtain rfl : jp = i':=Option.some.inj (nA.symm.trans wu)
  obtain ⟨_,_,hv,sA,mn,_⟩:=id hl;cases hv;unfold maxLen at mn;have lb:=pF l (by simp);obtain ⟨GX,I0⟩:=lb;have t0:=ae hd;have t1:=ae OX;have ml:=zh cM;have p9:=zh dC;have GY:=zh pF;have xc:=zh w_;have cX : aa w0 w0:=ad _;have kW : 0 ≤ l % 100 ∧ l % 100 < 100:=by omega
  obtain ⟨kW,k9⟩:=kW;clear hd OX hk lu e0 e1 nA wu hl cM dC pF hid w_ jE
  go_enter Tryz.func174,Tryz.ntmps174
  go_upto_region 1 with (fail);rw [← dh.out];go_wp2_with fail;refine (lc 4 l GX I0 _).mono ?_;rw [sZ];rintro e W1 ⟨u1,rfl,iu,bj⟩;obtain ⟨g1,o1,c1,rfl,q0,q1⟩:=FI iu.ints;have dm : aa w0 W1:=bj;clear bj iu cX;go_wp2_with fail;refine (kA _ _ _ _ n ls k es _ (H.out.keep dm.below) (HL.out.keep dm.below) ml.out (by omega) p9.out).mono ?_;rintro e W2 ⟨u2,rfl,dL,b_⟩;have hlen : (aw ls es).length = es.length:=by simp [aw]
  obtain ⟨A5,z5,hu,_,SJ,sC⟩:=dL.ints;rw [hlen] at hu;subst hu;unfold maxLen at SJ;have Dj:=zh sC;have eZ:=zh hlen;have jZ : aa W1 W2:=b_;have dE:=dm.after jZ;have q0:=ai q0 jZ;have q1:=ai q1 jZ;have t0:=ai t0 dE;have t1:=ai t1 dE;have eG:=ai eG dE;have eX:=ai eX dE;have fb:=ai fb dE;have cw:=zh dE;clear b_ dL sC hlen jZ dm dE;have rD : aa W2 W2:=ad _;go_wp2
  go_loopw [8,26] (fun nr i wr => ∃ j : Nat,j ≤ es.length ∧ i = .int .i64 j ∧ nr = .bool ((List.range j).any fun i => lab ls (es.getD i (0,0)) % 100 == l % 100 - 1) ∧ ((List.range j).all fun i => lab ls (es.getD i (0,0)) / 100 == l / 100) = true ∧ aa W2 wr) (fun _ i _ => es.length - (intOf i).toNat)
  case atStart => exact ⟨0,Nat.zero_le _,rfl,rfl,rfl,rD⟩
  case round =>
   obtain ⟨j,hj,rfl,rfl,bW,cJ⟩:=hrel;have fk:=zh bW;clear bW rD
   generalize J2 : ((List.range j).any fun i => lab ls (es.getD i (0,0)) % 100 == l % 100 - 1) = nr
   have I2:=zh J2;clear J2
   by_cases hlt : j < es.length
   ·obtain ⟨x,hx⟩:=aW es j hlt
    obtain ⟨y,hy⟩:=aW (aw ls es) j (by rw [eZ.out];exact hlt)
    have xL : lab ls (es.getD j (0,0)) = y:=by
     rw [aH hx]
     have : (aw ls es)[j]? = some (lab ls x):=by simp [aw,hx,lab]
     exact Option.some.inj (this.symm.trans hy)
    obtain ⟨b1,qp,rfl,kV⟩:=Dj.out j y hy
    have yb : 0 ≤ y ∧ y ≤ 999999999999:=by
     exact GY.out y (List.mem_cons_of_mem _ (List.mem_of_getElem? hy))
    obtain ⟨y0,y1⟩:=yb;have d1:=ae kV;have sw:=zh xL;clear hx hy xL kV;go_wp2_with fail;refine (lc 4 y y0 y1 _).mono ?_;rw [sZ];rintro e W3 ⟨u3,rfl,ie,bg⟩;obtain ⟨g3,o3,pc,rfl,r0,r1⟩:=FI ie.ints;have mO : aa W2 W3:=cJ.trans bg;have Hq:=zh (And.intro q0 q1);have z0:=ai q0 mO;have z1:=ai q1 mO;have J3:=zh mO;clear bg ie mO cJ q0 q1 d1;go_upto_region 9 with (fail);refine ao 7 (aa W3) (by kernel_rfl) (by kernel_rfl) (by simp) (ak (ad _)) ?_;simp only [zT]
    iterate 7 (apply ag rfl;(intro W hW;go_simp;with_reducible rfl);simp only [zA])
    intro W4 jq;cases f1 : (y / 100 == l / 100)
    ·have F1:=zh f1;have Bp : (y / 100 != l / 100) = true:=by simp [bne,f1]
     have s8:=zh jq;clear f1 jq r0 r1 z0 z1;go_wp2;go_ret;refine ⟨bt ?_,aa.after bv.out (cw.out.after (J3.out.after s8.out))⟩;rw [hr.out];unfold iX;rw [Bool.and_eq_false_iff]
     exact .inl (aZ hlt (by rw [sw.out];exact F1.out))
    ·have F1:=zh f1;have Bp : (y / 100 != l / 100) = false:=by simp [bne,f1]
     have r0:=ai r0 jq;have r1:=ai r1 jq;have z0:=ai z0 jq;have z1:=ai z1 jq;have s8:=zh (J3.out.after jq);clear f1 jq;go_upto_region 11 with (fail);have m1 : IntKind.i64.wrap (l % 100 - 1) = l % 100 - 1:=aL _ (by omega) (by omega);refine ao 11 (aa W4) (by kernel_rfl) (by kernel_rfl) (by simp) (ak (ad _)) ?_;simp only [zT]
     iterate 2 (apply ag rfl;(intro W hW;go_simp;with_reducible rfl);simp only [zA])
     iterate 8 (apply aj rfl rfl;(intro hb;intro W hW;go_simp;with_reducible rfl);simp only [zA])
     (first | refine bu rfl rfl ?_ | (apply ag rfl;(intro W hW;go_simp;with_reducible rfl)));simp only [zA]
     intro W5 jd;have mx:=zh (s8.out.after jd);clear jd m1 r0 r1 z0 z1 Bp;go_wp2;go_roundw
     case rel => exact ⟨j + 1,by omega,by go_num,by rw [gj,I2.out,sw.out],by rw [cB,fk.out,sw.out,F1.out];rfl,mx.out⟩
     case measure => simp [intOf];omega
   ·obtain rfl : j = es.length:=by omega
    have mN : Hid (iX gt jp ls l es = ((l % 100 == 0 && gt == l / 100 && jp == 1) || (decide (0 < l % 100) && jp != 1 && nr))):=by
     show _ = _
     unfold iX;rw [fk.out,I2.out,Bool.true_and]
    have z0:=ai q0 cJ;have z1:=ai q1 cJ;have t1:=ai t1 cJ;have eG:=ai eG cJ;have eX:=ai eX cJ;have fb:=ai fb cJ;have lw:=zh cJ;have wH : aa wr wr:=ad _;clear cJ q0 q1;cases f2 : (l % 100 == 0)
    ·have F2:=zh f2;go_upto_region 15 with (fail);clear wH;refine aB 10 (aa wr) (ad _) ?_;simp only [zT]
     iterate 7 (apply ag rfl;(intro W hW;go_simp;with_reducible rfl);simp only [zA])
     apply aj rfl rfl;(intro hb;intro W hW;go_simp;with_reducible rfl);simp only [zA]
     (first | refine bJ rfl rfl ?_ | (apply ag rfl;(intro W hW;go_simp;with_reducible rfl)));simp only [zA]
     apply ag rfl;(intro W hW;go_simp;with_reducible rfl);simp only [zA]
     intro W5 jd;have mx:=zh jd;clear jd;go_wp2;go_ret;refine ⟨bP ?_,aa.after bv.out (cw.out.after (lw.out.after mx.out))⟩;rw [hr.out,mN.out,F2.out]
     have : decide (0 < l % 100) = true:=by
      have:=F2.out
      simp at this ⊢
      omega
     rw [this];simp
    ·have F2:=zh f2;go_upto_region 14 with (fail);clear wH;refine ao 15 (aa wr) (by kernel_rfl) (by kernel_rfl) (by simp) (ak (ad _)) ?_;simp only [zT]
     iterate 5 (apply ag rfl;(intro W hW;go_simp;with_reducible rfl);simp only [zA])
     refine dn ?_ rfl ?_ ?_;rotate_left;(intro W hW;unfold bG;go_simp;(with_reducible refine (r8 _ _ _ n k _ gt W (H.out.keep (cw.out.after (lw.out.after hW)).below) xc.out).mono ?_);rintro e W' ⟨rfl,bg⟩;first | (refine ⟨?_,aa.trans hW bg⟩;with_reducible rfl) | (subst bg;refine ⟨?_,hW⟩;with_reducible rfl))
     simp only [zA]
     apply ag rfl;(intro W hW;go_simp;with_reducible rfl);simp only [zA]
     iterate 6 (apply aj rfl rfl;(intro hb;intro W hW;go_simp;with_reducible rfl);simp only [zA])
     (first | refine bJ rfl rfl ?_ | (apply ag rfl;(intro W hW;go_simp;with_reducible rfl)));simp only [zA]
     apply ag rfl;(intro W hW;go_simp;with_reducible rfl);simp only [zA]
     intro W5 jd;have mx:=zh jd;clear jd;go_wp2;go_ret;refine ⟨bP ?_,aa.after bv.out (cw.out.after (lw.out.after mx.out))⟩;rw [hr.out,mN.out,F2.out]
     have : decide (0 < l % 100) = false:=by
      have:=F2.out
      simp at this ⊢
      omega
     rw [this];simp
theorem xd (ve vi vn vl : Value) (n : am) (ls : List Int) (k : Nat) (es : List (Int × Int)) (l gt jp : Int) (w : World) (h : aT w ve vi vn n) (hl : bD w vl ls) (cM : n.ends[k]? = some es) (_ : es.length ≤ 6) (dC : ∀ e ∈ es,0 ≤ e.1 ∧ e.1 < ls.length)
  (pF : ∀ x ∈ l :: aw ls es,0 ≤ x ∧ x ≤ 999999999999) (hk : ls[k]? = some l) (hid : n.ids[k]? = some gt) (nA : n.inputs[k]? = some jp) :
  Calls Tryz.prog 189 #[.agg #[ve,vi,vn],.int .i64 4,vl,.int .i64 k] w fun e w' => e = .returned (.bool (iX gt jp ls l es)) ∧ Below w.heap.size w w':=by
 obtain ⟨w0,A,c,A2,c2,A3,c3,rfl,rfl,rfl,ft,hm,f6,gF,HA,dh,bv,H,eG,eX,fb⟩:=zB h;clear h
 have HL:=zh (hl.keep bv.out)
 obtain ⟨_,bl,ol,cl,l',e0,rfl,lq,lu,-,hd⟩:=eV HL.out (x:=(k : Int)) (by omega) (by have:=aq hk;omega)
 obtain rfl : k = _:=by exact Int.ofNat.inj e0
 obtain rfl : l = l':=Option.some.inj (hk.symm.trans lu)
 obtain ⟨_,bi,oi,ci,i',e1,hv,YU,wu,-,OX⟩:=eV H.out.ns (x:=(k : Int)) (by omega) (by have:=aq nA;omega)
 cases hv;obtain rfl : k = _:=by exact Int.ofNat.inj e1
 obtain rfl : jp = i':=Option.some.inj (nA.symm.trans wu)
 obtain ⟨_,bd,od,cd,d',e2,hv,hkd,Ui,-,yY⟩:=eV H.out.is (x:=(k : Int)) (by omega) (by have:=aq hid;omega)
 cases hv;obtain rfl : k = _:=by exact Int.ofNat.inj e2
 obtain rfl : gt = d':=Option.some.inj (hid.symm.trans Ui)
 obtain ⟨b0,Uj,c0,u0,hA,zS,eS,dG⟩:=jQ H.out.es cM;cases hA;obtain ⟨A1,z1,rfl,eF,eD,lP⟩:=dG;unfold maxLen at eD;obtain ⟨_,_,hv,sA,mn,_⟩:=id hl;cases hv;unfold maxLen at mn;have lb:=pF l (by simp);obtain ⟨GX,I0⟩:=lb;have t0:=ae hd;have t1:=ae OX;have t2:=ae yY;have t3:=ae eS;have po:=zh lP;have p9:=zh dC;have GY:=zh pF;have cX : aa w0 w0:=ad _;have kW : 0 ≤ l % 100 ∧ l % 100 < 100:=by omega
 obtain ⟨kW,k9⟩:=kW;clear hd OX yY eS lP hk lu e0 e1 e2 nA wu hid Ui hl cM dC pF
 go_enter Tryz.func189,Tryz.ntmps189
 go_upto_region 1 with (fail);rw [← dh.out];go_wp2_with fail;refine (ld 4 l GX I0 _).mono ?_;rw [sZ];rintro e W2 ⟨u1,rfl,iu,bj⟩;obtain ⟨g1,o1,c1,rfl,q0,q1⟩:=FI iu.ints;have dE : aa w0 W2:=bj;have t0:=ai t0 dE;have t1:=ai t1 dE;have t2:=ai t2 dE;have t3:=ai t3 dE;have eG:=ai eG dE;have eX:=ai eX dE;have fb:=ai fb dE;have cw:=zh dE;have rD : aa W2 W2:=ad _;clear bj iu cX dE;go_wp2
 go_loopw [10,28] (fun nr i wr => ∃ j : Nat,j ≤ es.length ∧ i = .int .i64 j ∧ nr = .bool ((List.range j).any fun i => lab ls (es.getD i (0,0)) % 100 == l % 100 - 1) ∧ ((List.range j).all fun i => lab ls (es.getD i (0,0)) / 100 == l / 100) = true ∧ aa W2 wr) (fun _ i _ => es.length - (intOf i).toNat)
 case atStart => exact ⟨0,Nat.zero_le _,rfl,rfl,rfl,rD⟩
 case round =>
  obtain ⟨j,hj,rfl,rfl,bW,cJ⟩:=hrel;have fk:=zh bW;clear bW rD
  generalize J2 : ((List.range j).any fun i => lab ls (es.getD i (0,0)) % 100 == l % 100 - 1) = nr
  have I2:=zh J2;clear J2
  by_cases hlt : j < es.length
  ·obtain ⟨⟨x1,x2⟩,hx⟩:=aW es j hlt;obtain ⟨b1,qp,rfl,kV,iz⟩:=po.out j _ hx;obtain ⟨i1,i2⟩:=p9.out _ (List.mem_of_getElem? hx);simp only at i1 i2
   obtain ⟨SU,Za,Zb,Zc,y,rfl,hv,qt,CP,ib,yQ⟩:=eV HL.out i1 i2;cases hv
   have xL : lab ls (es.getD j (0,0)) = y:=by rw [aH hx];exact ib
   have yb:=GY.out y (tX hx ib);obtain ⟨y0,y1⟩:=yb;have d1:=ai (ae kV) (cw.out.after cJ);have d2:=ai (ae iz) (cw.out.after cJ);have d3:=ai (ae yQ) (cw.out.after cJ);have sw:=zh xL;have wH : aa wr wr:=ad _;have qy:=World.block_lt_of_cell? wr _ (d3 wr wH);clear hx kV iz yQ xL CP ib;go_wp2_with fail;refine (ld 4 y y0 y1 _).mono ?_;rw [sZ];rintro e W3 ⟨u3,rfl,ie,bg⟩;obtain ⟨g3,o3,pc,rfl,r0,r1⟩:=FI ie.ints;have mO : aa W2 W3:=cJ.after (aa.after (ah _ (ad _)) bg);have z0:=ai q0 mO;have z1:=ai q1 mO;have J3:=zh mO;have HSr:=zh cJ;clear bg ie mO cJ q0 q1 d1 d2 d3 wH qy;go_upto_region 7 with (fail);refine ao 7 (aa W3) (by kernel_rfl) (by kernel_rfl) (by simp) (ak (ad _)) ?_;simp only [zT]
   iterate 7 (apply ag rfl;(intro W hW;go_simp;with_reducible rfl);simp only [zA])
   intro W4 jq;cases f1 : (y / 100 == l / 100)
   ·have F1:=zh f1;have Bp : (y / 100 != l / 100) = true:=by simp [bne,f1]
    have s8:=zh jq;clear f1 jq r0 r1 z0 z1;go_wp2;go_ret;refine ⟨bt ?_,aa.after bv.out (cw.out.after (J3.out.after s8.out))⟩;unfold iX;rw [Bool.and_eq_false_iff]
    exact .inl (aZ hlt (by rw [sw.out];exact F1.out))
   ·have F1:=zh f1;have Bp : (y / 100 != l / 100) = false:=by simp [bne,f1]
    have r1:=ai r1 jq;have z1:=ai z1 jq;have s8:=zh (J3.out.after jq);clear f1 jq r0 z0;go_upto_region 9 with (fail);have m1 : IntKind.i64.wrap (l % 100 - 1) = l % 100 - 1:=aL _ (by omega) (by omega);refine ao 9 (aa W4) (by kernel_rfl) (by kernel_rfl) (by simp) (ak (ad _)) ?_;simp only [zT]
    iterate 9 (apply ag rfl;(intro W hW;go_simp;with_reducible rfl);simp only [zA])
    intro W5 jd;have mx:=zh (s8.out.after jd);clear jd m1 r1 z1 Bp;go_upto_region 11 with (fail);refine aB 4 (aa W5) (ad _) ?_;simp only [zT]
    iterate 2 (apply ag rfl;(intro W hW;go_simp;with_reducible rfl);simp only [zA])
    apply aj rfl rfl;(intro hb;intro W hW;go_simp;with_reducible rfl);simp only [zA]
    (first | refine bu rfl rfl ?_ | (apply ag rfl;(intro W hW;go_simp;with_reducible rfl)));simp only [zA]
    intro W6 GZ;have Uk:=zh (mx.out.after GZ);clear GZ;go_wp2;go_roundw
    case rel => exact ⟨j + 1,by omega,by go_num,by rw [gj,I2.out,sw.out],by rw [cB,fk.out,sw.out,F1.out];rfl,Uk.out⟩
    case measure => simp [intOf];omega
  ·obtain rfl : j = es.length:=by omega
   have mN : Hid (iX gt jp ls l es = ((l % 100 == 0 && gt == l / 100 && jp == 1) || (decide (0 < l % 100) && jp != 1 && nr))):=by
    show _ = _
    unfold iX;rw [fk.out,I2.out,Bool.true_and]
   have z0:=ai q0 cJ;have z1:=ai q1 cJ;have t1:=ai t1 cJ;have t2:=ai t2 cJ;have eG:=ai eG cJ;have eX:=ai eX cJ;have fb:=ai fb cJ;have lw:=zh cJ;clear cJ q0 q1;go_upto_region 17 with (fail);refine ao 41 (aa wr) (by kernel_rfl) (by kernel_rfl) (by simp) (ak (ad _)) ?_;simp only [zT]
   iterate 5 (apply ag rfl;(intro W hW;go_simp;with_reducible rfl);simp only [zA])
   iterate 9 (apply aj rfl rfl;(intro hb;intro W hW;go_simp;with_reducible rfl);simp only [zA])
   (first | refine bJ rfl rfl ?_ | (apply ag rfl;(intro W hW;go_simp;with_reducible rfl)));simp only [zA]
   apply ag rfl;(intro W hW;go_simp;with_reducible rfl);simp only [zA]
   iterate 6 (apply aj rfl rfl;(intro hb;intro W hW;go_simp;with_reducible rfl);simp only [zA])
   (first | refine bJ rfl rfl ?_ | (apply ag rfl;(intro W hW;go_simp;with_reducible rfl)));simp only [zA]
   apply ag rfl;(intro W hW;go_simp;with_reducible rfl);simp only [zA]
   iterate 5 (apply aj rfl rfl;(intro hb;intro W hW;go_simp;with_reducible rfl);simp only [zA])
   iterate 6 (apply fB rfl rfl;(intro hb b_;intro W hW;go_simp;with_reducible rfl);simp only [zA])
   refine h_ rfl rfl rfl ?_;simp only [zA]
   apply aj rfl rfl;(intro hb;intro W hW;go_simp;with_reducible rfl);simp only [zA]
   apply fB rfl rfl;(intro hb b_;intro W hW;go_simp;with_reducible rfl);simp only [zA]
   refine h_ rfl rfl rfl ?_;simp only [zA]
   (first | refine bu rfl rfl ?_ | (apply ag rfl;(intro W hW;go_simp;with_reducible rfl)));simp only [zA]
   apply ag rfl;(intro W hW;go_simp;with_reducible rfl);simp only [zA]
   intro W5 jd;have mx:=zh jd;clear jd;go_wp2;go_ret;exact ⟨bP mN.out.symm,aa.after bv.out (cw.out.after (lw.out.after mx.out))⟩
def r9 (x : Int) : Int:=x / 2 / 10 / 100
def jS (x : Int) : Int:=x / 2 / 10 % 100
def rm (x : Int) : Int:=x / 2 % 10
def sE (x : Int) : Int:=x % 2
theorem zc (l : Int) : gM 5 l = [r9 l,jS l,rm l,sE l]:=Na l
theorem J4 (x : Int) : 0 ≤ jS x ∧ jS x < 100:=by unfold jS;omega
theorem uH (x : Int) : 0 ≤ sE x ∧ sE x ≤ 1:=by unfold sE;omega
def lU (l : Int) (e : Int × Int) (y : Int) : Bool:=e.2 == rm y && jS y == jS l + 1
def fN (ls : List Int) (l : Int) (es : List (Int × Int)) : Nat → Int
 | 0 => 1
 | j + 1 => fN ls l es j + if lU l (es.getD j (0,0)) (lab ls (es.getD j (0,0))) then sE (lab ls (es.getD j (0,0))) else 0
theorem Bq (ls : List Int) (l : Int) (es : List (Int × Int)) (j : Nat) : 1 ≤ fN ls l es j ∧ fN ls l es j ≤ 1 + j:=by
 induction j with
 | zero => simp [fN]
 | succ j ih =>
  have:=uH (lab ls (es.getD j (0,0)))
  unfold fN
  split <;> omega
def nB (ls : List Int) (l : Int) (es : List (Int × Int)) (j : Nat) : Bool:=(List.range j).any fun i => ((i : Int) == rm l) && (jS (lab ls (es.getD i (0,0))) == jS l - 1)
def nC (ls : List Int) (l : Int) (es : List (Int × Int)) (j : Nat) : Bool:=(List.range j).all fun i => r9 (lab ls (es.getD i (0,0))) == r9 l
def jF (gt : Int) (ls : List Int) (l : Int) (es : List (Int × Int)) : Bool:=
 nC ls l es es.length && (sE l == fN ls l es es.length % 2) && ((jS l == 0 && rm l == 9 && gt == r9 l && sE l == 0) || (decide (0 < jS l) && nB ls l es es.length))
theorem J5 {ls : List Int} {es : List (Int × Int)} {j : Nat} {x : Int × Int} {y : Int} (hx : es[j]? = some x) (hy : ls.getD x.1.toNat 0 = y) : lab ls (es.getD j (0,0)) = y ∧ (es.getD j (0,0)).2 = x.2:=by rw [aH hx];exact ⟨hy,rfl⟩
theorem Ul {ls : List Int} {es : List (Int × Int)} {j : Nat} {l x y : Int} {b : Bool} (h : lab ls (es.getD j (0,0)) = y ∧ (es.getD j (0,0)).2 = x) (f : (x == rm y && jS y == jS l + 1) = b) : lU l (es.getD j (0,0)) (lab ls (es.getD j (0,0))) = b:=by
 unfold lU;rw [h.1,h.2];exact f
theorem sF (ve vi vn vl : Value) (n : am) (ls : List Int) (k : Nat) (es : List (Int × Int)) (l gt : Int) (w : World) (h : aT w ve vi vn n) (hl : bD w vl ls) (cM : n.ends[k]? = some es) (n9 : es.length ≤ 6) (dC : ∀ e ∈ es,0 ≤ e.1 ∧ e.1 < ls.length)
  (pF : ∀ x ∈ l :: aw ls es,0 ≤ x ∧ x ≤ 999999999999) (hk : ls[k]? = some l) (hid : n.ids.length ≠ 0 → n.ids[k]? = some gt) :
  Calls Tryz.prog 175 #[.agg #[ve,vi,vn],vl,.int .i64 k] w fun e w' => e = .returned (.bool (decide (n.ids.length ≠ 0) && jF gt ls l es)) ∧ Below w.heap.size w w':=by
 obtain ⟨w0,A,c,A2,c2,A3,c3,rfl,rfl,rfl,ft,hm,f6,gF,HA,dh,bv,H,eG,eX,fb⟩:=zB h;clear h
 have HL:=zh (hl.keep bv.out)
 by_cases jE : n.ids.length = 0
 ·have hr:=zh (show (decide (n.ids.length ≠ 0) && jF gt ls l es) = false by simp [jE])
  have Nb : ((n.ids.length : Int) == 0) = true:=by simp [jE]
  clear jE;have cX : aa w0 w0:=ad _;obtain ⟨AL,cL,rfl,sA,mn,_⟩:=hl
  go_enter Tryz.func175,Tryz.ntmps175
  go_upto_region 1 with (fail);rw [← dh.out];go_wp2;go_ret;exact ⟨bt hr.out,bv.out⟩
 have w_:=hid jE;have hr:=zh (show (decide (n.ids.length ≠ 0) && jF gt ls l es) = jF gt ls l es by simp [jE])
 have Nb : ((n.ids.length : Int) == 0) = false:=by simp;exact fun e => jE (by simp [e])
 obtain ⟨_,bl,ol,cl,l',e0,rfl,lq,lu,-,hd⟩:=eV HL.out (x:=(k : Int)) (by omega) (by have:=aq hk;omega)
 obtain rfl : k = _:=by exact Int.ofNat.inj e0
 obtain rfl : l = l':=Option.some.inj (hk.symm.trans lu)
 obtain ⟨b0,Uj,c0,u0,hA,zS,eS,dG⟩:=jQ H.out.es cM;cases hA;obtain ⟨A1,z1,rfl,eF,eD,lP⟩:=dG;unfold maxLen at eD;obtain ⟨_,_,hv,sA,mn,_⟩:=id hl;cases hv;unfold maxLen at mn;have lb:=pF l (by simp);obtain ⟨GX,I0⟩:=lb;have t0:=ae hd;have t3:=ae eS;have po:=zh lP;have p9:=zh dC;have GY:=zh pF;have xc:=zh w_;have cX : aa w0 w0:=ad _;have kW:=J4 l;have gF:=uH l;obtain ⟨kW,k9⟩:=kW;obtain ⟨gF,XQ⟩:=gF;clear hd eS lP hk lu e0 hl cM dC pF hid w_ jE
 go_enter Tryz.func175,Tryz.ntmps175
 go_upto_region 1 with (fail);rw [← dh.out];go_wp2_with fail;refine (lc 5 l GX I0 _).mono ?_;rw [zc];rintro e W2 ⟨u1,rfl,iu,bj⟩;obtain ⟨g1,o1,c1,rfl,q0,q1,q2,q3⟩:=FJ iu.ints;have dE : aa w0 W2:=bj;have t0:=ai t0 dE;have t3:=ai t3 dE;have eG:=ai eG dE;have eX:=ai eX dE;have fb:=ai fb dE;have cw:=zh dE;have rD : aa W2 W2:=ad _;clear bj iu cX dE;go_wp2
 go_loopw [8,9,28] (fun sm nr i wr => ∃ j : Nat,j ≤ es.length ∧ i = .int .i64 j ∧ sm = .int .i64 (fN ls l es j) ∧ nr = .bool (nB ls l es j) ∧ nC ls l es j = true ∧ aa W2 wr) (fun _ _ i _ => es.length - (intOf i).toNat)
 case atStart => exact ⟨0,Nat.zero_le _,rfl,rfl,rfl,rfl,rD⟩
 case round =>
  obtain ⟨j,hj,rfl,rfl,rfl,bW,cJ⟩:=hrel;have fk:=zh bW;have Qk:=Bq ls l es j;clear bW rD
  generalize J2 : nB ls l es j = nr
  generalize Bt : fN ls l es j = sm at Qk ⊢
  obtain ⟨Zv,Zw⟩:=Qk;have I2:=zh J2;have zW:=zh Bt;clear J2 Bt
  by_cases hlt : j < es.length
  ·obtain ⟨⟨x1,x2⟩,hx⟩:=aW es j hlt;obtain ⟨b1,qp,rfl,kV,iz⟩:=po.out j _ hx;obtain ⟨i1,i2⟩:=p9.out _ (List.mem_of_getElem? hx);simp only at i1 i2
   obtain ⟨SU,Za,Zb,Zc,y,rfl,hv,qt,CP,ib,yQ⟩:=eV HL.out i1 i2;cases hv;have xL:=J5 hx ib;have yb:=GY.out y (tX hx ib);obtain ⟨y0,y1⟩:=yb;have d1:=ai (ae kV) (cw.out.after cJ);have d2:=ai (ae iz) (cw.out.after cJ);have d3:=ai (ae yQ) (cw.out.after cJ);have sw:=zh xL;have wH : aa wr wr:=ad _;have qy:=World.block_lt_of_cell? wr _ (d3 wr wH);have Zx:=uH y;obtain ⟨Zy,Zz⟩:=Zx;clear hx kV iz yQ xL CP ib;go_wp2_with fail;refine (lc 5 y y0 y1 _).mono ?_;rw [zc];rintro e W3 ⟨u3,rfl,ie,bg⟩;obtain ⟨g3,o3,pc,rfl,r0,r1,r2,r3⟩:=FJ ie.ints;have fO : aa (wr.alloc (Obj.cells #[Value.int IntKind.i64 (SU : Int),Value.int IntKind.i64 x2] 83)) W3:=bg;have mO : aa W2 W3:=cJ.after (aa.after (ah _ (ad _)) fO);have ZA : ∀ X,aa W3 X → X.cell? ⟨wr.heap.size,0,none⟩ = some (.int .i64 (SU : Int)):=ai (ae (by simp)) fO;have J6 : ∀ X,aa W3 X → X.cell? ⟨wr.heap.size,1,none⟩ = some (.int .i64 x2):=ai (ae (by simp)) fO;have z0:=ai q0 mO;have z1:=ai q1 mO;have z2:=ai q2 mO;have z3:=ai q3 mO;have J3:=zh mO;clear bg ie mO cJ q0 q1 q2 q3 d1 d2 d3 wH qy fO;go_upto_region 10 with (fail);refine ao 7 (aa W3) (by kernel_rfl) (by kernel_rfl) (by simp) (ak (ad _)) ?_;simp only [zT]
   iterate 7 (apply ag rfl;(intro W hW;go_simp;with_reducible rfl);simp only [zA])
   intro W4 jq;cases f1 : (r9 y == r9 l)
   ·have F1:=zh f1;have Bp : (r9 y != r9 l) = true:=by simp [bne,f1]
    have s8:=zh jq;clear f1 jq r0 r1 r2 r3 z0 z1 z2 z3;go_wp2;go_ret;refine ⟨bt ?_,aa.after bv.out (cw.out.after (J3.out.after s8.out))⟩;rw [hr.out];unfold jF
    rw [show nC ls l es es.length = false from aZ hlt (by rw [sw.out.1];exact F1.out)]
    rfl
   ·have F1:=zh f1;have Bp : (r9 y != r9 l) = false:=by simp [bne,f1]
    have r1:=ai r1 jq;have r2:=ai r2 jq;have r3:=ai r3 jq;have z1:=ai z1 jq;have z2:=ai z2 jq;have J6:=ai J6 jq;have s8:=zh (J3.out.after jq);clear f1 jq r0 z0 z3 ZA;have m1 : IntKind.i64.wrap (jS l - 1) = jS l - 1:=aL _ (by omega) (by omega);have m2 : IntKind.i64.wrap (jS l + 1) = jS l + 1:=aL _ (by omega) (by omega);go_upto_region 12 with (fail);refine ao 16 (aa W4) (by kernel_rfl) (by kernel_rfl) (by simp) (ak (ad _)) ?_;simp only [zT]
    iterate 7 (apply ag rfl;(intro W hW;go_simp;with_reducible rfl);simp only [zA])
    iterate 8 (apply aj rfl rfl;(intro hb;intro W hW;go_simp;with_reducible rfl);simp only [zA])
    (first | refine bJ rfl rfl ?_ | (apply ag rfl;(intro W hW;go_simp;with_reducible rfl)));simp only [zA]
    intro W5 jd;have r1:=ai r1 jd;have r3:=ai r3 jd;have z1:=ai z1 jd;have z2:=ai z2 jd;have mx:=zh (s8.out.after jd);have hsY : aa W5 W5:=ad _;clear jd r2 J6 Bp;cases f3 : (x2 == rm y && jS y == jS l + 1)
    all_goals
     have F3:=zh (Ul sw.out f3);clear f3;go_upto_region 14 with (fail);clear hsY;refine ao 18 (aa W5) (by kernel_rfl) (by kernel_rfl) (by simp) (ak (ad _)) ?_;simp only [zT]
     iterate 2 (apply ag rfl;(intro W hW;go_simp;with_reducible rfl);simp only [zA])
     iterate 6 (apply aj rfl rfl;(intro hb;intro W hW;go_simp;with_reducible rfl);simp only [zA])
     iterate 8 (apply fB rfl rfl;(intro hb b_;intro W hW;go_simp;with_reducible rfl);simp only [zA])
     refine h_ rfl rfl rfl ?_;simp only [zA]
     (first | refine bu rfl rfl ?_ | (apply ag rfl;(intro W hW;go_simp;with_reducible rfl)));simp only [zA]
     intro W6 GZ;have Uk:=zh (mx.out.after GZ);clear GZ m1 m2 r1 r3 z1 z2;go_wp2;go_roundw
     case rel => exact ⟨j + 1,by omega,by go_num,by rw [fN,F3.out,zW.out];try rw [sw.out.1];simp,by unfold nB;rw [gj];rw [show ((List.range j).any _) = nr from I2.out,sw.out.1],by unfold nC;rw [cB,show ((List.range j).all _) = true from fk.out,sw.out.1,F1.out];rfl,Uk.out⟩
     case measure => simp [intOf];omega
  ·obtain rfl : j = es.length:=by omega
   have mN : Hid (jF gt ls l es = ((sE l == sm % 2) && ((jS l == 0 && rm l == 9 && gt == r9 l && sE l == 0) || (decide (0 < jS l) && nr)))):=by
    show _ = _
    unfold jF;rw [fk.out,I2.out,zW.out,Bool.true_and]
   have z0:=ai q0 cJ;have z1:=ai q1 cJ;have z2:=ai q2 cJ;have z3:=ai q3 cJ;have eG:=ai eG cJ;have eX:=ai eX cJ;have fb:=ai fb cJ;have lw:=zh cJ;have wH : aa wr wr:=ad _;clear cJ q0 q1 q2 q3;cases f2 : (sE l == sm % 2)
   ·have F2:=zh f2;have ZB : (sE l != sm % 2) = true:=by simp [bne,f2]
    clear f2;go_wp2;go_ret
    exact ⟨bt (by rw [hr.out,mN.out,F2.out];rfl),aa.after bv.out (cw.out.after lw.out)⟩
   ·have F2:=zh f2;have ZB : (sE l != sm % 2) = false:=by simp [bne,f2]
    clear f2;cases f4 : (jS l == 0)
    ·have F4:=zh f4;go_wp2;go_ret;refine ⟨bP ?_,aa.after bv.out (cw.out.after lw.out)⟩;rw [hr.out,mN.out,F2.out,F4.out]
     have : decide (0 < jS l) = true:=by
      have:=F4.out
      simp at this ⊢
      omega
     rw [this];simp
    ·have F4:=zh f4;go_upto_region 19 with (fail);clear wH;refine ao 19 (aa wr) (by kernel_rfl) (by kernel_rfl) (by simp) (ak (ad _)) ?_;simp only [zT]
     iterate 5 (apply ag rfl;(intro W hW;go_simp;with_reducible rfl);simp only [zA])
     iterate 5 (apply aj rfl rfl;(intro hb;intro W hW;go_simp;with_reducible rfl);simp only [zA])
     refine bC (v:=?_) rfl rfl ?_ ?_;rotate_left;(intro hb;intro W hW;unfold bG;go_simp;(with_reducible refine (r8 _ _ _ n k _ gt W (H.out.keep (cw.out.after (lw.out.after hW)).below) xc.out).mono ?_);rintro e W' ⟨rfl,bg⟩;first | (refine ⟨?_,aa.trans hW bg⟩;with_reducible rfl) | (subst bg;refine ⟨?_,hW⟩;with_reducible rfl))
     simp only [zA]
     (first | refine bJ rfl rfl ?_ | (apply ag rfl;(intro W hW;go_simp;with_reducible rfl)));simp only [zA]
     apply ag rfl;(intro W hW;go_simp;with_reducible rfl);simp only [zA]
     iterate 4 (apply aj rfl rfl;(intro hb;intro W hW;go_simp;with_reducible rfl);simp only [zA])
     (first | refine bJ rfl rfl ?_ | (apply ag rfl;(intro W hW;go_simp;with_reducible rfl)));simp only [zA]
     apply ag rfl;(intro W hW;go_simp;with_reducible rfl);simp only [zA]
     intro W5 jd;have mx:=zh jd;clear jd;go_wp2;go_ret;refine ⟨bP ?_,aa.after bv.out (cw.out.after (lw.out.after mx.out))⟩;rw [hr.out,mN.out,F2.out,F4.out]
     have : decide (0 < jS l) = false:=by
      have:=F4.out
      simp at this ⊢
      omega
     rw [this];simp
theorem xe (ve vi vn vl : Value) (n : am) (ls : List Int) (k : Nat) (es : List (Int × Int)) (l gt jp : Int) (w : World) (h : aT w ve vi vn n) (hl : bD w vl ls) (cM : n.ends[k]? = some es) (n9 : es.length ≤ 6) (dC : ∀ e ∈ es,0 ≤ e.1 ∧ e.1 < ls.length)
  (pF : ∀ x ∈ l :: aw ls es,0 ≤ x ∧ x ≤ 999999999999) (hk : ls[k]? = some l) (hid : n.ids[k]? = some gt) (nA : n.inputs[k]? = some jp) :
  Calls Tryz.prog 189 #[.agg #[ve,vi,vn],.int .i64 5,vl,.int .i64 k] w fun e w' => e = .returned (.bool (jF gt ls l es)) ∧ Below w.heap.size w w':=by
 obtain ⟨w0,A,c,A2,c2,A3,c3,rfl,rfl,rfl,ft,hm,f6,gF,HA,dh,bv,H,eG,eX,fb⟩:=zB h;clear h
 have HL:=zh (hl.keep bv.out)
 obtain ⟨_,bl,ol,cl,l',e0,rfl,lq,lu,-,hd⟩:=eV HL.out (x:=(k : Int)) (by omega) (by have:=aq hk;omega)
 obtain rfl : k = _:=by exact Int.ofNat.inj e0
 obtain rfl : l = l':=Option.some.inj (hk.symm.trans lu)
 obtain ⟨_,bi,oi,ci,i',e1,hv,YU,wu,-,OX⟩:=eV H.out.ns (x:=(k : Int)) (by omega) (by have:=aq nA;omega)
 cases hv;obtain rfl : k = _:=by exact Int.ofNat.inj e1
 obtain rfl : jp = i':=Option.some.inj (nA.symm.trans wu)
 obtain ⟨_,bd,od,cd,d',e2,hv,hkd,Ui,-,yY⟩:=eV H.out.is (x:=(k : Int)) (by omega) (by have:=aq hid;omega)
 cases hv;obtain rfl : k = _:=by exact Int.ofNat.inj e2
 obtain rfl : gt = d':=Option.some.inj (hid.symm.trans Ui)
 obtain ⟨b0,Uj,c0,u0,hA,zS,eS,dG⟩:=jQ H.out.es cM;cases hA;obtain ⟨A1,z1,rfl,eF,eD,lP⟩:=dG;unfold maxLen at eD;obtain ⟨_,_,hv,sA,mn,_⟩:=id hl;cases hv;unfold maxLen at mn;have lb:=pF l (by simp);obtain ⟨GX,I0⟩:=lb;have t0:=ae hd;have t1:=ae OX;have t2:=ae yY;have t3:=ae eS;have po:=zh lP;have p9:=zh dC;have GY:=zh pF;have cX : aa w0 w0:=ad _;have kW:=J4 l;have gF:=uH l;obtain ⟨kW,k9⟩:=kW;obtain ⟨gF,XQ⟩:=gF;clear hd OX yY eS lP hk lu e0 e1 e2 nA wu hid Ui hl cM dC pF t1
 go_enter Tryz.func189,Tryz.ntmps189
 go_upto_region 1 with (fail);rw [← dh.out];go_wp2_with fail;refine (ld 5 l GX I0 _).mono ?_;rw [zc];rintro e W2 ⟨u1,rfl,iu,bj⟩;obtain ⟨g1,o1,c1,rfl,q0,q1,q2,q3⟩:=FJ iu.ints;have dE : aa w0 W2:=bj;have t0:=ai t0 dE;have t2:=ai t2 dE;have t3:=ai t3 dE;have eG:=ai eG dE;have eX:=ai eX dE;have fb:=ai fb dE;have cw:=zh dE;have rD : aa W2 W2:=ad _;clear bj iu cX dE;go_wp2
 go_loopw [10,11,28] (fun nr sm i wr => ∃ j : Nat,j ≤ es.length ∧ i = .int .i64 j ∧ sm = .int .i64 (fN ls l es j) ∧ nr = .bool (nB ls l es j) ∧ nC ls l es j = true ∧ aa W2 wr) (fun _ _ i _ => es.length - (intOf i).toNat)
 case atStart => exact ⟨0,Nat.zero_le _,rfl,rfl,rfl,rfl,rD⟩
 case round =>
  obtain ⟨j,hj,rfl,rfl,rfl,bW,cJ⟩:=hrel;have fk:=zh bW;have Qk:=Bq ls l es j;clear bW rD
  generalize J2 : nB ls l es j = nr
  generalize Bt : fN ls l es j = sm at Qk ⊢
  obtain ⟨Zv,Zw⟩:=Qk;have I2:=zh J2;have zW:=zh Bt;clear J2 Bt
  by_cases hlt : j < es.length
  ·obtain ⟨⟨x1,x2⟩,hx⟩:=aW es j hlt;obtain ⟨b1,qp,rfl,kV,iz⟩:=po.out j _ hx;obtain ⟨i1,i2⟩:=p9.out _ (List.mem_of_getElem? hx);simp only at i1 i2
   obtain ⟨SU,Za,Zb,Zc,y,rfl,hv,qt,CP,ib,yQ⟩:=eV HL.out i1 i2;cases hv;have xL:=J5 hx ib;have yb:=GY.out y (tX hx ib);obtain ⟨y0,y1⟩:=yb;have d1:=ai (ae kV) (cw.out.after cJ);have d2:=ai (ae iz) (cw.out.after cJ);have d3:=ai (ae yQ) (cw.out.after cJ);have sw:=zh xL;have wH : aa wr wr:=ad _;have qy:=World.block_lt_of_cell? wr _ (d3 wr wH);have Zx:=uH y;obtain ⟨Zy,Zz⟩:=Zx;clear hx kV iz yQ xL CP ib;go_wp2_with fail;refine (ld 5 y y0 y1 _).mono ?_;rw [zc];rintro e W3 ⟨u3,rfl,ie,bg⟩;obtain ⟨g3,o3,pc,rfl,r0,r1,r2,r3⟩:=FJ ie.ints;have fO : aa (wr.alloc (Obj.cells #[Value.int IntKind.i64 (SU : Int),Value.int IntKind.i64 x2] 83)) W3:=bg;have mO : aa W2 W3:=cJ.after (aa.after (ah _ (ad _)) fO);have ZA : ∀ X,aa W3 X → X.cell? ⟨wr.heap.size,0,none⟩ = some (.int .i64 (SU : Int)):=ai (ae (by simp)) fO;have J6 : ∀ X,aa W3 X → X.cell? ⟨wr.heap.size,1,none⟩ = some (.int .i64 x2):=ai (ae (by simp)) fO;have z0:=ai q0 mO;have z1:=ai q1 mO;have z2:=ai q2 mO;have z3:=ai q3 mO;have J3:=zh mO;clear bg ie mO cJ q0 q1 q2 q3 d1 d2 d3 wH qy fO;go_upto_region 7 with (fail);refine ao 7 (aa W3) (by kernel_rfl) (by kernel_rfl) (by simp) (ak (ad _)) ?_;simp only [zT]
   iterate 7 (apply ag rfl;(intro W hW;go_simp;with_reducible rfl);simp only [zA])
   intro W4 jq;cases f1 : (r9 y == r9 l)
   ·have F1:=zh f1;have Bp : (r9 y != r9 l) = true:=by simp [bne,f1]
    have s8:=zh jq;clear f1 jq r0 r1 r2 r3 z0 z1 z2 z3;go_wp2;go_ret;refine ⟨bt ?_,aa.after bv.out (cw.out.after (J3.out.after s8.out))⟩;unfold jF
    rw [show nC ls l es es.length = false from aZ hlt (by rw [sw.out.1];exact F1.out)]
    rfl
   ·have F1:=zh f1;have Bp : (r9 y != r9 l) = false:=by simp [bne,f1]
    have r1:=ai r1 jq;have r2:=ai r2 jq;have r3:=ai r3 jq;have z1:=ai z1 jq;have z2:=ai z2 jq;have J6:=ai J6 jq;have s8:=zh (J3.out.after jq);clear f1 jq r0 z0 z3 ZA;have m1 : IntKind.i64.wrap (jS l - 1) = jS l - 1:=aL _ (by omega) (by omega);have m2 : IntKind.i64.wrap (jS l + 1) = jS l + 1:=aL _ (by omega) (by omega);go_upto_region 9 with (fail);refine ao 9 (aa W4) (by kernel_rfl) (by kernel_rfl) (by simp) (ak (ad _)) ?_;simp only [zT]
    iterate 9 (apply ag rfl;(intro W hW;go_simp;with_reducible rfl);simp only [zA])
    intro W5 jd;have r1:=ai r1 jd;have r2:=ai r2 jd;have r3:=ai r3 jd;have z1:=ai z1 jd;have z2:=ai z2 jd;have J6:=ai J6 jd;have mx:=zh (s8.out.after jd);clear jd;go_upto_region 12 with (fail);refine aB 11 (aa W5) (ad _) ?_;simp only [zT]
    iterate 2 (apply ag rfl;(intro W hW;go_simp;with_reducible rfl);simp only [zA])
    iterate 2 (apply aj rfl rfl;(intro hb;intro W hW;go_simp;with_reducible rfl);simp only [zA])
    iterate 5 (apply fB rfl rfl;(intro hb b_;intro W hW;go_simp;with_reducible rfl);simp only [zA])
    refine h_ rfl rfl rfl ?_;simp only [zA]
    (first | refine bu rfl rfl ?_ | (apply ag rfl;(intro W hW;go_simp;with_reducible rfl)));simp only [zA]
    intro W6 GZ;have r1:=ai r1 GZ;have r2:=ai r2 GZ;have r3:=ai r3 GZ;have z1:=ai z1 GZ;have J6:=ai J6 GZ;have Uk:=zh (mx.out.after GZ);clear GZ z2;go_upto_region 13 with (fail);refine ao 16 (aa W6) (by kernel_rfl) (by kernel_rfl) (by simp) (ak (ad _)) ?_;simp only [zT]
    iterate 9 (apply ag rfl;(intro W hW;go_simp;with_reducible rfl);simp only [zA])
    iterate 6 (apply aj rfl rfl;(intro hb;intro W hW;go_simp;with_reducible rfl);simp only [zA])
    (first | refine bJ rfl rfl ?_ | (apply ag rfl;(intro W hW;go_simp;with_reducible rfl)));simp only [zA]
    intro W7 ZC;have r3:=ai r3 ZC;have Nc:=zh (Uk.out.after ZC);have hsY : aa W7 W7:=ad _;clear ZC m1 m2 r1 r2 z1 J6 Bp;cases f3 : (jS y == jS l + 1 && rm y == x2)
    ·have F3 : Hid (lU l (es.getD j (0,0)) (lab ls (es.getD j (0,0))) = false):=by
      show _ = _
      unfold lU;rw [sw.out.1,sw.out.2,Bool.and_comm,show (x2 == rm y) = (rm y == x2) from Bool.beq_comm,f3]
     clear f3;go_wp2;go_roundw
     case rel => exact ⟨j + 1,by omega,by go_num,by rw [fN,F3.out,zW.out];simp,by unfold nB;rw [gj];rw [show ((List.range j).any _) = nr from I2.out,sw.out.1,Bool.and_comm,show ((j : Int) == rm l) = (rm l == (j : Int)) from Bool.beq_comm],by unfold nC;rw [cB,show ((List.range j).all _) = true from fk.out,sw.out.1,F1.out];rfl,Nc.out⟩
     case measure => simp [intOf];omega
    ·have F3 : Hid (lU l (es.getD j (0,0)) (lab ls (es.getD j (0,0))) = true):=by
      show _ = _
      unfold lU;rw [sw.out.1,sw.out.2,Bool.and_comm,show (x2 == rm y) = (rm y == x2) from Bool.beq_comm,f3]
     clear f3;go_wp2;go_roundw
     case rel => exact ⟨j + 1,by omega,by go_num,by rw [fN,F3.out,zW.out,sw.out.1];simp,by unfold nB;rw [gj];rw [show ((List.range j).any _) = nr from I2.out,sw.out.1,Bool.and_comm,show ((j : Int) == rm l) = (rm l == (j : Int)) from Bool.beq_comm],by unfold nC;rw [cB,show ((List.range j).all _) = true from fk.out,sw.out.1,F1.out];rfl,Nc.out⟩
     case measure => simp [intOf];omega
  ·obtain rfl : j = es.length:=by omega
   have mN : Hid (jF gt ls l es = ((sE l == sm % 2) && ((jS l == 0 && rm l == 9 && gt == r9 l && sE l == 0) || (decide (0 < jS l) && nr)))):=by
    show _ = _
    unfold jF;rw [fk.out,I2.out,zW.out,Bool.true_and]
   have z0:=ai q0 cJ;have z1:=ai q1 cJ;have z2:=ai q2 cJ;have z3:=ai q3 cJ;have t2:=ai t2 cJ;have eG:=ai eG cJ;have eX:=ai eX cJ;have fb:=ai fb cJ;have lw:=zh cJ;have wH : aa wr wr:=ad _;clear cJ q0 q1 q2 q3;cases f2 : (sE l == sm % 2)
   ·have F2:=zh f2;have ZB : (sE l != sm % 2) = true:=by simp [bne,f2]
    clear f2;go_wp2;go_ret
    exact ⟨bt (by rw [mN.out,F2.out];rfl),aa.after bv.out (cw.out.after lw.out)⟩
   ·have F2:=zh f2;have ZB : (sE l != sm % 2) = false:=by simp [bne,f2]
    clear f2;clear wH;go_upto_region 20 with (fail);refine ao 37 (aa wr) (by kernel_rfl) (by kernel_rfl) (by simp) (ak (ad _)) ?_;simp only [zT]
    iterate 5 (apply ag rfl;(intro W hW;go_simp;with_reducible rfl);simp only [zA])
    iterate 4 (apply aj rfl rfl;(intro hb;intro W hW;go_simp;with_reducible rfl);simp only [zA])
    (first | refine bJ rfl rfl ?_ | (apply ag rfl;(intro W hW;go_simp;with_reducible rfl)));simp only [zA]
    apply ag rfl;(intro W hW;go_simp;with_reducible rfl);simp only [zA]
    iterate 9 (apply aj rfl rfl;(intro hb;intro W hW;go_simp;with_reducible rfl);simp only [zA])
    (first | refine bJ rfl rfl ?_ | (apply ag rfl;(intro W hW;go_simp;with_reducible rfl)));simp only [zA]
    apply ag rfl;(intro W hW;go_simp;with_reducible rfl);simp only [zA]
    iterate 4 (apply aj rfl rfl;(intro hb;intro W hW;go_simp;with_reducible rfl);simp only [zA])
    (first | refine bJ rfl rfl ?_ | (apply ag rfl;(intro W hW;go_simp;with_reducible rfl)));simp only [zA]
    apply ag rfl;(intro W hW;go_simp;with_reducible rfl);simp only [zA]
    iterate 5 (apply aj rfl rfl;(intro hb;intro W hW;go_simp;with_reducible rfl);simp only [zA])
    apply fB rfl rfl;(intro hb b_;intro W hW;go_simp;with_reducible rfl);simp only [zA]
    refine h_ rfl rfl rfl ?_;simp only [zA]
    (first | refine bu rfl rfl ?_ | (apply ag rfl;(intro W hW;go_simp;with_reducible rfl)));simp only [zA]
    apply ag rfl;(intro W hW;go_simp;with_reducible rfl);simp only [zA]
    intro W5 jd;have mx:=zh jd;clear jd;go_wp2;go_ret;exact ⟨bP (by rw [mN.out,F2.out,Bool.true_and]),aa.after bv.out (cw.out.after (lw.out.after mx.out))⟩
theorem kn {n : am} (h : f_ n ≤ 1048576) : n.ids.length ≤ 17592186044416:=by unfold f_ at h;omega
end Go.Proofs.YtgmdpppljkmabaaGreat
