/- Parts of the proof: walks of functions and plain laws. -/
import Derived.Test.YtgmdpppljkmabaaGreatP0
import Derived.Test.YtgmdpppljkmabaaGreatP20
import Derived.Test.YtgmdpppljkmabaaGreatP18
import Derived.Test.YtgmdpppljkmabaaGreatP11
import Derived.Test.YtgmdpppljkmabaaGreatP10
import Derived.Test.YtgmdpppljkmabaaGreatP1
import Derived.Test.YtgmdpppljkmabaaGreatP17
import Derived.Test.YtgmdpppljkmabaaGreatP13
import Derived.Test.YtgmdpppljkmabaaGreatP19
set_option maxRecDepth 100000
set_option maxHeartbeats 16000000
namespace Go.Proofs.YtgmdpppljkmabaaGreat
open Go Go.RowKit
theorem vR (w0 w : World) (base g c N : Nat) (dR : FuncId) (cS : Array Value) (K : Int → Int) (D : Int → Prop) (hc : Iz w0 g dR cS K D) (hl : N ≤ 40) (xs : List Int) (hs : Sd w0 w base g c xs) (hN : xs.length = N) (hD : ∀ x ∈ xs,D x) :
  Calls Tryz.prog 206 #[.slice (some ⟨g,0,none⟩) N c,.func (.func dR) #[] cS] w fun e w' => e = .returned (.tuple #[]) ∧ ∃ W,Sd w0 w' base g c W ∧ W.Perm xs ∧ iO K W:=by
 have Hs:=zh (Ey w0 w base g c N dR cS K D hc hl xs hs hN hD);clear hc hs hD hN
 go_enter Tryz.func206,Tryz.ntmps206
 go_wp2_with fail;refine Hs.out.mono ?_;rintro e w1 ⟨rfl,W,z1,z2,z3⟩;have Hz:=zh (And.intro z1 (And.intro z2 z3));clear z1 z2 z3;go_wp2
 go_end0
 exact ⟨rfl,W,Hz.out⟩
theorem Ez : ∀ args w,(callFunc 207 args).run Tryz.prog w = .ok (.enter 207 args) w:=enters_of Tryz.func207 (by kernel_rfl) rfl
theorem NY (x y p q : Int) (b gb off n c : Nat) (w : World) (hx : 0 ≤ x ∧ x < n) (hy : 0 ≤ y ∧ y < n) (hc : w.cell? ⟨b,0,none⟩ = some (.slice (some ⟨gb,off,none⟩) n c)) (h1 : w.cell? ⟨gb,off + x.toNat,none⟩ = some (.int .i64 p)) (h2 : w.cell? ⟨gb,off + y.toNat,none⟩ = some (.int .i64 q)) (hp : -1000 ≤ p ∧ p ≤ 1000) (hq : -1000 ≤ q ∧ q ≤ 1000) :
  Calls Tryz.prog 207 #[.int .i64 x,.int .i64 y,.pointer (some ⟨b,0,none⟩)] w fun e w' => e = .returned (.int .i64 (q - p)) ∧ Below w.heap.size w w':=by
 obtain ⟨a,rfl⟩:=Int.eq_ofNat_of_zero_le hx.1;obtain ⟨d,rfl⟩:=Int.eq_ofNat_of_zero_le hy.1;rw [Int.toNat_natCast] at h1 h2;have ha : a < n:=by omega
 have hd : d < n:=by omega
 have m1 : IntKind.i64.wrap (q - p) = q - p:=aL _ (by omega) (by omega);clear hx hy hp hq
 go_enter Tryz.func207,Tryz.ntmps207
 go_wp2_with fail
 go_region
 go_wp2;go_ret;exact ⟨rfl,(ak (ad _)).below⟩
theorem Cl {n : Nat} {x : Int} (h : x ∈ gJ n) : 0 ≤ x ∧ x < (n : Int):=by
 unfold gJ at h;obtain ⟨k,hk,rfl⟩:=List.mem_map.1 h
 have:=List.mem_range.1 hk
 show 0 ≤ (k : Int) ∧ (k : Int) < n
 omega
theorem Cm (v : Value) (ds : List Int) (w : World) (h : bD w v ds) (mK : 1 ≤ ds.length) (hn : ds.length ≤ 40) (hb : ∀ x ∈ ds,-1000 ≤ x ∧ x ≤ 1000) :
  Calls Tryz.prog 151 #[v] w fun e w' => ∃ u l,e = .returned u ∧ Own w' w.heap.size u l ∧ l.Perm (gJ ds.length) ∧ l.Pairwise (fun x y => ds.getD y.toNat 0 ≤ ds.getD x.toNat 0) ∧ Below w.heap.size w w':=by
 obtain ⟨AL,cL,rfl,sA,mn,hA⟩:=id h;have HA:=zh hA;have N_:=zh hb;have Hh:=zh h;clear hA hb h;obtain ⟨w0,ck⟩ : ∃ w0,w0 = (w).alloc (.cells #[.slice AL ds.length cL] 25):=⟨_,rfl⟩
 have jL : Below w.heap.size w w0:=by rw [ck];exact ((Below.refl _ _).alloc (by simp) _)
 have eG : ∀ W,aa w0 W → W.cell? ⟨w.heap.size,0,none⟩ = some (.slice AL ds.length cL):=ae (by rw [ck];simp)
 have bv:=zh jL;have dh:=zh ck;clear jL ck
 have HAb : Hid (∀ (k : Nat),k < ds.length → ∃ b off,AL = some ⟨b,off,none⟩ ∧ b < w.heap.size ∧ w0.cell? ⟨b,off + k,none⟩ = some (.int .i64 (ds.getD k 0))):=fun k hk => by
  obtain ⟨b,off,e,hc⟩:=HA.out k (ds.getD k 0) (by rw [zDd,List.getElem?_eq_getElem hk];rfl)
  exact ⟨b,off,e,tn hc,ae hc w0 bv.out⟩
 clear HA Hh
 go_enter Tryz.func151,Tryz.ntmps151
 go_upto_region 1 with (fail);rw [← dh.out];have cX : aa w0 w0:=ad _;have q0:=eG w0 cX;go_wp2_with fail;refine (jm ds.length (by omega) w0).mono ?_;rintro e w1 ⟨u,rfl,ho,bj⟩
 have ck : w0.heap.size = w.heap.size + 1:=by rw [dh.out];simp
 have dm : aa w0 w1:=bj;rcases ho.cases with ⟨-,h2⟩ | ⟨g,c,hv,ib,oH⟩
 ·exfalso
  have h3 : ds.length = 0:=by rw [← fe ds.length,h2];rfl
  omega
 rw [fe] at hv;subst hv
 have Jd : Sd w1 w1 w0.heap.size g c (gJ ds.length):=⟨by rw [fe];exact ho,aU.refl _ _⟩
 have Zp : Iz w1 g 207 #[.pointer (some ⟨w.heap.size,0,none⟩)] (fun x => - ds.getD x.toNat 0) (fun x => 0 ≤ x ∧ x < (ds.length : Int)):=by
  refine ⟨fun x y hx hy W hW => ?_,Ez⟩
  obtain ⟨b,off,e1,qy,c1⟩:=HAb.out x.toNat (by omega);obtain ⟨b',pl,e2,abn,c2⟩:=HAb.out y.toNat (by omega);rw [e1] at e2;cases e2
  have d0 : W.cell? ⟨w.heap.size,0,none⟩ = some (.slice (some ⟨b,off,none⟩) ds.length cL):=by
   have h9:=eG w1 dm;rw [e1] at h9
   exact hW.cell (by simp;omega) h9
  have d1:=hW.cell (p:=⟨b,off + x.toNat,none⟩) (by simp;omega) (ae c1 w1 dm)
  have d2:=hW.cell (p:=⟨b,off + y.toNat,none⟩) (by simp;omega) (ae c2 w1 dm)
  have xQ:=N_.out (ds.getD x.toNat 0) (jf (by omega));have hym:=N_.out (ds.getD y.toNat 0) (jf (by omega));refine (NY x y _ _ w.heap.size b off ds.length cL W hx hy d0 d1 d2 xQ hym).mono ?_;rintro e w' ⟨rfl,ne⟩;refine ⟨?_,ne⟩;rw [show ds.getD y.toNat 0 - ds.getD x.toNat 0 = - ds.getD x.toNat 0 - - ds.getD y.toNat 0 by omega]
 have Ms:=vR w1 w1 w0.heap.size g c ds.length _ _ _ _ Zp hn (gJ ds.length) Jd (fe _) (fun x hx => Cl hx)
 have Hss:=zh Ms;have Hg:=zh (And.intro ib oH);have gh:=zh dm;have vS:=zh ck;clear Jd Zp Ms ho bj ib oH dm cX q0 ck;go_wp2_with fail;refine Hss.out.mono ?_;rintro e w2 ⟨rfl,W,z1,z2,z3⟩;have Hz:=zh (And.intro z1 (And.intro z2 z3));clear z1 z2 z3;go_wp2;go_ret;obtain ⟨z1,z2,z3⟩:=Hz.out;refine ⟨_,W,rfl,?_,z2,?_,?_⟩
 ·have h9:=z1.own;rw [z2.length_eq,fe] at h9
  exact h9.mono (by have:=vS.out;omega)
 ·exact z3.imp (fun {x y} h9 => by have h8 : - ds.getD x.toNat 0 ≤ - ds.getD y.toNat 0:=h9;omega)
 ·have h9 : Below w.heap.size w1 w2:=z1.only.below w.heap.size (by have:=gh.out.below.size;have:=vS.out;omega) (fun k hk => by have:=Hg.out;have:=vS.out;simp at hk;omega)
  exact Below.trans (aa.after bv.out gh.out).below h9
theorem EA : ∀ args w,(callFunc 152 args).run Tryz.prog w = .ok (.enter 152 args) w:=enters_of Tryz.func152 (by kernel_rfl) rfl
theorem EB : ∀ args w,(callFunc 153 args).run Tryz.prog w = .ok (.enter 153 args) w:=enters_of Tryz.func153 (by kernel_rfl) rfl
theorem Le (x : Int) (w : World) : Calls Tryz.prog 152 #[.int .i64 x] w fun e w' => e = .returned (.int .i64 x) ∧ Below w.heap.size w w':=by
 go_enter Tryz.func152,Tryz.ntmps152
 go_wp2;go_ret;exact ⟨rfl,Below.refl _ _⟩
def Lf (tw : Int) : Int:=if tw < 0 then 9 else tw
theorem Lg (v r N L bp b0 bs gp cp bI oI cI gs cs : Nat) (d tw sN sz : Int) (w : World) (hv : v < N) (hr : r < L)
  (h1 : w.cell? ⟨bp,0,none⟩ = some (.slice (some ⟨gp,0,none⟩) N cp)) (h2 : w.cell? ⟨gp,v,none⟩ = some (.int .i64 tw))
  (h3 : w.cell? ⟨b0,1,none⟩ = some (.slice (some ⟨bI,oI,none⟩) L cI)) (h4 : w.cell? ⟨bI,oI + r,none⟩ = some (.int .i64 sN))
  (h5 : w.cell? ⟨bs,0,none⟩ = some (.slice (some ⟨gs,0,none⟩) N cs)) (h6 : w.cell? ⟨gs,v,none⟩ = some (.int .i64 sz))
  (hi : 1 ≤ sN ∧ sN ≤ 999999) (hd : 0 ≤ d ∧ d ≤ 100) (ht : -1 ≤ tw ∧ tw ≤ 10) (hz : 0 ≤ sz ∧ sz ≤ 1000) :
  Calls Tryz.prog 153 #[.int .i64 v,.int .i64 r,.int .i64 d,.pointer (some ⟨bp,0,none⟩),.pointer (some ⟨b0,0,none⟩),.pointer (some ⟨bs,0,none⟩)] w fun e w' => e = .returned (.int .i64 (((sN * 100 + d) * 10 + Lf tw) * 2 + sz % 2)) ∧ Below w.heap.size w w':=by
 have p1:=ae h1;have p2:=ae h2;have p3:=ae h3;have p4:=ae h4;have p5:=ae h5;have p6:=ae h6;have a1 : IntKind.i64.wrap (sN * 100) = sN * 100:=aL _ (by omega) (by omega);have a2 : IntKind.i64.wrap (sN * 100 + d) = sN * 100 + d:=aL _ (by omega) (by omega);have a3 : IntKind.i64.wrap ((sN * 100 + d) * 10) = (sN * 100 + d) * 10:=aL _ (by omega) (by omega)
 have hq : 0 ≤ Lf tw ∧ Lf tw ≤ 10:=by unfold Lf;split <;> omega
 obtain ⟨q,hqe⟩ : ∃ z,z = Lf tw:=⟨_,rfl⟩
 rw [← hqe] at hq ⊢;have a4 : IntKind.i64.wrap ((sN * 100 + d) * 10 + q) = (sN * 100 + d) * 10 + q:=aL _ (by omega) (by omega);have a5 : IntKind.i64.wrap (((sN * 100 + d) * 10 + q) * 2) = ((sN * 100 + d) * 10 + q) * 2:=aL _ (by omega) (by omega);have t1 : sz.tmod 2 = sz % 2:=Int.tmod_eq_emod_of_nonneg hz.1;obtain ⟨sm,Bt⟩ : ∃ z,z = sz % 2:=⟨_,rfl⟩
 have Qk : 0 ≤ sm ∧ sm ≤ 1:=by omega
 rw [← Bt] at t1 ⊢;have t2 : sz % 2 = sm:=Bt.symm;have t3 : IntKind.i64.wrap sm = sm:=aL _ (by omega) (by omega);have a6 : IntKind.i64.wrap (((sN * 100 + d) * 10 + q) * 2 + sm) = ((sN * 100 + d) * 10 + q) * 2 + sm:=aL _ (by omega) (by omega);have Hqe:=zh hqe;clear h3 h4 h5 h6 hi hd ht hz hq Qk Bt hqe
 go_enter Tryz.func153,Tryz.ntmps153
 by_cases ry : tw < 0
 ·have Pr : q = 9:=by rw [Hqe.out];exact if_pos ry
  subst Pr;go_upto_region 4 with (fail);clear h1 h2;refine ao 18 (aa w) (by kernel_rfl) (by kernel_rfl) (by simp) (ak (ad _)) ?_;simp only [zT]
  apply ag rfl;(intro W hW;go_simp;with_reducible rfl);simp only [zA]
  apply ag rfl;(intro W hW;have k1:=p3 W hW;go_simp;with_reducible rfl);simp only [zA]
  iterate 2 (apply ag rfl;(intro W hW;go_simp;with_reducible rfl);simp only [zA])
  apply ag rfl;(intro W hW;have k1:=p4 W hW;go_simp;with_reducible rfl);simp only [zA]
  iterate 7 (apply ag rfl;(intro W hW;go_simp;with_reducible rfl);simp only [zA])
  apply ag rfl;(intro W hW;have k1:=p5 W hW;go_simp;with_reducible rfl);simp only [zA]
  iterate 2 (apply ag rfl;(intro W hW;go_simp;with_reducible rfl);simp only [zA])
  apply ag rfl;(intro W hW;have k1:=p6 W hW;go_simp;with_reducible rfl);simp only [zA]
  iterate 2 (apply ag rfl;(intro W hW;go_simp;with_reducible rfl);simp only [zA])
  intro W hW;have HW:=zh hW;clear hW p1 p2 p3 p4 p5 p6;go_wp2;go_ret;exact ⟨rfl,HW.out⟩
 ·have Pr : q = tw:=by rw [Hqe.out];exact if_neg ry
  subst Pr;go_upto_region 4 with (fail);clear h1 h2;refine ao 18 (aa w) (by kernel_rfl) (by kernel_rfl) (by simp) (ak (ad _)) ?_;simp only [zT]
  apply ag rfl;(intro W hW;go_simp;with_reducible rfl);simp only [zA]
  apply ag rfl;(intro W hW;have k1:=p3 W hW;go_simp;with_reducible rfl);simp only [zA]
  iterate 2 (apply ag rfl;(intro W hW;go_simp;with_reducible rfl);simp only [zA])
  apply ag rfl;(intro W hW;have k1:=p4 W hW;go_simp;with_reducible rfl);simp only [zA]
  iterate 7 (apply ag rfl;(intro W hW;go_simp;with_reducible rfl);simp only [zA])
  apply ag rfl;(intro W hW;have k1:=p5 W hW;go_simp;with_reducible rfl);simp only [zA]
  iterate 2 (apply ag rfl;(intro W hW;go_simp;with_reducible rfl);simp only [zA])
  apply ag rfl;(intro W hW;have k1:=p6 W hW;go_simp;with_reducible rfl);simp only [zA]
  iterate 2 (apply ag rfl;(intro W hW;go_simp;with_reducible rfl);simp only [zA])
  intro W hW;have HW:=zh hW;clear hW p1 p2 p3 p4 p5 p6;go_wp2;go_ret;exact ⟨rfl,HW.out⟩
theorem EC {N : Nat} {dep : Nat → Int} {par : Nat → Option Nat} {D : List Nat} {s : List Int} (h : FM N dep par D s) {x : Nat} (hx : x < N) : 0 ≤ s.getD x 0 ∧ s.getD x 0 ≤ N:=by
 rw [h.val x hx]
 have:=List.countP_le_length (p:=fun w => uK dep par D w x) (l:=List.range N)
 rw [List.length_range] at this;omega
theorem Rx {n : am} (hn : an n = true) (h0 : n.ids.length ≠ 0) {v : Nat} (hv : v < n.ends.length) : -1 ≤ jH n v ∧ jH n v ≤ 10:=by
 have h6:=(ip hn h0 hv).2.2.2.2.2.2
 have h5 : -1 ≤ jH n v:=by
  unfold jH
  rcases mA n (al n v) v with ⟨h3,-⟩ | ⟨q,h3,-⟩ <;> omega
 by_cases h7 : 0 ≤ jH n v
 ·have:=h6 h7;omega
 ·omega
theorem Lh {N : Nat} {d t z : Int} (hN : N ≤ 40) (hd : d < (N : Int)) (U7 : 0 ≤ d) (hz : 0 ≤ z ∧ z ≤ (N : Int)) : (0 ≤ d ∧ d ≤ 100) ∧ (0 ≤ z ∧ z ≤ 1000):=by omega
theorem Oa {n : am} (hn : an n = true) (h0 : n.ids.length ≠ 0) (hN : n.ends.length ≤ 40) {ln : List Nat} {s : List Int} (ed : FM n.ends.length (dZ n) (kF n) ln s) (Ry : ln.Perm (List.range n.ends.length))
  {bp b0 bs gp cp gs cs B1 B2 : Nat} {vi : Value} {wr : World} (hi : bD wr vi n.ids)
  (Rz : ∀ W,aa wr W → W.cell? ⟨bp,0,none⟩ = some (.slice (some ⟨gp,0,none⟩) n.ends.length cp)) (hP : Own wr B1 (.slice (some ⟨gp,0,none⟩) n.ends.length cp) ((List.range n.ends.length).map (jH n)))
  (h1 : ∀ W,aa wr W → W.cell? ⟨b0,1,none⟩ = some vi)
  (I7 : ∀ W,aa wr W → W.cell? ⟨bs,0,none⟩ = some (.slice (some ⟨gs,0,none⟩) n.ends.length cs)) (hS : Own wr B2 (.slice (some ⟨gs,0,none⟩) n.ends.length cs) s)
  {v : Nat} (hv : v < n.ends.length) {W : World} (hW : aa wr W) :
  Calls Tryz.prog 153 (#[.int .i64 v,.int .i64 (al n v),.int .i64 (aK n (al n v) v)] ++ #[.pointer (some ⟨bp,0,none⟩),.pointer (some ⟨b0,0,none⟩),.pointer (some ⟨bs,0,none⟩)]) W fun e w' => e = .returned (.int .i64 (io n v)) ∧ Below W.heap.size W w':=by
 have Li:=rL hn h0;have hlN:=cK hn hv
 have rp : al n v < n.ids.length:=by rw [Li.1];exact hlN
 obtain ⟨bI,oI,cI,hAI,hcI⟩:=B4 hi rp;subst hAI
 have cv:=(Own.since hP hW).cell (k:=v) (x:=jH n v) (by rw [List.getElem?_map,List.getElem?_range hv];rfl)
 have U6:=ed.len
 have cs1:=(Own.since hS hW).cell (k:=v) (x:=s.getD v 0) (by rw [zDd,List.getElem?_eq_getElem (by rw [U6];exact hv)];rfl)
 have bW : ∀ c,c < n.ends.length → c ∈ ln:=fun c hc => (Ry.mem_iff).2 (List.mem_range.2 hc)
 have jz : ∀ c ∈ ln,c < n.ends.length:=fun c hc => List.mem_range.1 ((Ry.mem_iff).1 hc)
 have aY:=ed.own (Mt hn) hv (fun c hc _ => bW c hc) jz
 have I_:=EC ed hv;have Td:=Rx hn h0 hv;have hdp : 0 ≤ aK n (al n v) v:=(Mt hn).pos v hv;have Yh:=(zr hn hlN hv).2;obtain ⟨e1,e2⟩:=Lh (t:=0) hN Yh hdp I_;refine (Lg v (al n v) n.ends.length n.ids.length bp b0 bs gp cp bI oI cI gs cs (aK n (al n v) v) (jH n v) (n.ids.getD (al n v) 0) (s.getD v 0) W hv rp (Rz W hW) cv (h1 W hW) (hcI W hW) (I7 W hW) cs1 (Li.2 _ hlN) e1 Td e2).mono ?_;rintro e w' ⟨rfl,hb⟩;refine ⟨?_,hb⟩;rw [aY];rfl
def jK (f : Nat → Int) (c : Int) (N k : Nat) : List Int:=(List.range k).map f ++ List.replicate (N - k) c
theorem vT (f : Nat → Int) (c : Int) (N : Nat) : jK f c N 0 = List.replicate N c:=by simp [jK]
theorem IA (f : Nat → Int) (c : Int) (N : Nat) : jK f c N N = (List.range N).map f:=by simp [jK]
theorem yF (f : Nat → Int) (c : Int) {N k : Nat} (h : k ≤ N) : (jK f c N k).length = N:=by simp [jK];omega
theorem yG (f : Nat → Int) (c : Int) {N k : Nat} (h : k < N) : (jK f c N k).set k (f k) = jK f c N (k + 1):=by
 unfold jK;rw [List.set_append_right _ _ (by simp),show N - k = (N - (k + 1)) + 1 by omega,List.replicate_succ,List.range_succ,List.map_append]
 simp
structure MD (f1 f2 : Nat → Int) (N : Nat) (w3 wr : World) (base gp cp gd cd k : Nat) : Prop where
 p : Own wr base (.slice (some ⟨gp,0,none⟩) N cp) (jK f1 (-1) N k)
 d : Own wr base (.slice (some ⟨gd,0,none⟩) N cd) (jK f2 0 N k)
 only : aU [gp,gd] w3 wr
theorem MD.since {f1 f2 : Nat → Int} {N : Nat} {w3 wr W : World} {base gp cp gd cd k : Nat} (h : MD f1 f2 N w3 wr base gp cp gd cd k) (hs : aa wr W) : MD f1 f2 N w3 W base gp cp gd cd k:=⟨Own.since h.p hs,Own.since h.d hs,h.only.trans (aU.of_below hs.below)⟩
theorem MD.put {f1 f2 : Nat → Int} {N : Nat} {w3 wr : World} {base gp cp gd cd k : Nat} (h : MD f1 f2 N w3 wr base gp cp gd cd k) (hk : k < N) (fS : gp ≠ gd) :
  Own (wr.setCell ⟨gp,k,none⟩ (.int .i64 (f1 k))) base (.slice (some ⟨gp,0,none⟩) N cp) (jK f1 (-1) N (k + 1)) ∧ Own (wr.setCell ⟨gp,k,none⟩ (.int .i64 (f1 k))) base (.slice (some ⟨gd,0,none⟩) N cd) (jK f2 0 N k) ∧ aU [gp,gd] w3 (wr.setCell ⟨gp,k,none⟩ (.int .i64 (f1 k))):=by
 refine ⟨by rw [← yG f1 (-1) hk];exact h.p.set _,?_,h.only.setCell (.inl (by simp)) _⟩
 exact (gQ.stable (⟨h.d,rfl⟩ : nj _ _ _ _ _) (fun j hj => Below.heap_setCell _ _ _ _ (by simp [Value.ownBlock] at hj;subst hj;exact Ne.symm fS))).1
theorem MD.next {f1 f2 : Nat → Int} {N : Nat} {w3 wr : World} {base gp cp gd cd k : Nat} (h1 : Own wr base (.slice (some ⟨gp,0,none⟩) N cp) (jK f1 (-1) N (k + 1))) (h2 : Own wr base (.slice (some ⟨gd,0,none⟩) N cd) (jK f2 0 N k)) (h3 : aU [gp,gd] w3 wr) (hk : k < N) (fS : gp ≠ gd) :
  MD f1 f2 N w3 (wr.setCell ⟨gd,k,none⟩ (.int .i64 (f2 k))) base gp cp gd cd (k + 1):=by
 refine ⟨?_,by rw [← yG f2 0 hk];exact h2.set _,h3.setCell (.inl (by simp)) _⟩
 exact (gQ.stable (⟨h1,rfl⟩ : nj _ _ _ _ _) (fun j hj => Below.heap_setCell _ _ _ _ (by simp [Value.ownBlock] at hj;subst hj;exact fS))).1
theorem Lj {N : Nat} {l : List Int} (h : l.Perm (gJ N)) : ∃ ln : List Nat,l = ln.map (fun k : Nat => (k : Int)) ∧ ln.Perm (List.range N) ∧ ln.length = N:=by
 refine ⟨l.map Int.toNat,?_,?_,by rw [List.length_map,h.length_eq,fe]⟩
 ·rw [List.map_map]
  have : l.map ((fun k : Nat => (k : Int)) ∘ Int.toNat) = l.map id:=List.map_congr_left fun x hx => by
   have:=Cl (h.mem_iff.1 hx)
   show ((x.toNat : Nat) : Int) = x
   omega
  rw [this,List.map_id]
 ·have h2:=h.map Int.toNat
  have : (gJ N).map Int.toNat = List.range N:=by
   unfold gJ;rw [List.map_map]
   have : (List.range N).map (Int.toNat ∘ Int.ofNat) = (List.range N).map id:=List.map_congr_left fun x _ => rfl
   rw [this,List.map_id]
  rwa [this] at h2
theorem vU (ve vi vn : Value) (n : am) (w : World) (h : aT w ve vi vn n) (hn : an n = true) (hid : n.ids.length ≠ 0) :
  Calls Tryz.prog 87 #[.agg #[ve,vi,vn]] w fun e w' => ∃ u,e = .returned u ∧ Own w' w.heap.size u ((List.range n.ends.length).map (io n)) ∧ Below w.heap.size w w':=by
 have kE:=aN hn;have mK:=kE.1;have lh:=kE.2;have Hn:=zh hn;have Lk:=zh hid;clear kE hn hid
 obtain ⟨w0,A,c,A2,c2,A3,c3,rfl,rfl,rfl,ft,hm,f6,gF,HA,dh,bv,H,eG,eX,fb⟩:=zB h;clear h
 go_enter Tryz.func87,Tryz.ntmps87
 go_upto_region 1 with (fail);rw [← dh.out];have cX : aa w0 w0:=ad _;go_wp2_with fail;refine (fj _ _ _ n w0 H.out Hn.out).mono ?_;rintro e w1 ⟨uR,rfl,NJ,bj⟩;have dm : aa w0 w1:=bj;obtain ⟨AR,cR,rfl,-,-,-⟩:=id NJ.ints;have NK : (dW n).length = n.ends.length:=yy n;rw [NK] at NJ;obtain ⟨bR,oR,rfl,Vn⟩:=mG NJ.ints NK (by omega);have HcR:=zh Vn;have gh:=zh dm;have HRl:=zh NK;clear NJ Vn NK cX bj;rw [HRl.out];go_wp2_with fail;refine (iJ _ _ _ n w1 (H.out.keep gh.out.below) (by omega) (by omega)).mono ?_;rintro e w2 ⟨uP,rfl,hoP,b_⟩;have dE : aa w1 w2:=b_;rcases hoP.cases with ⟨-,h9⟩ | ⟨gp,cp,hvp,VA,VB⟩
 ·exfalso
  have h8 : n.ends.length = 0:=by
   have h7:=congrArg List.length h9;rw [List.length_replicate] at h7;exact h7
  omega
 rw [List.length_replicate] at hvp;subst hvp;obtain ⟨w3,gY⟩ : ∃ z,z = w2.alloc (.cells #[.slice (some ⟨gp,0,none⟩) n.ends.length cp] 25):=⟨_,rfl⟩
 obtain ⟨bp,Rz⟩ : ∃ z,z = w2.heap.size:=⟨_,rfl⟩
 have iB : aa w2 w3:=by rw [gY];exact ah _ (ad _)
 have cbp : w3.cell? ⟨bp,0,none⟩ = some (.slice (some ⟨gp,0,none⟩) n.ends.length cp):=by rw [gY,Rz];simp
 have aao:=zh (Own.since hoP iB);have aap:=zh (aa.after dE iB);have aaq:=zh cbp
 have Tm : Hid (bp + 1 = w3.heap.size ∧ w1.heap.size ≤ gp ∧ gp < bp ∧ w1.heap.size ≤ w2.heap.size):=⟨by rw [gY,Rz];simp,VA,by rw [Rz];exact VB,dE.below.size⟩
 have sG:=zh gY;have Hbp:=zh Rz;clear hoP b_ dE iB cbp gY Rz VA VB dm;go_upto_region 3 with (fail);rw [← sG.out,← Hbp.out];obtain ⟨gd,iS⟩ : ∃ z,z = w3.heap.size:=⟨_,rfl⟩
 go_upto_region 4 with (at_make;refine k6 _ rfl _ _ rfl _ _ n.ends.length rfl rfl rfl rfl (by omega) ?_;intro w4 mf xV hz4)
 rw [← iS] at mf hz4 ⊢;have kD : aa w3 w4:=xV
 have hE0 : MD (jH n) (dZ n) n.ends.length w4 w4 w1.heap.size gp cp gd n.ends.length 0:=⟨by rw [vT];exact Own.since aao.out kD,by rw [vT];exact mf.mono (by have:=Tm.out;omega),aU.refl _ _⟩
 have Pl:=zh hE0;have aar:=zh (aa.after aap.out kD);have aas:=zh (ae aaq.out w4 kD)
 have ME : Hid (w1.heap.size ≤ gp ∧ gp < bp ∧ bp < gd ∧ gd < w4.heap.size):=by have:=Tm.out;exact ⟨by omega,by omega,by omega,hz4⟩
 clear hE0 mf xV hz4 kD iS;go_upto_region 5 with (fail)
 go_loopw [22] (fun i wr => ∃ k : Nat,k ≤ n.ends.length ∧ i = .int .i64 k ∧ MD (jH n) (dZ n) n.ends.length w4 wr w1.heap.size gp cp gd n.ends.length k) (fun i _ => n.ends.length - (intOf i).toNat)
 case atStart => exact ⟨0,Nat.zero_le _,rfl,Pl.out⟩
 case round =>
  obtain ⟨k,hk,rfl,hE⟩:=hrel
  have fS : gp ≠ gd:=by have:=ME.out;omega
  have RA : aa w1 wr:=aU.since aar.out hE.only (fun j hj => by have:=ME.out;simp at hj;omega)
  have q9 : aa w0 wr:=aa.after gh.out RA
  have cb:=hE.only.cell (p:=⟨bp,0,none⟩) (by have:=ME.out;simp;omega) aas.out
  have HE:=zh hE;have aat:=zh RA;have xp:=zh q9;have Tn:=zh cb;clear hE RA cb
  by_cases hlt : k < n.ends.length
  ·have m3 : IntKind.i64.wrap ((k : Int) + 1) = (k : Int) + 1:=aL _ (by omega) (by omega)
   have zV : (dW n)[k]? = some (al n k : Int):=by unfold dW;rw [List.getElem?_map,List.getElem?_range hlt];rfl
   have c0:=HcR.out k _ zV wr aat.out;have O2:=cK Hn.out hlt;obtain ⟨p,hp⟩ : ∃ z,z = al n k:=⟨_,rfl⟩
   rw [← hp] at c0 O2;have Hp:=zh hp;clear zV hp;go_wp2_with fail;refine (rQ _ _ _ n p wr (H.out.keep xp.out.below) Hn.out O2).mono ?_;rintro e w5 ⟨uT,rfl,Ym,jT⟩;have ro : aa wr w5:=jT;obtain ⟨AT,cT,rfl,-,-,-⟩:=id Ym.ints;have Rv : (BC n p).length = n.ends.length:=by simp [BC]
   rw [Rv] at Ym;obtain ⟨bT,oT,rfl,hcT⟩:=mG Ym.ints Rv (by omega);rw [Rv];have ct:=hcT k _ (KG hlt) w5 (ad _)
   rw [show ke n p k = jH n k by unfold jH;rw [← Hp.out]] at ct
   have Yn:=HE.out.since ro;have cb5:=ae Tn.out w5 ro;have f5:=Yn.p.free k
   obtain ⟨y0,yW⟩:=aW (jK (jH n) (-1) n.ends.length k) k (by rw [yF _ _ hk];exact hlt)
   have cz:=Yn.p.cell yW;obtain ⟨q1,q2,q3⟩:=Yn.put hlt fS;have VC:=aa.after xp.out ro;obtain ⟨w6,zL⟩ : ∃ z,z = w5.setCell ⟨gp,k,none⟩ (.int .i64 (jH n k)):=⟨_,rfl⟩
   rw [← zL] at q1 q2 q3
   have VD : aa w0 w6:=by rw [zL];exact Below.setCell VC (p:=⟨gp,k,none⟩) (by show _ ≤ gp;have:=ME.out;have:=gh.out.below.size;omega) _
   have Hq:=zh (And.intro q1 (And.intro q2 (And.intro q3 VD)));have Yo:=zh zL;clear Ym jT ro Rv hcT Yn yW q1 q2 q3 VC VD zL c0 q9;obtain ⟨tk,IU⟩ : ∃ z,z = jH n k:=⟨_,rfl⟩
   have VE : Hid (w6 = w5.setCell ⟨gp,k,none⟩ (.int .i64 tk)):=by show _ = _;rw [IU];exact Yo.out
   rw [← IU] at ct;clear Yo IU;go_upto_region 8 with (fail)
   go_region
   rw [← VE.out];obtain ⟨w7,nT⟩ : ∃ z,z = World.drew w6:=⟨_,rfl⟩
   rw [← nT]
   have ND : aa w6 w7:=by rw [nT];exact ak (ad _)
   have CY:=zh ND;have VF : aa w0 w7:=aa.after Hq.out.2.2.2 ND;have aau:=zh VF;clear nT ND VE cb5 ct f5 cz;go_wp2_with fail;refine (eR _ _ _ n p w7 (H.out.keep aau.out.below) Hn.out O2).mono ?_;rintro e w8 ⟨uF,rfl,Gb,yH⟩;obtain ⟨AF,cF,rfl,-,-,-⟩:=id Gb.ints;rw [l8 Hn.out O2] at Gb;obtain ⟨bF,oF,rfl,Pm⟩:=rN Hn.out O2 Gb.ints;rw [l8 Hn.out O2];have cf:=Pm k hlt w8 (ad _)
   rw [show aK n p k = dZ n k by unfold dZ;rw [← Hp.out]] at cf
   have Oc : aa w6 w8:=aa.after CY.out yH;have r1:=Own.since Hq.out.1 Oc;have r2:=Own.since Hq.out.2.1 Oc;have r3:=Hq.out.2.2.1.trans (aU.of_below Oc.below);have f5:=r2.free k
   obtain ⟨y0,yW⟩:=aW (jK (dZ n) 0 n.ends.length k) k (by rw [yF _ _ hk];exact hlt)
   have cz:=r2.cell yW;have CT:=MD.next r1 r2 r3 hlt fS;have pE:=zh CT;obtain ⟨dk,hdk⟩ : ∃ z,z = dZ n k:=⟨_,rfl⟩
   rw [← hdk] at cf pE;clear Gb yH Pm Oc r1 r2 r3 yW CT hdk VF;go_wp2;go_roundw
   case rel => exact ⟨k + 1,by omega,by first | rfl | go_num,pE.out⟩
   case measure => simp [intOf];omega
  ·obtain rfl : k = n.ends.length:=by omega
   clear hk hlt;obtain ⟨wq,rfl⟩ : ∃ z,z = wr:=⟨_,rfl⟩
   have hP:=HE.out.p;have hD:=HE.out.d;rw [IA] at hP hD;have HP:=zh hP;have HD:=zh hD;clear hP hD;have VG : (wq.alloc (.cells #[.int .i64 1] 3)).cell? ⟨wq.heap.size,0,none⟩ = some (.int .i64 1):=by simp
   have aav:=zh VG;clear VG;go_wp2_with fail;refine (lf wq.heap.size 1 1 n.ends.length _ (by omega) (by omega) aav.out).mono ?_;rintro e w9 ⟨uS,rfl,hoS,ne⟩;rcases hoS.cases with ⟨-,h9⟩ | ⟨gs,cs,hvs,aaw,VH⟩
   ·exfalso
    have h8 : n.ends.length = 0:=by
     have h7:=congrArg List.length h9;rw [List.length_replicate] at h7;exact h7
    omega
   rw [List.length_replicate] at hvs;subst hvs;have Pr : aa wq w9:=aa.after (ah _ (ad _)) ne;obtain ⟨To,Ll⟩ : ∃ z,z = w9.alloc (.cells #[.slice (some ⟨gs,0,none⟩) n.ends.length cs] 25):=⟨_,rfl⟩
   obtain ⟨bs,I7⟩ : ∃ z,z = w9.heap.size:=⟨_,rfl⟩
   have RB : aa w9 To:=by rw [Ll];exact ah _ (ad _)
   have RC : To.cell? ⟨bs,0,none⟩ = some (.slice (some ⟨gs,0,none⟩) n.ends.length cs):=by rw [Ll,I7];simp
   have VI : aa wq To:=aa.after Pr RB;have HoS:=zh (Own.since hoS RB);have aax:=zh (ae RC);have VJ:=zh VI
   have Yp : Hid (wq.heap.size ≤ gs ∧ gs < bs ∧ bs < To.heap.size):=by
    have h7 : wq.heap.size + 1 = (wq.alloc (.cells #[.int .i64 1] 3)).heap.size:=by simp
    refine ⟨by omega,by rw [I7];exact VH,by rw [Ll,I7];simp⟩
   have aay:=zh Ll;have Pj:=zh I7;clear hoS ne aaw VH Pr Ll I7 RB RC VI;go_upto_region 12 with (fail);rw [← aay.out,← Pj.out]
   have mB:=Cm (.slice (some ⟨gd,0,none⟩) n.ends.length n.ends.length) ((List.range n.ends.length).map (dZ n)) To (Own.since HD.out VJ.out).ints (by simp;omega) (by simp;omega) (fun x hx => by
    obtain ⟨v,hv,rfl⟩:=List.mem_map.1 hx;have iY:=List.mem_range.1 hv;have h1:=(Mt Hn.out).pos v iY;have h2 : dZ n v < n.ends.length:=(zr Hn.out (cK Hn.out iY) iY).2
    omega)
   have CZ:=zh mB;clear mB;go_wp2_with fail;refine CZ.out.mono ?_;rintro e Tp ⟨uO,l,rfl,Tq,RE,IB,RF⟩;rw [List.length_map,List.length_range] at RE;obtain ⟨ln,Uu,Ry,p_⟩:=Lj RE;subst Uu
   have VK : ln.Pairwise (fun a b => dZ n b ≤ dZ n a):=by
    rw [List.pairwise_map] at IB;refine IB.imp_of_mem (fun {a b} ha hb h9 => ?_)
    have s_:=List.mem_range.1 (Ry.mem_iff.1 ha);have Pq:=List.mem_range.1 (Ry.mem_iff.1 hb);rw [Int.toNat_natCast,Int.toNat_natCast,lX s_,lX Pq] at h9;exact h9
   have VL : (ln.map (fun k : Nat => (k : Int))).length = n.ends.length:=by rw [List.length_map,p_]
   obtain ⟨AO,cO,rfl,-,-,-⟩:=id Tq.ints;rw [VL] at Tq;obtain ⟨bO,oO,rfl,hcO⟩:=mG Tq.ints VL (by omega);rw [VL];have aaz:=zh (aa.after VJ.out RF);have Ps:=zh (show aa To Tp from RF);have aaA:=Tq
   have VM : Hid (bO ≠ gs ∧ ∀ k x,(ln.map (fun k : Nat => (k : Int)))[k]? = some x → Tp.cell? ⟨bO,oO + k,none⟩ = some (.int .i64 x)):=by
    refine ⟨?_,fun k x hx => hcO k x hx Tp (ad _)⟩
    have h7:=Tq.cases;rcases h7 with ⟨h6,-⟩ | ⟨g7,c7,h6,h5,-⟩
    ·cases h6
    ·rw [VL] at h6;cases h6
     have:=Yp.out
     omega
   have Nj:=zh (And.intro Ry (And.intro p_ VK));clear Tq aaA RE IB Ry p_ VK VL hcO RF;go_upto_region 13 with (fail);have hT:=Mt Hn.out;have HT:=zh hT;clear hT
   go_loopw [57] (fun i wr => ∃ (k : Nat) (s : List Int),k ≤ n.ends.length ∧ i = .int .i64 k ∧ FM n.ends.length (dZ n) (kF n) (ln.take k) s ∧ Own wr wq.heap.size (.slice (some ⟨gs,0,none⟩) n.ends.length cs) s ∧ aU [gs] Tp wr) (fun i _ => n.ends.length - (intOf i).toNat)
   case atStart => exact ⟨0,List.replicate n.ends.length 1,Nat.zero_le _,rfl,FM.start _ _ _,(Own.since HoS.out Ps.out).mono (by have:=Yp.out;simp),aU.refl _ _⟩
   case round =>
    obtain ⟨k,s,hk,rfl,ed,hos,fm⟩:=hrel
    have IC : aa wq wr:=aU.since aaz.out fm (fun j hj => by have:=Yp.out;simp at hj;omega)
    have hz:=ME.out;have hzs:=Yp.out;have UP : w4.heap.size ≤ wq.heap.size:=HE.out.only.size;have X8:=Own.since HP.out IC
    have RC:=fm.cell (p:=⟨bs,0,none⟩) (by simp;omega) (aax.out Tp Ps.out)
    have cbp:=ae Tn.out wr IC;have lH:=zh ed;have Ts:=zh hos;have zY:=zh fm;have abo:=zh IC;have US:=zh X8;have Cn:=zh (aa.after xp.out IC);have No : gs ≠ gp:=by omega
    clear ed hos fm X8 hz hzs
    by_cases hlt : k < n.ends.length
    ·have m3 : IntKind.i64.wrap ((k : Int) + 1) = (k : Int) + 1:=aL _ (by omega) (by omega)
     have lq : k < ln.length:=by rw [Nj.out.2.1];exact hlt
     obtain ⟨RG,VN,RH,RI⟩:=BE HT.out Nj.out.1 Nj.out.2.2 lq
     have hck : (ln.map (fun k : Nat => (k : Int)))[k]? = some ((ln[k] : Nat) : Int):=by rw [List.getElem?_map,List.getElem?_eq_getElem lq];rfl
     have c0:=zY.out.cell (p:=⟨bO,oO + k,none⟩) (by have:=VM.out.1;simp;omega) (VM.out.2 k _ hck)
     obtain ⟨v,hv⟩ : ∃ z,z = ln[k]:=⟨_,rfl⟩
     have IU : ln.take (k + 1) = ln.take k ++ [v]:=by rw [List.take_succ_eq_append_getElem lq,← hv]
     rw [← hv] at c0 RG RH RI;have VO:=zh (And.intro RG (And.intro VN (And.intro RH IU)));have iY:=RI;clear RG VN RH RI hck hv IU lq
     have cv:=US.out.cell (k:=v) (x:=jH n v) (by rw [List.getElem?_map,List.getElem?_range iY];rfl)
     obtain ⟨tv,htv⟩ : ∃ z,z = jH n v:=⟨_,rfl⟩
     rw [← htv] at cv;have Yq:=zh htv;clear htv
     by_cases ry : tv < 0
     ·have DT : kF n v = none:=by unfold kF;rw [← Yq.out,if_neg (by omega)]
      have CT:=lH.out.skip DT;rw [← VO.out.2.2.2] at CT;have pE:=zh CT;have hng : ¬ (0 : Int) ≤ tv:=by omega
      clear DT CT;go_wp2;go_roundw
      case rel => exact ⟨k + 1,s,by omega,by first | rfl | go_num,pE.out,Ts.out,zY.out⟩
      case measure => simp [intOf];omega
     ·obtain ⟨q,rfl⟩:=Int.eq_ofNat_of_zero_le (show 0 ≤ tv by omega)
      obtain ⟨s1,s2,s3,s4,s5,s6⟩:=im Hn.out (cK Hn.out iY) (r:=al n v) (v:=v) (by have:=Yq.out;unfold jH at this;omega)
      have xj : ke n (al n v) v = (q : Int):=Yq.out.symm;rw [xj] at s2 s6;rw [Int.toNat_natCast] at s6;obtain ⟨es,cM⟩:=aW n.ends v iY;rw [aH cM] at s6;obtain ⟨e,he⟩:=aW es q s6;have Yi:=(df Hn.out cM).2 e (List.mem_of_getElem? he);obtain ⟨p,hp⟩:=Int.eq_ofNat_of_zero_le Yi.1
      have Lm : eE n v (q : Int) = p:=by unfold eE;rw [aH cM,Int.toNat_natCast,aH he,hp];exact Int.toNat_natCast p
      rw [Lm] at s2
      have DT : kF n v = some p:=by unfold kF;rw [← Yq.out,if_pos (by omega),Lm]
      have CT:=lH.out.step HT.out iY VO.out.2.2.1 DT VO.out.1 VO.out.2.1;rw [← VO.out.2.2.2] at CT;have bj:=EC lH.out iY;have b_:=EC lH.out s2;have U6:=lH.out.len
      have cp1:=Ts.out.cell (k:=p) (x:=s.getD p 0) (by rw [zDd,List.getElem?_eq_getElem (by omega)];rfl)
      have cp2:=Ts.out.cell (k:=v) (x:=s.getD v 0) (by rw [zDd,List.getElem?_eq_getElem (by omega)];rfl)
      have f1:=Ts.out.free p;obtain ⟨zp,hzp⟩ : ∃ z,z = s.getD p 0:=⟨_,rfl⟩
      obtain ⟨zv,hzv⟩ : ∃ z,z = s.getD v 0:=⟨_,rfl⟩
      rw [← hzp] at cp1 CT b_;rw [← hzv] at cp2 CT bj;have m4 : IntKind.i64.wrap (zp + zv) = zp + zv:=aL _ (by omega) (by omega);obtain ⟨bE,oE,cE,uE,hAE,-,eS,dG⟩:=jQ H.out.es cM;obtain ⟨A9,y9,rfl,eF,eD,Ik⟩:=dG;obtain ⟨g1,o1,rfl,t1,t2⟩:=Ik q e he;rw [hp] at t1;have d0:=eG wr Cn.out;have d1:=ae eS wr Cn.out;have d2:=ae t1 wr Cn.out;cases hAE;have pE:=zh CT;have hge : (0 : Int) ≤ (q : Int):=by omega
      unfold maxLen at eD;clear s1 s3 s4 s5 cM he Yi hp Lm DT CT eS t1 t2 Ik xj bj b_ hzp hzv IC;have E0:=ae d0;have E1:=ae d1;have E2:=ae d2;have E3:=ae RC;have E4:=ae cbp;have E5:=ae cv;have E6:=ae cp1;have E7:=ae cp2;go_upto_region 16 with (fail);clear d0 d1 d2 RC cbp cv cp1 cp2 f1 c0;refine ao 21 (aa wr) (by kernel_rfl) (by kernel_rfl) (by simp) (ak (ad _)) ?_;simp only [zT]
      apply ag rfl;(intro W hW;have k1:=E3 W hW;go_simp;with_reducible rfl);simp only [zA]
      apply ag rfl;(intro W hW;go_simp;with_reducible rfl);simp only [zA]
      apply ag rfl;(intro W hW;have k1:=E0 W hW;go_simp;with_reducible rfl);simp only [zA]
      iterate 2 (apply ag rfl;(intro W hW;go_simp;with_reducible rfl);simp only [zA])
      apply ag rfl;(intro W hW;have k1:=E1 W hW;go_simp;with_reducible rfl);simp only [zA]
      apply ag rfl;(intro W hW;have k1:=E4 W hW;go_simp;with_reducible rfl);simp only [zA]
      iterate 2 (apply ag rfl;(intro W hW;go_simp;with_reducible rfl);simp only [zA])
      apply ag rfl;(intro W hW;have k1:=E5 W hW;go_simp;with_reducible rfl);simp only [zA]
      iterate 2 (apply ag rfl;(intro W hW;go_simp;with_reducible rfl);simp only [zA])
      apply ag rfl;(intro W hW;have k1:=E2 W hW;go_simp;with_reducible rfl);simp only [zA]
      apply ag rfl;(intro W hW;go_simp;with_reducible rfl);simp only [zA]
      apply ag rfl;(intro W hW;have k1:=E6 W hW;go_simp;with_reducible rfl);simp only [zA]
      apply ag rfl;(intro W hW;have k1:=E3 W hW;go_simp;with_reducible rfl);simp only [zA]
      iterate 2 (apply ag rfl;(intro W hW;go_simp;with_reducible rfl);simp only [zA])
      apply ag rfl;(intro W hW;have k1:=E7 W hW;go_simp;with_reducible rfl);simp only [zA]
      iterate 2 (apply ag rfl;(intro W hW;go_simp;with_reducible rfl);simp only [zA])
      intro W hW;have hoW:=Own.since Ts.out hW;have cW:=E6 W hW;have fW:=hoW.free p;have xl:=zh (hoW.set (k:=p) (zp + zv));have VP:=zY.out.trans (aU.of_below hW);have VQ:=VP.setCell (p:=⟨gs,p,none⟩) (.inl (by simp)) (.int .i64 (zp + zv));have aaB:=zh VQ;clear E0 E1 E2 E3 E4 E5 E6 E7 hW hoW VP VQ;go_wp2;go_roundw
      case rel => exact ⟨k + 1,_,by omega,by first | rfl | go_num,pE.out,xl.out,aaB.out⟩
      case measure => simp [intOf];omega
    ·obtain rfl : k = n.ends.length:=by omega
     have Ze : ln.take n.ends.length = ln:=List.take_of_length_le (by rw [Nj.out.2.1];exact Nat.le_refl _)
     have ed:=lH.out;rw [Ze] at ed;have hwr : aa w wr:=aa.after bv.out Cn.out;have NX : n.ends.length ≤ 40:=by omega
     have Ja:=g_ _ _ _ n wr 152 153 #[] #[.pointer (some ⟨bp,0,none⟩),.pointer (some ⟨w.heap.size,0,none⟩),.pointer (some ⟨bs,0,none⟩)] (al n) (io n) (H.out.keep Cn.out.below) Hn.out EA EB (fun v hv => ⟨cK Hn.out hv,fun W _ => Le _ W⟩)
      (fun v hv W hW => Oa Hn.out Lk.out NX ed Nj.out.1 (H.out.keep Cn.out.below).2.1 (ae cbp) US.out (fun W hW => eX W (aa.after Cn.out hW)) (ae RC) Ts.out hv hW)
     have BV:=zh Ja;have Hwr:=zh hwr;have aaC:=Cn.out;clear Ze ed Ja hwr RC cbp IC NX;go_wp2_with fail;refine BV.out.mono ?_;rintro e w13 ⟨uZ,rfl,hoZ,VR⟩;obtain ⟨AZ,cZ,rfl,-,-,-⟩:=id hoZ.ints;have HoZ:=zh hoZ;have VS:=zh (aa.after Hwr.out VR);clear hoZ VR aaC;go_wp2;go_ret
     exact ⟨_,rfl,by have h7:=HoZ.out.mono Hwr.out.below.size;rw [List.length_map,List.length_range] at h7;exact h7,VS.out⟩
theorem Ln {n : am} (h : fZ n = true) {v : Nat} (hv : v < n.ends.length) : en n (al n v) n.ends.length = [(iK n v).toNat]:=by
 have h1:=List.all_eq_true.1 h v (List.mem_range.2 hv);unfold js at h1;have h1:=eq_of_beq h1
 unfold iK yk
 unfold mz at h1
 cases ho : en n (al n v) n.ends.length with
 | nil => rw [ho] at h1;simp at h1
 | cons r l =>
  rw [ho] at h1;have hl : l = []:=by simpa using h1
  subst hl;simp
theorem ED : ∀ args w,(callFunc 83 args).run Tryz.prog w = .ok (.enter 83 args) w:=enters_of Tryz.func83 (by kernel_rfl) rfl
theorem EE : ∀ args w,(callFunc 84 args).run Tryz.prog w = .ok (.enter 84 args) w:=enters_of Tryz.func84 (by kernel_rfl) rfl
theorem EF : ∀ args w,(callFunc 85 args).run Tryz.prog w = .ok (.enter 85 args) w:=enters_of Tryz.func85 (by kernel_rfl) rfl
theorem EG : ∀ args w,(callFunc 86 args).run Tryz.prog w = .ok (.enter 86 args) w:=enters_of Tryz.func86 (by kernel_rfl) rfl
theorem Lo (x : Int) (w : World) : Calls Tryz.prog 83 #[.int .i64 x] w fun e w' => e = .returned (.int .i64 x) ∧ Below w.heap.size w w':=by
 go_enter Tryz.func83,Tryz.ntmps83
 go_wp2;go_ret;exact ⟨rfl,Below.refl _ _⟩
theorem Lp (x y z : Int) (w : World) : Calls Tryz.prog 84 #[.int .i64 x,.int .i64 y,.int .i64 z] w fun e w' => e = .returned (.int .i64 z) ∧ Below w.heap.size w w':=by
 go_enter Tryz.func84,Tryz.ntmps84
 go_wp2;go_ret;exact ⟨rfl,Below.refl _ _⟩
theorem Lq (p r b bl g c N : Nat) (D : DataW Unit) (w : World) (hp : p ≤ 1000000) (h1 : w.cell? ⟨bl,0,none⟩ = some (.map (some b))) (hm : w.ownsMap Tryz.prog 3 sL b N D)
  (hu : sL (.slice (some ⟨g,0,none⟩) 1 c) = some (D.atKey (kI p) zD,[])) (h2 : w.cell? ⟨g,0,none⟩ = some (.int .i64 r)) :
  Calls Tryz.prog 85 #[.int .i64 p,.pointer (some ⟨bl,0,none⟩)] w fun e w' => e = .returned (.int .i64 r) ∧ Below w.heap.size w w':=by
 have Hm:=zh hm;have Hu:=zh hu;clear hm hu
 go_enter Tryz.func85,Tryz.ntmps85
 go_wp2_with (first | (at_lookup;refine vt rfl _ _ rfl b N D rfl Hm.out p hp rfl _ Hu.out ?_))
 go_ret;exact ⟨rfl,Below.refl _ _⟩
theorem Lr (v r L b0 bI oI cI : Nat) (d sN : Int) (w : World) (hr : r < L)
  (h3 : w.cell? ⟨b0,1,none⟩ = some (.slice (some ⟨bI,oI,none⟩) L cI)) (h4 : w.cell? ⟨bI,oI + r,none⟩ = some (.int .i64 sN))
  (hi : 1 ≤ sN ∧ sN ≤ 999999) (hd : -1 ≤ d ∧ d ≤ 100) :
  Calls Tryz.prog 86 #[.int .i64 v,.int .i64 r,.int .i64 d,.pointer (some ⟨b0,0,none⟩)] w fun e w' => e = .returned (.int .i64 (sN * 100 + d)) ∧ Below w.heap.size w w':=by
 have a1 : IntKind.i64.wrap (sN * 100) = sN * 100:=aL _ (by omega) (by omega);have a2 : IntKind.i64.wrap (sN * 100 + d) = sN * 100 + d:=aL _ (by omega) (by omega);clear hi hd
 go_enter Tryz.func86,Tryz.ntmps86
 go_wp2;go_ret;exact ⟨rfl,Below.refl _ _⟩
theorem Od {n : am} (hn : an n = true) (hl : fZ n = true) {b bl B N : Nat} {D : DataW Unit} {U : Nat → Value} {w : World} (hm : w.ownsMap Tryz.prog 3 sL b N D) (wy : gm n w B n.ends.length n.ends.length D U)
  (hc : w.cell? ⟨bl,0,none⟩ = some (.map (some b))) {v : Nat} (hv : v < n.ends.length) :
  (iK n v).toNat < n.ends.length ∧ ∀ W,aa w W → Calls Tryz.prog 85 (#[.int .i64 (al n v)] ++ #[.pointer (some ⟨bl,0,none⟩)]) W fun e w' => e = .returned (.int .i64 ((iK n v).toNat : Nat)) ∧ Below W.heap.size W w':=by
 obtain ⟨r,hr,rp,-,-,-,-⟩:=oz hn hl hv;have dG:=Ln hl hv;rw [hr,Int.toNat_natCast] at dG ⊢;refine ⟨rp,fun W hW => ?_⟩
 have aY:=wy.own (al n v);have hval:=wy.val (al n v);rw [dG] at aY;have hlen:=cK hn hv;have h40:=aN hn;rcases aY.cases with ⟨-,h9⟩ | ⟨g,c,hg,ib,oH⟩
 ·cases h9
 have hg : U (al n v) = .slice (some ⟨g,0,none⟩) 1 c:=hg;rw [hg] at hval aY;have h2:=(Own.since aY hW).cell (k:=0) (x:=(r : Int)) rfl;exact Lq _ r b bl g c N D W (by omega) (ae hc W hW) (Below.ownsMap hm hW) hval h2
theorem Oe {n : am} (hn : an n = true) (h0 : n.ids.length ≠ 0) (hl : fZ n = true) {b0 : Nat} {vi : Value} {w : World} (hi : bD w vi n.ids) (h1 : ∀ W,aa w W → W.cell? ⟨b0,1,none⟩ = some vi) {v : Nat} (hv : v < n.ends.length) {W : World} (hW : aa w W) :
  Calls Tryz.prog 86 (#[.int .i64 v,.int .i64 ((iK n v).toNat : Nat),.int .i64 (aK n (iK n v).toNat v)] ++ #[.pointer (some ⟨b0,0,none⟩)]) W fun e w' => e = .returned (.int .i64 (nG n v)) ∧ Below W.heap.size W w':=by
 obtain ⟨r,hr,rp,-,-,-,-⟩:=oz hn hl hv;unfold nG;rw [hr,Int.toNat_natCast];have Li:=rL hn h0
 have VT : r < n.ids.length:=by rw [Li.1];exact rp
 have hN:=aN hn;obtain ⟨bI,oI,cI,hAI,hcI⟩:=B4 hi VT;subst hAI;have Yh:=nK hn rp hv;exact Lr v r n.ids.length b0 bI oI cI (aK n r v) (n.ids.getD r 0) W VT (h1 W hW) (hcI W hW) (Li.2 _ rp) (by omega)
theorem oQ (ve vi vn : Value) (n : am) (w : World) (h : aT w ve vi vn n) (hn : an n = true) :
  Calls Tryz.prog 78 #[.agg #[ve,vi,vn]] w fun e w' => ∃ U,e = .returned (.tuple #[U,.bool (ii n).isSome]) ∧ (∀ l,ii n = some (some l) → Own w' w.heap.size U l) ∧ Below w.heap.size w w':=by
 have uh:=aN hn;have mK:=uh.1;have lh:=uh.2;clear uh;have Ke : Hid (∀ (k : Nat) (es : List (Int × Int)),n.ends[k]? = some es → es.length ≤ 6 ∧ ∀ e ∈ es,0 ≤ e.1 ∧ e.1 < n.ends.length):=fun (k : Nat) (es : List (Int × Int)) he => df hn he
 clear hn;obtain ⟨R,hR⟩ : ∃ R,R = ii n:=⟨_,rfl⟩
 rw [← hR];have HR:=zh hR;clear hR
 obtain ⟨w0,A,c,A2,c2,A3,c3,rfl,rfl,rfl,ft,hm,f6,gF,HA,dh,bv,H,eG,eX,fb⟩:=zB h;clear h
 have cX : aa w0 w0:=ad _
 go_enter Tryz.func78,Tryz.ntmps78
 go_upto_region 1 with (fail);rw [← dh.out];go_wp2_with fail;refine (iJ _ _ _ n w0 H.out mK (by omega)).mono ?_;rintro e w1 ⟨u,rfl,ho,bj⟩
 obtain ⟨g,cU,rfl,hUl,ZL⟩ : ∃ g cU,u = .slice (some ⟨g,0,none⟩) n.ends.length cU ∧ n.ends.length ≤ cU ∧ cU ≤ maxLen:=by
  rcases eT ho with ⟨h0,SE⟩ | ⟨g,cc,h0,_,_,h3,h4⟩
  ·rw [List.length_replicate] at SE;omega
  ·rw [List.length_replicate] at h0 h3;exact ⟨g,cc,h0,h3,h4⟩
 unfold maxLen at ZL;have wI:=zh ho;have Uy:=zh (World.ownsRow.lt ho g (by simp [Value.ownBlock])).1;have Uz:=zh (cX.trans bj);clear ho bj cX;go_wp2
 go_loopw [5,6] (fun us uv wr => ∃ (l : List Int) (v : Int) (s f : Nat),us = .int .i64 (s : Int) ∧ uv = .int .i64 v ∧ Own wr w0.heap.size (.slice (some ⟨g,0,none⟩) n.ends.length cU) l ∧ ux n l v s f ∧ fM n f l v s = R ∧ aa w0 wr) (fun us uv _ => qG (intOf uv) (intOf us).toNat)
 case atStart => exact ⟨_,0,0,400002,rfl,rfl,wI.out,Bj,HR.out.symm,Uz.out⟩
 case round =>
  obtain ⟨l,v,s,f,rfl,rfl,ho,gE,dt,cJ⟩:=hrel;have Ho:=zh ho;have pd:=zh gE;have rH:=zh dt;have hlen:=gE.len;have Qv:=gE.lo;have CV:=gE.hi;have Ms:=gE.st;clear ho dt gE
  by_cases hv : (n.ends.length : Int) ≤ v
  ·have hr : Hid (R = some (some l)):=by show _ = _;rw [← rH.out];exact FA pd.out hv
   have HS:=zh cJ;obtain rfl : v = (n.ends.length : Int):=by omega
   clear cJ hv Qv CV Ms;go_wp2
   go_ret2
   exact ⟨_,by rw [hr.out];rfl,fun l2 lp => by
    rw [hr.out] at lp
    injection lp with lp
    injection lp with lp
    subst lp
    exact Ho.out.mono bv.out.size,aa.after bv.out HS.out⟩
  ·by_cases sR : v < 0
   ·have hr : Hid (R = some none):=by show _ = _;rw [← rH.out];exact FB pd.out (by omega) sR
    have HS:=zh cJ;have hvl : v < (n.ends.length : Int):=by omega
    clear cJ hv Qv CV Ms;go_wp2
    go_ret2
    exact ⟨_,by rw [hr.out];rfl,fun l2 lp => (by rw [hr.out] at lp;cases lp),aa.after bv.out HS.out⟩
   ·obtain ⟨k,rfl⟩:=Int.eq_ofNat_of_zero_le (show 0 ≤ v by omega)
    have hk : k < n.ends.length:=by omega
    obtain ⟨x,hx⟩:=aW l k (by omega);have wE:=pd.out.rng x (List.mem_of_getElem? hx);obtain ⟨f',rfl⟩:=FE pd.out;have cz:=Ho.out.cell hx;have fz:=Ho.out.free k;have Hx:=zh hx;have m1 : IntKind.i64.wrap ((k : Int) - 1) = (k : Int) - 1:=aL _ (by omega) (by omega);have m2 : IntKind.i64.wrap (x + 1) = x + 1:=aL _ (by omega) (by omega);have m3 : IntKind.i64.wrap ((s : Int) + 1) = (s : Int) + 1:=aL _ (by omega) (by omega);have m4 : IntKind.i64.wrap ((k : Int) + 1) = (k : Int) + 1:=aL _ (by omega) (by omega);clear hx hv sR Qv CV
    by_cases h2 : x = 2
    ·subst h2;have Hb:=zh (FC pd.out hk Hx.out);clear m2 m3 m4 wE;go_wp2;go_roundw
     case rel => exact ⟨l.set k (-1),(k : Int) - 1,s,f',rfl,by first | rfl | go_num,Ho.out.set (k:=k) (-1),Hb.out.2,by rw [← Hb.out.1];exact rH.out,cJ.setCell Uy.out _⟩
     case measure => (simp [intOf,qG];try omega)
    ·have Ud : (x = 2) = False:=by simp [h2]
     have h2b : (x == 2) = false:=by simp [h2]
     by_cases hs : s = 200000
     ·have hr : Hid (R = none):=by show _ = _;rw [← rH.out];subst hs;exact FD pd.out hk Hx.out h2
      have HS:=zh cJ
      have dm : ((s : Int) = 200000) = True:=by simp;omega
      have dE : (s = 200000) = True:=by simp [hs]
      have iB : ((s : Int) == 200000) = true:=by simp;omega
      clear cJ m1 m2 m3 m4 wE h2 hs Ms;go_wp2
      go_ret2
      exact ⟨_,by rw [hr.out];rfl,fun l2 lp => (by rw [hr.out] at lp;cases lp),aa.after bv.out HS.out⟩
     ·have XU : ((s : Int) = 200000) = False:=by simp;omega
      have dE : (s = 200000) = False:=by simp [hs]
      have iB : ((s : Int) == 200000) = false:=by simp;omega
      have Hg:=zh (OW pd.out hk Hx.out h2 hs);have Hs:=zh hs;clear h2 hs wE;obtain ⟨es,cM⟩:=aW n.ends k hk;obtain ⟨r1,r2⟩:=Ke.out k es cM;have ml:=zh cM;have qM:=zh r1;have xf:=zh r2;clear cM r1 r2;go_upto_region 14 with (fail);obtain ⟨l2,lp⟩ : ∃ l2,l2 = l.set k (x + 1):=⟨_,rfl⟩
      rw [← lp] at Hg;obtain ⟨W0,GW⟩ : ∃ W0,W0 = wr.setCell ⟨g,k,none⟩ (.int .i64 (x + 1)):=⟨_,rfl⟩
      rw [← GW]
      have iU : Hid (Own W0 w0.heap.size (.slice (some ⟨g,0,none⟩) n.ends.length cU) l2):=by show Own _ _ _ _;rw [GW,lp];exact Ho.out.set (k:=k) (x + 1)
      have Kf : l2.length = n.ends.length:=by rw [lp,List.length_set];exact hlen
      have pw : l2[k]? = some (x + 1):=by rw [lp,List.getElem?_set_self (by omega)]
      have ot : Hid (aa w0 W0):=by show aa _ _;rw [GW];exact cJ.setCell Uy.out _
      have c2:=ae (iU.out.cell pw)
      have ZM:=zh (show ∀ X,aa W0 X → bD X (.slice (some ⟨g,0,none⟩) n.ends.length cU) l2 from fun X hX => by have:=(Own.since iU.out hX).ints;exact this)
      have t0:=ai eG ot.out;have t1:=ai eX ot.out;have t2:=ai fb ot.out;have hz : aa W0 W0:=ad _;have Qw:=zh Kf;have DM:=zh pw
      have i_:=zh (show gK n l2 k = !(jP (aw l2 es) (x + 1)) by unfold gK jP;rw [aH ml.out,aH pw])
      have HP:=zh (And.intro eG (And.intro eX fb));clear GW lp Kf pw cJ cz fz eG eX fb;refine cm (w0:=W0) 9 [false,false,false,true,false,false,false,false,true] (by kernel_rfl) (by kernel_rfl) (hz) ?_;simp only [d_,dO,zT]
      iterate 7 (apply bB rfl;(intro W hW;go_simp;with_reducible rfl);simp only [zA])
      intro W hW;refine Or.inl ⟨rfl,?_⟩
      go_simp
      (with_reducible refine (kA _ _ _ _ n l2 k es W (H.out.keep (ot.out.after hW).below) (ZM.out W hW) ml.out (by have:=qM.out;omega) (by rw [Qw.out];exact xf.out)).mono ?_)
      rintro e W' ⟨un,rfl,fm,hbn⟩;refine ⟨_,rfl,hW.trans hbn,?_⟩
      replace hW:=hW.trans hbn
      have zY:=zh fm.ints;clear fm hbn
      (try simp only [zA])
      refine Or.inl ⟨rfl,?_⟩
      go_simp
      (with_reducible refine (jr _ (aw l2 es) (x + 1) _ zY.out).mono ?_)
      rintro e W' ⟨rfl,rfl⟩;refine ⟨_,rfl,hW,?_⟩
      replace hW:=hW
      skip
      (try simp only [zA])
      simp only [bA];have ms:=zh (Own.since iU.out hW);have O1:=zh (ot.out.after hW);obtain ⟨eG,eX,fb⟩:=HP.out;cases hb : jP (aw l2 es) (x + 1)
      ·have Nk : gK n l2 k = true:=by rw [i_.out,hb];rfl
       rw [Nk] at Hg;clear hW hz t0 t1 t2 c2 hb m1 m2 m3;go_wp2;go_roundw
       case rel => exact ⟨l2,(k : Int) + 1,s + 1,f',by go_num,by first | rfl | go_num,ms.out,by have:=Hg.out.2;simpa using this,by have:=Hg.out.1;simp at this;rw [← this];exact rH.out,O1.out⟩
       case measure => (have:=Hs.out;have:=pd.out.st;simp [intOf,qG];try omega)
      ·have Nk : gK n l2 k = false:=by rw [i_.out,hb];rfl
       rw [Nk] at Hg;clear hW hz t0 t1 t2 c2 hb m1 m2 m3;go_wp2;go_roundw
       case rel => exact ⟨l2,(k : Int),s + 1,f',by go_num,by first | rfl | go_num,ms.out,by have:=Hg.out.2;simpa using this,by have:=Hg.out.1;simp at this;rw [← this];exact rH.out,O1.out⟩
       case measure => (have:=Hs.out;have:=pd.out.st;simp [intOf,qG];try omega)
theorem kY (ve vi vn : Value) (n : am) (s : Int) (w : World) (h : aT w ve vi vn n) (hs : -9223372036854775808 ≤ s ∧ s ≤ 9223372036854775807) (ed : f_ n ≤ 1048576) :
  Calls Tryz.prog 25 #[.agg #[ve,vi,vn],.int .i64 s] w fun e w' => ∃ u,e = .returned (.tuple #[u,.bool (bw n s)]) ∧ Own w' w.heap.size u (bh n s) ∧ Below w.heap.size w w':=by
 have lH:=zh ed;have Pt:=zh hs;clear ed hs
 obtain ⟨w0,A,c,A2,c2,A3,c3,rfl,rfl,rfl,ft,hm,f6,gF,HA,dh,bv,H,eG,eX,fb⟩:=zB h;clear h
 obtain ⟨r0,M8⟩ : ∃ r,aQ n s = r:=⟨_,rfl⟩
 obtain ⟨r1,rZ⟩ : ∃ r,bx n s = r:=⟨_,rfl⟩
 obtain ⟨q1,o_⟩ : ∃ r,bw n s = r:=⟨_,rfl⟩
 have ht:=NI n s;rw [M8,rZ,o_] at ht;have Vg:=zh M8;have qM:=zh rZ;have Ru:=zh o_;have Ht:=zh ht;rw [o_];clear M8 rZ o_ ht
 go_enter Tryz.func25,Tryz.ntmps25
 go_upto_region 1 with (fail);rw [← dh.out];have cX : aa w0 w0:=ad _;go_wp2_with fail;refine (ir _ _ _ n s w0 H.out Pt.out lH.out).mono ?_;rintro e w1 ⟨rfl,bj⟩;rw [Vg.out,qM.out];have dm : aa w0 w1:=bj;have gh:=zh dm;clear bj cX;cases q1
 ·have hd : bh n s = []:=by unfold bh;rw [Ru.out];rfl
  have Hd:=zh hd;clear hd
  have hr : r1 = false ∨ (r1 = true ∧ r0 = false):=by have:=Ht.out;revert this;cases r0 <;> cases r1 <;> simp
  rcases hr with rfl | ⟨rfl,rfl⟩
  ·go_wp2
   go_ret2
   rw [Hd.out];exact ⟨_,rfl,cH _ _,aa.trans bv.out gh.out⟩
  ·go_wp2
   go_ret2
   rw [Hd.out];exact ⟨_,rfl,cH _ _,aa.trans bv.out gh.out⟩
 ·have hd : bh n s = sI n s:=by unfold bh;rw [Ru.out];rfl
  have hq:=Ru.out
  unfold bw xh at hq
  rw [Bool.and_eq_true,Bool.and_eq_true,aM] at hq;have Hn:=zh hq.1.1;have cJ:=hq.1.2;have Hh:=zh hq.2;have Hd:=zh hd
  obtain ⟨rfl,rfl⟩ : r0 = true ∧ r1 = true:=by have:=Ht.out;revert this;cases r0 <;> cases r1 <;> simp
  clear hd hq Vg qM Ht Ru
  by_cases h1 : s = 1
  ·subst h1
   have RJ : pH n = true:=by have:=Hh.out;unfold ik at this;rwa [if_pos rfl] at this
   have C4 : Hid (sI n 1 = pG n):=by show _ = _;unfold sI;rw [if_pos rfl,if_pos RJ]
   have VU:=zh RJ;clear RJ;go_wp2_with fail;refine (l_ _ _ _ n w1 (H.out.keep gh.out.below) Hn.out).mono ?_;rintro e w2 ⟨u,rfl,ho,b_⟩;rw [if_pos VU.out] at ho;rw [VU.out];obtain ⟨AU,cU,rfl,-,-,-⟩:=id ho.ints;have Ho:=zh ho;have cw:=zh (aa.after gh.out b_);clear ho b_ dm;go_wp2
   go_ret2
   rw [Hd.out,C4.out];exact ⟨_,rfl,Ho.out.mono (Nat.le_trans bv.out.size gh.out.below.size),aa.trans bv.out cw.out⟩
  by_cases h2 : s = 2
  ·subst h2;have hh:=Hh.out;unfold ik at hh;rw [if_neg (by decide),if_pos rfl] at hh
   cases hR : ii n with
   | none => rw [hR] at hh;cases hh
   | some R =>
    cases R with
    | none => rw [hR] at hh;cases hh
    | some l =>
     have C4 : Hid (sI n 2 = l):=by show _ = _;unfold sI;rw [if_neg (by decide),if_pos rfl,hR]
     have HR:=zh hR;clear hR hh;go_wp2_with fail;refine (oQ _ _ _ n w1 (H.out.keep gh.out.below) Hn.out).mono ?_;rintro e w2 ⟨u,rfl,ho,b_⟩;have ho:=ho l HR.out;rw [HR.out];obtain ⟨AU,cU,rfl,-,-,-⟩:=id ho.ints;have Ho:=zh ho;have cw:=zh (aa.after gh.out b_);clear ho b_ dm;go_wp2
     go_ret2
     rw [Hd.out,C4.out];exact ⟨_,rfl,Ho.out.mono (Nat.le_trans bv.out.size gh.out.below.size),aa.trans bv.out cw.out⟩
  by_cases h3 : s = 3
  ·subst h3
   have C4 : Hid (sI n 3 = (List.range n.ends.length).map (dZ n)):=by show _ = _;unfold sI;rw [if_neg (by decide),if_neg (by decide),if_pos rfl]
   have BV:=zh (g_ _ _ _ n w1 83 84 #[] #[] (al n) (dZ n) (H.out.keep gh.out.below) Hn.out ED EE (fun v hv => ⟨cK Hn.out hv,fun W _ => Lo _ W⟩) (fun v hv W _ => Lp _ _ _ W))
   go_wp2_with fail;refine BV.out.mono ?_;rintro e w2 ⟨u,rfl,ho,b_⟩;obtain ⟨AU,cU,rfl,-,-,-⟩:=id ho.ints;have Ho:=zh ho;have cw:=zh (aa.after gh.out b_);clear ho b_ dm;go_wp2
   go_ret2
   rw [Hd.out,C4.out]
   exact ⟨_,rfl,by have h7:=Ho.out.mono (Nat.le_trans bv.out.size gh.out.below.size);rw [List.length_map,List.length_range] at h7;exact h7,aa.trans bv.out cw.out⟩
  have hid : n.ids.length ≠ 0:=fun e => by
   have:=Hh.out
   unfold ik at this;rw [if_neg h1,if_neg h2,if_neg h3,if_pos e] at this;cases this
  by_cases h4 : s = 4
  ·subst h4
   have hld : fZ n = true:=by have:=Hh.out;unfold ik at this;rwa [if_neg h1,if_neg h2,if_neg h3,if_neg hid,if_pos rfl] at this
   have C4 : Hid (sI n 4 = (List.range n.ends.length).map (nG n)):=by show _ = _;unfold sI;rw [if_neg (by decide),if_neg (by decide),if_neg (by decide),if_pos rfl]
   have Lk:=zh hid;have Hld:=zh hld;clear hid hld h1 h2 h3;go_wp2_with fail;refine (sk _ _ _ n w1 (H.out.keep gh.out.below) Hn.out).mono ?_;rintro e w3 ⟨b,D,U,rfl,hm,wy,rq,hb⟩;obtain ⟨w4,gZ⟩ : ∃ z,z = w3.alloc (.cells #[.map (some b)] 112):=⟨_,rfl⟩
   obtain ⟨bl,qy⟩ : ∃ z,z = w3.heap.size:=⟨_,rfl⟩
   have Co : aa w3 w4:=by rw [gZ];exact ah _ (ad _)
   have kh : w4.cell? ⟨bl,0,none⟩ = some (.map (some b)):=by rw [gZ,qy];simp
   have XQ:=Below.ownsMap hm Co;have VV : gm n w4 (b + 1) n.ends.length n.ends.length D U:=wy.stable (fun j _ hj => Co.block j hj)
   have kD : aa w0 w4:=aa.after (aa.after gh.out hb) Co
   have Ja:=g_ _ _ _ n w4 85 86 #[.pointer (some ⟨bl,0,none⟩)] #[.pointer (some ⟨w.heap.size,0,none⟩)] (fun v => (iK n v).toNat) (nG n) (H.out.keep kD.below) Hn.out EF EG
    (fun v hv => Od Hn.out Hld.out XQ VV kh hv) (fun v hv W hW => Oe Hn.out Lk.out Hld.out (H.out.keep kD.below).2.1 (fun W hW => eX W (aa.after kD hW)) hv hW)
   have BV:=zh Ja;have mg:=zh kD;have FL:=zh gZ;have Mw:=zh qy;have iB : aa w0 w3:=aa.after gh.out hb;clear Ja Co kh XQ VV hm wy rq hb gZ qy dm;go_upto_region 13 with (fail);rw [← FL.out,← Mw.out];clear iB;go_wp2_with fail;refine BV.out.mono ?_;rintro e w5 ⟨u,rfl,ho,jT⟩;obtain ⟨AU,cU,rfl,-,-,-⟩:=id ho.ints;have Ho:=zh ho;have nd:=zh (aa.after mg.out jT);clear ho jT kD;go_wp2
   go_ret2
   rw [Hd.out,C4.out]
   exact ⟨_,rfl,by have h7:=Ho.out.mono (Nat.le_trans bv.out.size mg.out.below.size);rw [List.length_map,List.length_range] at h7;exact h7,aa.trans bv.out nd.out⟩
  obtain rfl : s = 5:=by omega
  have C4 : Hid (sI n 5 = (List.range n.ends.length).map (io n)):=by show _ = _;unfold sI;rw [if_neg (by decide),if_neg (by decide),if_neg (by decide),if_neg (by decide)]
  have Lk:=zh hid;clear hid h1 h2 h3 h4;go_wp2_with fail;refine (vU _ _ _ n w1 (H.out.keep gh.out.below) Hn.out Lk.out).mono ?_;rintro e w2 ⟨u,rfl,ho,b_⟩;obtain ⟨AU,cU,rfl,-,-,-⟩:=id ho.ints;have Ho:=zh ho;have cw:=zh (aa.after gh.out b_);clear ho b_ dm;go_wp2
  go_ret2
  rw [Hd.out,C4.out]
  exact ⟨_,rfl,by have h7:=Ho.out.mono (Nat.le_trans bv.out.size gh.out.below.size);rw [List.length_map,List.length_range] at h7;exact h7,aa.trans bv.out cw.out⟩
def pS (n : Nat) (xs : List Int) : Prop:=∀ x ∈ xs,0 ≤ x ∧ x < (n : Int)
theorem pS.set {n : Nat} {xs : List Int} (h : pS n xs) (k : Nat) {x : Int} (hx : 0 ≤ x ∧ x < (n : Int)) : pS n (xs.set k x):=fun y hy => by
 rcases List.mem_or_eq_of_mem_set hy with h1 | h1
 ·exact h y h1
 ·rw [h1];exact hx
theorem EH (cb : Nat) (A : Option Addr) (L c P n : Nat) (w : World) (h : dQ w cb A L c P) (hP : P ≤ 4611686018427000000) (hn : n ≤ 100) :
  Calls Tryz.prog 138 #[.pointer (some ⟨cb,0,none⟩),.int .i64 n] w fun e w' => ∃ g xs,e = .returned (.slice (some ⟨g,0,none⟩) n n) ∧ Own w' w.heap.size (.slice (some ⟨g,0,none⟩) n n) xs ∧ pS n xs ∧ dQ w' cb A L c (P + 200) ∧ CB cb w.heap.size w w':=by
 have H:=zh h;have iw:=h.lt;clear h
 go_enter Tryz.func138,Tryz.ntmps138
 go_wp2_with (at_make;refine k6 _ rfl _ _ rfl _ _ n rfl rfl rfl rfl (by omega) ?_;intro w1 iu bj eF;have dm : aa w w1:=bj)
 have A_:=zh eF;clear bj eF
 go_loopw [14] (fun i wr => ∃ (k : Nat) (xs : List Int),k ≤ n ∧ i = .int .i64 k ∧ Own wr w.heap.size (.slice (some ⟨w.heap.size,0,none⟩) n n) xs ∧ pS n xs ∧ aa w wr ∧ w.heap.size < wr.heap.size) (fun i _ => n - (intOf i).toNat)
 case atStart =>
  refine ⟨0,_,Nat.zero_le _,rfl,iu,fun x hx => ?_,dm,A_.out⟩
  obtain ⟨h1,rfl⟩:=List.mem_replicate.1 hx;omega
 case round =>
  obtain ⟨k,xs,hk,rfl,ho,hB,cJ,hzr⟩:=hrel;have HB:=zh hB;have lw:=zh cJ;have Ho:=zh ho;have Yr:=zh hzr
  by_cases hlt : k < n
  ·have f0:=ho.free k
   obtain ⟨y,hy⟩:=aW xs k (by have:=ho.len;omega)
   have c0:=ho.cell hy;have m1 : IntKind.i64.wrap ((k : Int) + 1) = (k : Int) + 1:=aL _ (by omega) (by omega);clear ho hB cJ hzr hy iu dm;go_wp2;go_roundw
   case rel =>
    refine ⟨k + 1,_,by omega,by first | rfl | go_num,Ho.out.set (k : Int),HB.out.set k (by omega),lw.out.setCell (by simp) _,?_⟩
    show _ < (wr.setCell _ _).heap.size
    rw [jv];exact Yr.out
   case measure => simp [intOf];omega
  ·obtain rfl : k = n:=by omega
   have abp:=zh iu;clear ho hB cJ hzr iu dm;have m1 : IntKind.i64.wrap ((k : Int) - 1) = (k : Int) - 1:=aL _ (by omega) (by omega);obtain ⟨wo,rfl⟩ : ∃ z,z = wr:=⟨_,rfl⟩
   go_wp2
   go_loopw [7] (fun i wr => ∃ (z : Int) (xs : List Int),-1 ≤ z ∧ z < (k : Int) ∧ i = .int .i64 z ∧ Own wr w.heap.size (.slice (some ⟨w.heap.size,0,none⟩) k k) xs ∧ pS k xs ∧ dQ wr cb A L c (P + 2 * (k - z.toNat)) ∧ CB cb w.heap.size w wr ∧ w.heap.size < wr.heap.size) (fun i _ => (intOf i).toNat)
   case atStart => exact ⟨(k : Int) - 1,xs,by omega,by omega,by go_num,Ho.out,HB.out,(H.out.since lw.out).mono (by omega),CB.of lw.out,Yr.out⟩
   case round =>
    obtain ⟨z,ys,eF,eD,rfl,ho,hB,hc,hC,VW⟩:=hrel;have vx:=zh hB;have iU:=zh ho;have NF:=zh hc;have Ti:=zh hC;have VX:=zh VW;clear ho hB hc hC VW
    by_cases Nk : 0 < z
    ·obtain ⟨j,rfl⟩ : ∃ j : Nat,z = (j : Int):=⟨z.toNat,by omega⟩
     have sD : 1 ≤ j:=by omega
     have xF : j < k:=by omega
     have m2 : IntKind.i64.wrap ((j : Int) + 1) = (j : Int) + 1:=aL _ (by omega) (by omega);have m3 : IntKind.i64.wrap ((j : Int) - 1) = (j : Int) - 1:=aL _ (by omega) (by omega);clear eF eD;go_wp2_with fail;refine (ew cb A L c _ ((j : Int) + 1) wr NF.out (by omega) (by omega)).mono ?_;rintro e w3 ⟨x,rfl,hx,qo,kP⟩;have hxk : x < k:=by omega
     have ie:=iU.out.seen (cb:=cb) kP iw;have hlen:=ie.len;obtain ⟨a,ha⟩:=aW ys j (by omega);obtain ⟨b,hb⟩:=aW ys x (by omega);have c1:=ie.cell ha;have c2:=ie.cell hb;have f1:=ie.free j;have f2:=ie.free x;have ms:=zh ie;have Hc3:=zh qo;have vH:=zh kP;have Ha:=zh (vx.out a (List.mem_of_getElem? ha));have Hbm:=zh (vx.out b (List.mem_of_getElem? hb));have eZ:=zh hlen;clear hx ie qo kP ha hb hlen;go_upto_region 13 with (fail);have mf:=ms.out.set (k:=j) b;have sl : CB cb w.heap.size w3 (w3.setCell ⟨w.heap.size,j,none⟩ (.int .i64 b)):=(CB.refl cb w.heap.size w3).setCell (p:=⟨w.heap.size,j,none⟩) (.inl (Nat.le_refl _)) _
     have hk4 : ∀ q,q < cb + 1 → (w3.setCell ⟨w.heap.size,j,none⟩ (.int .i64 b)).heap[q]? = w3.heap[q]?:=fun q hq => Below.heap_setCell _ _ _ _ (by show q ≠ w.heap.size;omega)
     obtain ⟨w4,gZ⟩ : ∃ z,z = w3.setCell ⟨w.heap.size,j,none⟩ (.int .i64 b):=⟨_,rfl⟩
     rw [← gZ] at mf sl hk4 ⊢
     obtain ⟨d,hd⟩:=aW (ys.set j b) x (by rw [List.length_set,eZ.out];exact hxk)
     have c4:=mf.cell hd;have f4:=mf.free x;have sH:=zh mf;have HC4:=zh sl;have Hk4:=zh hk4;clear gZ hd mf sl hk4 c1 c2 f1 f2;go_wp2;go_roundw
     case rel =>
      have hh : w.heap.size < w4.heap.size:=Nat.lt_of_lt_of_le VX.out (Nat.le_trans vH.out.size HC4.out.size)
      refine ⟨(j : Int) - 1,(ys.set j b).set x a,by omega,by omega,by first | rfl | go_num,sH.out.set a,(vx.out.set j Hbm.out).set x Ha.out,?_,((Ti.out.trans (vH.out.mono (by have:=VX.out;omega))).trans HC4.out).setCell (p:=⟨w.heap.size,x,none⟩) (.inl (Nat.le_refl _)) _,by rw [jv];exact hh⟩
      have h1:=(Hc3.out.keep Hk4.out).keep (w':=w4.setCell ⟨w.heap.size,x,none⟩ (.int .i64 a)) (fun q hq => Below.heap_setCell _ _ _ _ (by show q ≠ w.heap.size;omega))
      exact h1.mono (by omega)
     case measure => simp [intOf];omega
    ·have HF:=zh Nk;go_wp2;go_ret;exact ⟨w.heap.size,rfl,ys,iU.out,vx.out,NF.out.mono (by omega),Ti.out⟩
end Go.Proofs.YtgmdpppljkmabaaGreat
