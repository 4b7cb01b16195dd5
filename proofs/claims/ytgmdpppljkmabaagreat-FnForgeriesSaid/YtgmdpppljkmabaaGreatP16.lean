/- Parts of the proof: walks of functions and plain laws. -/
import Derived.Test.YtgmdpppljkmabaaGreatP0
import Derived.Test.YtgmdpppljkmabaaGreatP1
import Derived.Test.YtgmdpppljkmabaaGreatP15
import Derived.Test.YtgmdpppljkmabaaGreatP7
import Derived.Test.YtgmdpppljkmabaaGreatP12
import Derived.Test.YtgmdpppljkmabaaGreatP6
import Derived.Test.YtgmdpppljkmabaaGreatP11
import Derived.Test.YtgmdpppljkmabaaGreatP14
import Derived.Test.YtgmdpppljkmabaaGreatP3
import Derived.ArgAppend
import Derived.Test.YtgmdpppljkmabaaGreatP10
import Derived.Test.YtgmdpppljkmabaaGreatP4
import Derived.Maps.OwnOps
import Derived.Maps.RangeWalk
import Derived.WalkArith
set_option maxRecDepth 100000
set_option maxHeartbeats 16000000
namespace Go.Proofs.YtgmdpppljkmabaaGreat
open Go Go.RowKit
theorem vm : ∀ args w,(callFunc 139 args).run Tryz.prog w = .ok (.enter 139 args) w:=enters_of Tryz.func139 (by kernel_rfl) rfl
theorem pQ (ve vi vn : Value) (n : am) (s : Int) (w : World) (h : aT w ve vi vn n) :
  Calls Tryz.prog 72 #[.agg #[ve,vi,vn],.int .i64 s] w fun e w' => e = .returned (pM 139 w.heap.size) ∧ w' = (w.alloc (.cells #[ve,vi,vn] 27)).alloc (.cells #[.int .i64 s] 3):=by
 unfold pM;obtain ⟨⟨A,c,rfl,ft,hm,_⟩,⟨A2,oK,rfl,_,ly,_⟩,⟨A3,pc,rfl,_,rF,_⟩⟩:=h
 go_enter Tryz.func72,Tryz.ntmps72
 go_wp2;go_ret;exact ⟨rfl,rfl⟩
theorem B3 (ve vi vn vl : Value) (n : am) (s : Int) (ls : List Int) (k b : Nat) (r : Bool) (w : World) (h : aT w ve vi vn n) (hl : bD w vl ls)
  (hc : Calls Tryz.prog 109 #[.agg #[ve,vi,vn],.int .i64 s,vl,.int .i64 k] w fun e w' => e = .returned (.bool r) ∧ Below w.heap.size w w')
  (c0 : w.cell? ⟨b,0,none⟩ = some ve) (c1 : w.cell? ⟨b,1,none⟩ = some vi) (c2 : w.cell? ⟨b,2,none⟩ = some vn) (c3 : w.cell? ⟨b + 1,0,none⟩ = some (.int .i64 s)) :
  Calls Tryz.prog 139 #[vl,.int .i64 k,.pointer (some ⟨b,0,none⟩),.pointer (some ⟨b + 1,0,none⟩)] w fun e w' => e = .returned (.bool r) ∧ Below w.heap.size w w':=by
 have Hc:=zh hc;obtain ⟨AL,cL,rfl,sA,mn,_⟩:=hl;obtain ⟨⟨A,c,rfl,ft,hm,_⟩,⟨A2,oK,rfl,_,ly,_⟩,⟨A3,pc,rfl,_,rF,_⟩⟩:=h;clear hc
 go_enter Tryz.func139,Tryz.ntmps139
 go_wp2_with fail;refine Hc.out.mono ?_;rintro e w2 ⟨rfl,hb⟩;have Hb:=zh hb;clear hb;go_wp2;go_ret;exact ⟨rfl,Hb.out⟩
theorem KE {ve vi vn : Value} {n : am} {s most : Int} {b : Nat} {w0 : World} (h : aT w0 ve vi vn n) (hn : an n = true) (dm : 1 ≤ s) (dE : s ≤ 5) (hm : most ≤ 999999999999)
  (c0 : ∀ W,aa w0 W → W.cell? ⟨b,0,none⟩ = some ve) (c1 : ∀ W,aa w0 W → W.cell? ⟨b,1,none⟩ = some vi) (c2 : ∀ W,aa w0 W → W.cell? ⟨b,2,none⟩ = some vn) (c3 : ∀ W,aa w0 W → W.cell? ⟨b + 1,0,none⟩ = some (.int .i64 s)) :
  sa w0 139 b n most (accG n s 0):=by
 intro W vl ls k hW hl p_ hk DK;obtain ⟨n1,n2,n3,n4,n5⟩:=my hn hk;have CU : ls[k]? = some (ls.getD k 0):=getD_some (by omega)
 have hc:=r_ ve vi vn vl n s ls k _ (ls.getD k 0) _ _ W (h.keep hW.below) hl dm dE n1 n2 (fun e he => by rw [p_];exact n3 e he) (fun x hx => ⟨(DK x hx).1,by have:=(DK x hx).2;omega⟩) CU n4 n5
 have e : accG n s 0 ls k = fi n s ls k:=by simp only [accG];rw [if_neg (by omega)]
 rw [e];exact B3 ve vi vn vl n s ls k b (fi n s ls k) W (h.keep hW.below) hl hc (c0 W hW) (c1 W hW) (c2 W hW) (c3 W hW)
def iN (n : am) (s most steps : Int) : Bool:=an n && ee 1 5 s && ee 0 999999999999 most && ee 0 200000 steps
def av (n : am) (s most steps : Int) : Bool:=iN n s most steps
def aS (n : am) (s most steps : Int) : Int:=if iN n s most steps then (dY n s 0 most steps).2.2 else 0
def ap (n : am) (s most steps : Int) : Int:=if iN n s most steps then (dY n s 0 most steps).2.1 else 0
def ay (n : am) (s most steps : Int) : List Int:=if iN n s most steps then (dY n s 0 most steps).1 else []
theorem kM (ve vi vn : Value) (n : am) (s most steps : Int) (w : World) (h : aT w ve vi vn n) (_ : -9223372036854775808 ≤ s ∧ s ≤ 9223372036854775807) (_ : -9223372036854775808 ≤ most ∧ most ≤ 9223372036854775807) (_ : -9223372036854775808 ≤ steps ∧ steps ≤ 9223372036854775807) (ed : f_ n ≤ 1048576) :
  Calls Tryz.prog 21 #[.agg #[ve,vi,vn],.int .i64 s,.int .i64 most,.int .i64 steps] w fun e w' => ∃ u,e = .returned (.tuple #[u,.int .i64 (ap n s most steps),.int .i64 (aS n s most steps),.bool (av n s most steps)]) ∧ Own w' w.heap.size u (ay n s most steps) ∧ Below w.heap.size w w':=by
 obtain ⟨w0,A,c,A2,c2,A3,c3,rfl,rfl,rfl,ft,hm,f6,gF,HA,dh,bv,H,eG,eX,fb⟩:=zB h;clear h
 go_enter Tryz.func21,Tryz.ntmps21
 go_upto_region 1 with (fail);rw [← dh.out];refine aB 18 (aa w0) (ad _) ?_;simp only [zT]
 apply ag rfl;(intro W hW;go_simp;with_reducible rfl);simp only [zA]
 refine dn ?_ rfl ?_ ?_;rotate_left;(intro W hW;unfold bG;go_simp;(with_reducible refine (dF _ _ _ n W (H.out.keep hW.below) (kn ed)).mono ?_);rintro e W' ⟨rfl,bg⟩;first | (refine ⟨?_,aa.trans hW bg⟩;with_reducible rfl) | (subst bg;refine ⟨?_,hW⟩;with_reducible rfl))
 simp only [zA]
 iterate 2 (apply ag rfl;(intro W hW;go_simp;with_reducible rfl);simp only [zA])
 apply aj rfl rfl;(intro hb;intro W hW;go_simp;with_reducible rfl);simp only [zA]
 refine bC (v:=?_) rfl rfl ?_ ?_;rotate_left;(intro hb;intro W hW;unfold bG;go_simp;(with_reducible refine (kt _ W).mono ?_);rintro e W' ⟨rfl,bg⟩;first | (refine ⟨?_,aa.trans hW bg⟩;with_reducible rfl) | (subst bg;refine ⟨?_,hW⟩;with_reducible rfl))
 simp only [zA]
 apply aj rfl rfl;(intro hb;intro W hW;go_simp;with_reducible rfl);simp only [zA]
 (first | refine bu rfl rfl ?_ | (apply ag rfl;(intro W hW;go_simp;with_reducible rfl)));simp only [zA]
 apply ag rfl;(intro W hW;go_simp;with_reducible rfl);simp only [zA]
 apply aj rfl rfl;(intro hb;intro W hW;go_simp;with_reducible rfl);simp only [zA]
 refine bC (v:=?_) rfl rfl ?_ ?_;rotate_left;(intro hb;intro W hW;unfold bG;go_simp;(with_reducible refine (uz _ W).mono ?_);rintro e W' ⟨rfl,bg⟩;first | (refine ⟨?_,aa.trans hW bg⟩;with_reducible rfl) | (subst bg;refine ⟨?_,hW⟩;with_reducible rfl))
 simp only [zA]
 apply aj rfl rfl;(intro hb;intro W hW;go_simp;with_reducible rfl);simp only [zA]
 (first | refine bu rfl rfl ?_ | (apply ag rfl;(intro W hW;go_simp;with_reducible rfl)));simp only [zA]
 apply ag rfl;(intro W hW;go_simp;with_reducible rfl);simp only [zA]
 apply aj rfl rfl;(intro hb;intro W hW;go_simp;with_reducible rfl);simp only [zA]
 refine bC (v:=?_) rfl rfl ?_ ?_;rotate_left;(intro hb;intro W hW;unfold bG;go_simp;(with_reducible refine (dV _ _ _ W).mono ?_);rintro e W' ⟨rfl,bg⟩;first | (refine ⟨?_,aa.trans hW bg⟩;with_reducible rfl) | (subst bg;refine ⟨?_,hW⟩;with_reducible rfl))
 simp only [zA]
 apply aj rfl rfl;(intro hb;intro W hW;go_simp;with_reducible rfl);simp only [zA]
 (first | refine bu rfl rfl ?_ | (apply ag rfl;(intro W hW;go_simp;with_reducible rfl)));simp only [zA]
 intro Wa Eb
 cases hg : (!an n || !ee 1 5 s || !ee 0 999999999999 most || !ee 0 200000 steps)
 ·simp only [Bool.or_eq_false_iff,Bool.not_eq_false'] at hg;have hr : iN n s most steps = true:=by simp [iN,hg.1.1.1,hg.1.1.2,hg.1.2,hg.2]
  have KF:=aM.1 hg.1.1.2;have hm:=aM.1 hg.1.2;have gE:=aM.1 hg.2;have hn:=hg.1.1.1;obtain ⟨R,hR⟩ : ∃ R,R = yj n (accG n s 0) most steps:=⟨_,rfl⟩
  have Hr:=zh (show true = av n s most steps from hr.symm)
  have H1:=zh (show R.2.1 = ap n s most steps by unfold ap;rw [if_pos hr,hR];rfl)
  have H2:=zh (show R.2.2 = aS n s most steps by unfold aS;rw [if_pos hr,hR];rfl)
  have H3:=zh (show R.1 = ay n s most steps by unfold ay;rw [if_pos hr,hR];rfl)
  have HR:=zh hR;have Hn:=zh hn;have q0:=ai eG Eb;have q1:=ai eX Eb;have q2:=ai fb Eb;have Hs:=zh Eb;clear hg hr hn hR Eb;go_upto_region 3 with (fail);refine cm (w0:=Wa) 5 [false,false,false,true,true] (by kernel_rfl) (by kernel_rfl) (ad _) ?_;simp only [d_,dO,zT]
  iterate 3 (apply bB rfl;(intro W hW;go_simp;with_reducible rfl);simp only [zA])
  intro W hW;refine Or.inl ⟨rfl,?_⟩
  go_simp
  (with_reducible refine (pQ _ _ _ n s W (H.out.keep (Hs.out.after hW).below)).mono ?_)
  rintro e W' ⟨rfl,hw⟩
  refine ⟨_,rfl,(show aa Wa W' from aa.after hW (by rw [hw];exact ah _ (ah _ (ad _)))),?_⟩
  replace hW:=(show aa Wa W' from aa.after hW (by rw [hw];exact ah _ (ah _ (ad _))))
  unfold pM
  (try simp only [zA])
  refine dA (v:=?_) rfl ?_ hW ?_;rotate_left;(go_simp;with_reducible rfl)
  simp only [zA];simp only [bA];obtain ⟨b,hb⟩ : ∃ b,b = W.heap.size:=⟨_,rfl⟩
  have s0:=ae (show W'.cell? ⟨b,0,none⟩ = some (.slice A n.ends.length c) by rw [hw,hb];simp)
  have s1:=ae (show W'.cell? ⟨b,1,none⟩ = some (.slice A2 n.ids.length c2) by rw [hw,hb];simp)
  have s2:=ae (show W'.cell? ⟨b,2,none⟩ = some (.slice A3 n.inputs.length c3) by rw [hw,hb];simp)
  have s3:=ae (show W'.cell? ⟨b + 1,0,none⟩ = some (.int .i64 s) by rw [hw,hb];simp)
  have FZ:=zh (Hs.out.after hW);have DO : Hid (sa W' 139 b n most (accG n s 0)):=KE (H.out.keep FZ.out.below) Hn.out KF.1 KF.2 hm.2 s0 s1 s2 s3;obtain ⟨B,hB⟩ : ∃ B,B = W'.heap.size:=⟨_,rfl⟩
  obtain ⟨w3,gY⟩ : ∃ w3,w3 = W'.alloc (.cells #[.slice A n.ends.length c,.slice A2 n.ids.length c2,.slice A3 n.inputs.length c3,pM 139 b,.slice none 0 0] 104):=⟨_,rfl⟩
  have HA : Hid (LS w3 B (.slice A n.ends.length c) (.slice A2 n.ids.length c2) (.slice A3 n.inputs.length c3) (pM 139 b) (.slice none 0 0)):=by
   show (_ : Option _) = _
   rw [gY,hB];show (W'.heap.push _)[W'.heap.size]? = _
   rw [Array.getElem?_push_size]
  have eY : Hid (aa W' w3):=by rw [gY];exact ah _ (ad _)
  have QS : Hid (W'.heap.size ≤ B):=by rw [hB];exact Nat.le_refl _
  have Z6:=zh (H.out.keep FZ.out.below);have sG:=zh gY;have HB:=zh hB;have Hb:=zh hb;unfold pM at sG;clear q0 q1 q2 s0 s1 s2 s3 gY hB hb hw hW;go_upto_region 4 with (fail);rw [← Hb.out,← sG.out,← HB.out];go_wp2_with fail;refine (BB _ _ _ _ n most steps (accG n s 0) 139 B b w3 W' Z6.out eY.out QS.out HA.out Hn.out hm.1 hm.2 gE.1 (by omega) vm DO.out).mono ?_;rw [← HR.out];rintro e w4 ⟨u4,rfl,mf,kD⟩;have sH:=zh mf;have mg:=zh kD;clear mf kD;go_wp2;refine bodyPost_ret (eQ rfl _ _ _) rfl ?_
  exact ⟨_,B0 H1.out H2.out Hr.out,by rw [← H3.out];exact sH.out.mono (Nat.le_trans bv.out.size FZ.out.below.size),aa.after bv.out (FZ.out.after mg.out)⟩
 ·have hr : iN n s most steps = false:=by
   unfold iN
   revert hg
   cases an n <;> cases ee 1 5 s <;> cases ee 0 999999999999 most <;> cases ee 0 200000 steps <;> simp
  have Hr:=zh (show false = av n s most steps from hr.symm)
  have H1:=zh (show 0 = ap n s most steps by unfold ap;rw [if_neg (by rw [hr];simp)])
  have H2:=zh (show 0 = aS n s most steps by unfold aS;rw [if_neg (by rw [hr];simp)])
  have H3:=zh (show [] = ay n s most steps by unfold ay;rw [if_neg (by rw [hr];simp)])
  have HW:=zh Eb;clear hg hr Eb;go_wp2;refine bodyPost_ret (eQ rfl _ _ _) rfl ?_
  exact ⟨_,B0 H1.out H2.out Hr.out,by rw [← H3.out];exact cH _ _,aa.after bv.out HW.out⟩
theorem yy (n : am) : (dW n).length = n.ends.length:=by simp [dW]
theorem zr {n : am} (hn : an n = true) {r v : Nat} (hr : r < n.ends.length) (hv : v < n.ends.length) : -1 ≤ aK n r v ∧ aK n r v < n.ends.length:=by
 have:=y5 hn hr hv
 unfold aK;omega
theorem rN {n : am} (hn : an n = true) {r : Nat} (hr : r < n.ends.length) {w : World} {A : Option Addr} {c : Nat} (h : bD w (.slice A n.ends.length c) (dM n r)) : ∃ b off,A = some ⟨b,off,none⟩ ∧ ∀ x,x < n.ends.length → ∀ W,aa w W → W.cell? ⟨b,off + x,none⟩ = some (.int .i64 (aK n r x)):=by
 obtain ⟨A',c',e,_,_,hA⟩:=h;have hl : (dM n r).length = n.ends.length:=oh hn _ _ _ (BI.start hr);rw [hl] at e;cases e
 obtain ⟨b,off,e,-⟩:=hA 0 ((dM n r).getD 0 0) (by rw [zDd,List.getElem?_eq_getElem (by have:=aN hn;omega)];rfl)
 refine ⟨b,off,e,fun x hx W hW => ?_⟩
 obtain ⟨b',pl,e',hc⟩:=hA x ((dM n r).getD x 0) (by rw [zDd,List.getElem?_eq_getElem (by omega)];rfl)
 rw [e] at e';cases e';exact ae hc W hW
theorem Ii (n : am) (r k : Nat) : (List.range (k + 1)).map (ke n r) = (List.range k).map (ke n r) ++ [ke n r k]:=by rw [List.range_succ,List.map_append];rfl
theorem l8 {n : am} (hn : an n = true) {r : Nat} (hr : r < n.ends.length) : (dM n r).length = n.ends.length:=oh hn _ _ _ (BI.start hr)
theorem KG {n : am} {r x : Nat} (hx : x < n.ends.length) : (BC n r)[x]? = some (ke n r x):=by
 unfold BC
 rw [List.getElem?_map,List.getElem?_range hx];rfl
theorem F5 {w : World} {base : Nat} {u : Value} {xs : List Int} {k : Nat} {x : Int} (h : Own w base u xs) (hx : xs[k]? = some x) : ∃ g c,u = .slice (some ⟨g,0,none⟩) xs.length c ∧ w.cell? ⟨g,k,none⟩ = some (.int .i64 x) ∧ base ≤ g:=by
 rcases h.cases with ⟨-,e1⟩ | ⟨g,c,rfl,ib,oH⟩
 ·rw [e1] at hx;simp at hx
 ·exact ⟨g,c,rfl,h.cell hx,ib⟩
theorem Ij {n : am} (h : an n = true) : n.inputs.length = n.ends.length ∧ ∀ x ∈ n.inputs,0 ≤ x ∧ x ≤ 9:=by
 unfold an jl at h
 simp only [Bool.and_eq_true,List.all_eq_true,beq_iff_eq] at h;exact ⟨by omega,fun x hx => aM.1 (h.1.2.2 x hx)⟩
def QV (n : am) (k : Nat) : Prop:=∀ v,v < k → js n v = true
theorem Ec {n : am} (h : QV n n.ends.length) : fZ n = true:=by
 unfold fZ;rw [List.all_eq_true];exact fun v hv => h v (List.mem_range.1 hv)
theorem KH {f : Nat → Int} (k : Nat) : (List.range (k + 1)).map f = (List.range k).map f ++ [f k]:=by rw [List.range_succ,List.map_append];rfl
theorem B4 {n : am} {w : World} {v : Value} (h : bD w v n.ids) {r : Nat} (hr : r < n.ids.length) : ∃ b off c,v = .slice (some ⟨b,off,none⟩) n.ids.length c ∧ ∀ W,aa w W → W.cell? ⟨b,off + r,none⟩ = some (.int .i64 (n.ids.getD r 0)):=by
 obtain ⟨A',c',e,_,_,hA⟩:=h
 obtain ⟨b,off,e',hc⟩:=hA r (n.ids.getD r 0) (by rw [zDd,List.getElem?_eq_getElem hr];rfl)
 subst e';exact ⟨b,off,c',e,fun W hW => ae hc W hW⟩
theorem mG {N : Nat} {w : World} {A : Option Addr} {c : Nat} {xs : List Int} (h : bD w (.slice A N c) xs) (hl : xs.length = N) (h0 : 0 < N) : ∃ b off,A = some ⟨b,off,none⟩ ∧ ∀ k x,xs[k]? = some x → ∀ W,aa w W → W.cell? ⟨b,off + k,none⟩ = some (.int .i64 x):=by
 obtain ⟨A',c',e,_,_,hA⟩:=h;rw [hl] at e;cases e;obtain ⟨b,off,e,-⟩:=hA 0 xs[0] (List.getElem?_eq_getElem (by omega));refine ⟨b,off,e,fun k x hx W hW => ?_⟩
 obtain ⟨b',pl,e',hc⟩:=hA k x hx;rw [e] at e';cases e';exact ae hc W hW
def QA (W : World) (base g off cap : Nat) (xs : List Int) : Prop:=
 base ≤ g ∧ xs.length ≤ cap ∧ cap ≤ maxLen ∧ ∃ cur : Array Value,W.heap[g]? = some (.cells cur 3 (0,0)) ∧ off + cap ≤ cur.size ∧ ∀ j x,xs[j]? = some x → cur[off + j]? = some (.int .i64 x)
theorem QA.cell {W : World} {base g off cap : Nat} {xs : List Int} (h : QA W base g off cap xs) {j : Nat} {x : Int} (hx : xs[j]? = some x) : W.cell? ⟨g,off + j,none⟩ = some (.int .i64 x):=by
 obtain ⟨-,-,-,cur,h1,-,h3⟩:=h;simp [World.cell?,h1,h3 j x hx]
theorem QA.lt {W : World} {base g off cap : Nat} {xs : List Int} (h : QA W base g off cap xs) : g < W.heap.size:=by
 obtain ⟨-,-,-,cur,h1,-⟩:=h;exact (Array.getElem?_eq_some_iff.1 h1).1
theorem QA.stable {W W' : World} {base g off cap : Nat} {xs : List Int} (h : QA W base g off cap xs) (hs : W'.heap[g]? = W.heap[g]?) : QA W' base g off cap xs:=by
 obtain ⟨h1,h2,h3,cur,h4,h5⟩:=h;exact ⟨h1,h2,h3,cur,hs.trans h4,h5⟩
theorem QA.since {W W' : World} {base g off cap : Nat} {xs : List Int} (h : QA W base g off cap xs) (hs : aa W W') : QA W' base g off cap xs:=h.stable (hs.below.block g h.lt)
theorem QA.other {W : World} {base g off cap : Nat} {xs : List Int} (h : QA W base g off cap xs) {b : Nat} (hb : g ≠ b) (k : Nat) (v : Value) : QA (W.setCell ⟨b,k,none⟩ v) base g off cap xs:=h.stable (Below.heap_setCell W _ v g hb)
theorem QA.tail {W : World} {base g off cap : Nat} {x : Int} {xs : List Int} (h : QA W base g off cap (x :: xs)) : QA W base g (off + 1) (cap - 1) xs:=by
 obtain ⟨h1,h2,h3,cur,h4,h5,h6⟩:=h;rw [List.length_cons] at h2
 exact ⟨h1,by omega,by omega,cur,h4,by omega,fun j y hy => by
  have:=h6 (j + 1) y (by simpa using hy)
  rwa [show off + (j + 1) = off + 1 + j by omega] at this⟩
theorem QA.nil {W : World} {base g off cap : Nat} {xs : List Int} (h : QA W base g off cap xs) : QA W base g off 0 []:=by
 obtain ⟨h1,h2,h3,cur,h4,h5,h6⟩:=h;exact ⟨h1,Nat.le_refl _,Nat.zero_le _,cur,h4,by omega,fun j y hy => by simp at hy⟩
theorem QA.one (W : World) (base : Nat) (x : Int) (h : base ≤ W.heap.size) : QA (W.alloc (.cells #[.int .i64 x] 3)) base W.heap.size 0 1 [x]:=by
 refine ⟨h,Nat.le_refl _,by simp [maxLen],#[.int .i64 x],?_,by simp,fun j y hy => ?_⟩
 ·show (W.heap.push _)[W.heap.size]? = _
  rw [Array.getElem?_push_size]
 ·have:=aq hy
  simp at this
  subst this;simpa using hy
theorem UX {w w0 : World} {ops : Array Oper} {rest : List Oper} {o : Oper} {a : Act} {Q : Exit → Act → World → Prop} (iS : o.guard = none) (s x : Operand)
  (ho : o.op = .call { callee:=.builtin .append,args:=#[s,x],argTypes:=#[25,25] }) {g off cap : Nat} {xs : List Int} (hs : a.eval s = .slice (some ⟨g,off,none⟩) xs.length cap) (h : QA w w0.heap.size g off cap xs) (b : Nat) (y : Int)
  (hx : a.eval x = .slice (some ⟨b,0,none⟩) 1 1) (hc : w.cell? ⟨b,0,none⟩ = some (.int .i64 y)) (hl : xs.length + 1 ≤ 1000000) (ww : aa w0 w)
  (k : ∀ g' pl wO w',QA w' w0.heap.size g' pl wO (xs ++ [y]) → aU [g] w w' → (g' = g ∨ w.heap.size ≤ g') → aa w0 w' → wpList Tryz.prog ops Q rest (a.put o.dst (.slice (some ⟨g',pl,none⟩) (xs.length + 1) wO)) w') : wpList Tryz.prog ops Q (o :: rest) a w:=by
 obtain ⟨i0,hi,kg,eF,eD⟩:=info_parts kr;have hq:=h;obtain ⟨h1,h2,h3,cur,h4,h5,h6⟩:=h
 refine wpList_append_arg w iS s x 25 ho 3 i0 (.int .i64 0) 1 8 Tryz.underlying25 hi kg eF eD rfl (by decide) g off xs.length cap (xs.map (Value.int .i64)) hs (by simp)
  (fun j u hj => by
   rw [List.getElem?_map] at hj
   cases Z7 : xs[j]? with
   | none => rw [Z7] at hj;cases hj
   | some z => rw [Z7] at hj;cases hj;exact hq.cell Z7)
  ⟨b,0,none⟩ 1 1 [.int .i64 y] hx rfl
  (fun j u hj => by
   have:=aq hj
   simp at this
   subst this;simp at hj
   subst hj;rw [Go.Addr.add_lit]
   exact hc)
  (by simp [Value.oneCell'])
  (fun hr j hj => by
   simp at hj
   subst hj;have hlt : off + xs.length * 1 + 0 < cur.size:=by omega
   constructor
   ·simp [World.cell?,h4]
    omega
   ·simp [World.frozen?,h4])
  (by unfold maxLen;omega) (by omega) ?_ ?_
 ·intro hr;have hlt : off + xs.length < cur.size:=by omega
  have e : w.setCells g (off + xs.length * 1) [.int .i64 y] = w.setCell ⟨g,off + xs.length,none⟩ (.int .i64 y):=by rw [Nat.mul_one];rfl
  rw [e]
  refine k g off cap _ ⟨h1,by simp;omega,h3,cur.setIfInBounds (off + xs.length) (.int .i64 y),?_,by simpa using h5,fun j z hj => ?_⟩ ((aU.refl _ _).setCell (.inl (by simp)) _) (.inl rfl) (Below.setCell ww h1 _)
  ·simp [World.setCell,Array.getElem?_modify,h4]
  ·by_cases e2 : j = xs.length
   ·subst e2;simp at hj
    subst hj;simp [hlt]
   ·have xF : xs[j]? = some z:=by
     have wG:=aq hj;rw [List.length_append,List.length_singleton] at wG
     rwa [List.getElem?_append_left (by omega)] at hj
    rw [Array.getElem?_setIfInBounds_ne (by omega)];exact h6 j z xF
 ·intro hr v' w' aY xP;rcases aY.2 with ⟨rfl,hn⟩ | ⟨g',wO,UD,rfl,hb',hg',OT,DA,Z8,IU⟩
  ·omega
  ·refine k g' 0 wO w' ⟨by have:=ww.below.size;omega,by simpa using OT,DA,UD,hg',by omega,fun j z hj => ?_⟩ ((aU.of_grown xP).mono (fun _ h => by simp at h)) (.inr hb') (Below.trans ww ((aU.of_grown xP).below _ ww.below.size (fun _ h => by simp at h)))
   have e3 : (xs.map (Value.int .i64) ++ [.int .i64 y])[j]? = some (.int .i64 z):=by
    have : (xs.map (Value.int .i64) ++ [.int .i64 y]) = (xs ++ [y]).map (Value.int .i64):=by simp
    rw [this,List.getElem?_map,hj];rfl
   rw [← IU] at e3;have hj3:=aq e3;rw [List.getElem?_take] at e3
   split at e3
   ·rw [Nat.zero_add];simpa using e3
   ·cases e3
theorem Own.onlyq {W W' : World} {base g : Nat} {u : Value} {xs : List Int} (h : Own W base u xs) (ho : aU [g] W W') (hd : u.ownBlock ≠ some g) : Own W' base u xs:=
 aO h fun j hj => ho.block j (World.ownsRow.lt h j (by simpa using hj)).2 (fun hs => hd (by simp at hs;subst hs;simpa using hj))
theorem eR (ve vi vn : Value) (n : am) (v : Nat) (w : World) (h : aT w ve vi vn n) (hn : an n = true) (hv : v < n.ends.length) :
  Calls Tryz.prog 123 #[.agg #[ve,vi,vn],.int .i64 v] w fun e w' => ∃ u,e = .returned u ∧ Own w' w.heap.size u (dM n v) ∧ Below w.heap.size w w':=by
 have kE:=aN hn;have Hn:=zh hn
 obtain ⟨w0,A,c,A2,c2,A3,c3,rfl,rfl,rfl,ft,hm,f6,gF,HA,dh,bv,H,eG,eX,fb⟩:=zB h;clear h
 obtain ⟨R,hR⟩ : ∃ R,R = dM n v:=⟨_,rfl⟩
 have HR:=zh hR;rw [← hR];clear hn hR
 go_enter Tryz.func123,Tryz.ntmps123
 go_upto_region 1 with (fail);rw [← dh.out];go_wp2_with fail;refine (lf w0.heap.size 1 (-1) n.ends.length _ kE.1 (by omega) (by simp)).mono ?_;rintro e w1 ⟨u1,rfl,iu,bj⟩;rcases iu.cases with ⟨-,e1⟩ | ⟨g,c1,rfl,ib,oH⟩
 ·have:=congrArg List.length e1;rw [List.length_replicate,List.length_nil] at this;omega
 rw [List.length_replicate] at iu ⊢;have gh : Hid (aa w0 w1):=aa.after (ah _ (ad _)) bj
 have Kc : Hid (w0.heap.size ≤ g):=by show _ ≤ _;have:=ib;simp at this;omega
 have wI : Hid (Own w1 w0.heap.size (.slice (some ⟨g,0,none⟩) n.ends.length c1) (List.replicate n.ends.length (-1))):=iu.mono (by simp);have cz:=wI.out.cell (sX (show v < (List.replicate n.ends.length (-1 : Int)).length by simpa using hv))
 have fz:=wI.out.free v;obtain ⟨w3,gY⟩ : ∃ w3,w3 = w1.setCell ⟨g,v,none⟩ (.int .i64 0):=⟨_,rfl⟩
 have e3 : w3.heap.size = w1.heap.size:=by rw [gY];simp
 have ms : Hid (Own w3 w0.heap.size (.slice (some ⟨g,0,none⟩) n.ends.length c1) (dg n v).1):=by rw [gY];exact wI.out.set (k:=v) 0
 have eY : Hid (aa w0 w3):=by rw [gY];exact Below.setCell gh.out Kc.out _
 obtain ⟨g2,QW⟩ : ∃ g2,g2 = w1.heap.size:=⟨_,rfl⟩
 obtain ⟨w4,gZ⟩ : ∃ w4,w4 = w3.alloc (.cells #[.int .i64 v] 3):=⟨_,rfl⟩
 have sH : Hid (Own w4 w0.heap.size (.slice (some ⟨g,0,none⟩) n.ends.length c1) (dg n v).1):=by rw [gZ];exact ms.out.since (ah _ (ad _))
 have Hq4 : Hid (QA w4 w0.heap.size g2 0 1 ((dg n v).2.drop 0)):=by
  rw [gZ,QW,← e3];exact QA.one w3 _ v eY.out.below.size
 have mg : Hid (aa w0 w4):=by rw [gZ];exact ah _ eY.out
 have OH : g2 ≠ g:=by have:=(World.ownsRow.lt ms.out g rfl).2;omega
 have sG:=zh gY;have FL:=zh gZ;have xo:=zh QW;clear gY gZ QW e3 iu bj ib oH;go_upto_region 4 with (fail);rw [← sG.out,← xo.out,← FL.out];clear cz fz;go_wp2
 go_loopg [6] (n.ends.length + 1) (fun f u wr => ∃ (k : Nat) (st : List Int × List Int) (gu off cu : Nat),u = .slice (some ⟨gu,off,none⟩) (st.2.drop k).length cu ∧ gu ≠ g ∧ BI n.ends.length st ∧ Dk n f st k = R ∧ n.ends.length + 1 ≤ f + k ∧ k ≤ st.2.length ∧ Own wr w0.heap.size (.slice (some ⟨g,0,none⟩) n.ends.length c1) st.1 ∧ QA wr w0.heap.size gu off cu (st.2.drop k) ∧ aa w0 wr)
 case atStart => exact ⟨0,dg n v,g2,0,1,rfl,OH,BI.start hv,HR.out.symm,by omega,Nat.zero_le _,sH.out,Hq4.out,mg.out⟩
 case round =>
  obtain ⟨k,st,gu,off,cu,rfl,OZ,Z9,xM,hf,hk,ho,hq,hs⟩:=hrel;have HBI:=zh Z9;have Db:=zh xM;have Ho:=zh ho;have Hq:=zh hq;have Hs:=zh hs;have I_:=Z9.bd;clear Z9 xM ho hq hs OH
  by_cases hlt : k < st.2.length
  ·obtain ⟨f,rfl⟩ : ∃ f',gk = f' + 1:=⟨gk - 1,by omega⟩
   obtain ⟨x,hx⟩:=aW st.2 k hlt;have DL:=HBI.out.walk x (List.mem_of_getElem? hx);obtain ⟨c',rfl⟩:=Int.eq_ofNat_of_zero_le DL.1;have hc : c' < n.ends.length:=by omega
   have Ft : st.2.drop k = (c' : Int) :: st.2.drop (k + 1):=by
    rw [List.drop_eq_getElem_cons hlt];congr 1
    exact (List.getElem?_eq_some_iff.1 hx).2
   have wJ : Hid (QA wr w0.heap.size gu off cu ((c' : Int) :: st.2.drop (k + 1))):=by rw [← Ft];exact Hq.out
   obtain ⟨ql,Mz⟩ : ∃ ql,ql = (st.2.drop (k + 1)).length:=⟨_,rfl⟩
   have e0 : (st.2.drop k).length = ql + 1:=by rw [Ft,Mz];rfl
   rw [e0];have cx:=wJ.out.cell (j:=0) rfl;rw [Nat.add_zero] at cx
   have iq : ql + 1 ≤ cu:=by have:=wJ.out.2.1;rw [List.length_cons,← Mz] at this;exact this
   have Hxd : Hid (st.2.getD k 0 = (c' : Int)):=by show _ = _;rw [zDd,hx];rfl
   have Hx:=zh hx;have Hql:=zh Mz
   obtain ⟨Yb,eo,SS⟩ : ∃ Yb : Nat,(if cu = 1 then some (⟨gu,off,none⟩ : Addr) else some ⟨gu,off + 1,none⟩) = some ⟨gu,Yb,none⟩ ∧ QA wr w0.heap.size gu Yb (cu - 1) (st.2.drop (k + 1)):=by
    by_cases h1 : cu = 1
    ·refine ⟨off,by rw [if_pos h1],?_⟩
     have hz : st.2.drop (k + 1) = []:=List.eq_nil_of_length_eq_zero (by omega);rw [hz,h1];exact wJ.out.nil
    ·exact ⟨off + 1,by rw [if_neg h1],wJ.out.tail⟩
   have Hq3:=zh SS;obtain ⟨es,cM⟩:=aW n.ends c' hc;obtain ⟨Zh,Pc⟩:=df Hn.out cM;have ml:=zh cM;have UY:=zh Pc;obtain ⟨QX,QY⟩ : ∃ s,s = eJ n c':=⟨_,rfl⟩
   have UZ : Hid (es.map (fun e => e.1) = QX):=by show _ = _;rw [QY,eJ,Int.toNat_natCast,zDd,cM];rfl
   have Z_:=zh QY;have Hfw : Hid (∀ j,∃ ys,((QX.take j).foldl (ch c') st).2 = st.2 ++ ys):=fun j => lQ _ _ _
   obtain ⟨b,Qc,cr,ur,lP,hkr,eS,dG⟩:=jQ H.out.es cM;cases lP;obtain ⟨A1,z1,rfl,eF,eD,lP⟩:=dG;unfold maxLen at eD;have po:=zh lP;have r1:=ai (ae eS) Hs.out;have q0:=eG wr Hs.out;have q5:=r1 wr (ad _);clear hx Ft Mz e0 Hq SS cM Pc QY eS lP;go_upto_region 7 with (fail)
   (try rw [eo])
   clear cx eo;clear iq;go_wp2
   go_loopw [6,34] (fun u i wr => ∃ (j gv ov cv : Nat) (jY : List Int × List Int),j ≤ es.length ∧ i = .int .i64 j ∧ jY = (QX.take j).foldl (ch c') st ∧ u = .slice (some ⟨gv,ov,none⟩) (jY.2.drop (k + 1)).length cv ∧ gv ≠ g ∧ BI n.ends.length jY ∧ Own wr w0.heap.size (.slice (some ⟨g,0,none⟩) n.ends.length c1) jY.1 ∧ QA wr w0.heap.size gv ov cv (jY.2.drop (k + 1)) ∧ aa w0 wr) (fun _ i _ => es.length - (intOf i).toNat)
   case atStart => exact ⟨0,gu,Yb,cu - 1,st,Nat.zero_le _,rfl,rfl,by rw [Hql.out],OZ,HBI.out,Ho.out,Hq3.out,Hs.out⟩
   case round =>
    obtain ⟨j,gv,ov,cv,jY,hj,rfl,JI,rfl,pD,QZ,rt,Pd,XU⟩:=hrel;have KI:=zh QZ;have Ho':=zh rt;have Hq':=zh Pd;have FZ:=zh XU;have NC:=zh JI;have abk:=QZ.bd;clear JI QZ rt Pd XU OZ
    by_cases JN : j < es.length
    ·obtain ⟨⟨x1,x2⟩,hx⟩:=aW es j JN;obtain ⟨b1,qp,rfl,kV,iz⟩:=po.out j _ hx;obtain ⟨i1,i2⟩:=UY.out _ (List.mem_of_getElem? hx);simp only at i1 i2
     obtain ⟨d,rfl⟩:=Int.eq_ofNat_of_zero_le i1;have hd : d < n.ends.length:=by omega
     have hy : QX[j]? = some (d : Int):=by rw [← UZ.out,List.getElem?_map,hx];rfl
     have rj : jY.1.length = n.ends.length:=KI.out.len;have t1:=ae kV wr FZ.out;have t2:=ae iz wr FZ.out;obtain ⟨w8,rl⟩ : ∃ w8,w8 = wr.alloc (.cells #[.int .i64 d,.int .i64 x2] 83):=⟨_,rfl⟩
     obtain ⟨be,me⟩ : ∃ be,be = wr.heap.size:=⟨_,rfl⟩
     have rY : Hid (Own w8 w0.heap.size (.slice (some ⟨g,0,none⟩) n.ends.length c1) jY.1):=by rw [rl];exact Ho'.out.since (ah _ (ad _))
     have Hq8 : Hid (QA w8 w0.heap.size gv ov cv (jY.2.drop (k + 1))):=by rw [rl];exact Hq'.out.since (ah _ (ad _))
     have k_ : Hid (aa w0 w8):=by rw [rl];exact ah _ FZ.out
     have d0 : ∀ W,aa w8 W → W.cell? ⟨be,0,none⟩ = some (.int .i64 d):=ae (by rw [rl,me];simp)
     have dd:=ae (rY.out.cell (sX (show d < jY.1.length by omega)))
     have dc:=ae (rY.out.cell (sX (show c' < jY.1.length by omega)))
     obtain ⟨z,hz⟩ : ∃ z,z = jY.1.getD d 0:=⟨_,rfl⟩
     obtain ⟨q,hq⟩ : ∃ q,q = jY.1.getD c' 0:=⟨_,rfl⟩
     rw [← hz] at dd;rw [← hq] at dc
     have hqb : -1 ≤ q ∧ q < jY.2.length:=by rw [hq];exact KI.out.val _ (List.mem_of_getElem? (sX (show c' < jY.1.length by omega)))
     have cd:=dd w8 (ad _);have ce:=d0 w8 (ad _);have Hz:=zh hz;have Hqd:=zh hq
     have pE : Hid ((QX.take (j + 1)).foldl (ch c') st = ch c' jY d):=by show _ = _;rw [Gx hy,← NC.out]
     have Pe:=zh rj;have Qd:=zh rl;have SO:=zh me;have m3 : IntKind.i64.wrap ((j : Int) + 1) = (j : Int) + 1:=aL _ (by omega) (by omega);clear hz hq hy hx rj rl me kV iz i1;go_upto_region 10 with (fail);rw [← Qd.out,← SO.out];clear t1 t2
     by_cases ry : z < 0
     ·have m4 : IntKind.i64.wrap (q + 1) = q + 1:=aL _ (by omega) (by omega)
      have Q5 : Hid (ch c' jY d = (jY.1.set d (q + 1),jY.2 ++ [(d : Int)])):=by show _ = _;unfold ch;rw [Int.toNat_natCast,Int.toNat_natCast,← Hz.out,if_pos ry,← Hqd.out]
      have HBn : Hid (BI n.ends.length (ch c' jY d)):=KI.out.step (by omega) (by omega);obtain ⟨ys,SZ⟩:=Hfw.out j
      have lq : k + 1 ≤ jY.2.length:=by rw [NC.out,SZ,List.length_append];omega
      have Pf : Hid ((jY.2 ++ [(d : Int)]).drop (k + 1) = jY.2.drop (k + 1) ++ [(d : Int)]):=List.drop_append_of_le_length lq
      have eZ : Hid ((jY.2.drop (k + 1)).length + 1 ≤ 1000000):=by show _ ≤ _;rw [List.length_drop];omega
      have Pg:=zh pD;clear SZ lq;go_upto_region 11 with (fail);refine ao 9 (aa w8) (by kernel_rfl) (by kernel_rfl) (by simp) (ak (ad _)) ?_;simp only [zT]
      iterate 9 (apply ag rfl;(intro W hW;go_simp;with_reducible rfl);simp only [zA])
      intro W hW;have JO:=zh (rY.out.since hW);have HqW:=zh (Hq8.out.since hW);have XM:=zh (k_.out.after hW);have eW:=d0 W hW;have fd:=JO.out.free d;have cdW:=dd W hW;obtain ⟨w9,Aa⟩ : ∃ w9,w9 = W.setCell ⟨g,d,none⟩ (.int .i64 (q + 1)):=⟨_,rfl⟩
      have Fx : Hid (Own w9 w0.heap.size (.slice (some ⟨g,0,none⟩) n.ends.length c1) (jY.1.set d (q + 1))):=by rw [Aa];exact JO.out.set (k:=d) (q + 1)
      have Hq9 : Hid (QA w9 w0.heap.size gv ov cv (jY.2.drop (k + 1))):=by rw [Aa];exact HqW.out.other pD _ _
      have CR : Hid (aa w0 w9):=by rw [Aa];exact Below.setCell XM.out Kc.out _
      have hbg : be ≠ g:=by have:=(World.ownsRow.lt Ho'.out g rfl).2;rw [SO.out];omega
      have e9 : w9.cell? ⟨be,0,none⟩ = some (.int .i64 d):=by
       rw [Aa]
       have:=Below.heap_setCell W ⟨g,d,none⟩ (.int .i64 (q + 1)) be (by simpa using hbg)
       unfold World.cell? at eW ⊢
       rw [this];exact eW
      have Hw9:=zh Aa;clear hW Aa d0 dd dc cd ce hbg;go_upto_region 12 with (fail);rw [← Hw9.out];clear eW fd cdW m4
      go_wp2_with (at_builtin;refine UX rfl _ _ rfl rfl (Hq9.out.since (ah _ (ad _))) w9.heap.size d rfl (by simp [go_sem]) eZ.out (ah _ CR.out) ?_;intro g7 o7 c7 w7 Yc U0 U3 ND)
      have U4 : Hid (Own w7 w0.heap.size (.slice (some ⟨g,0,none⟩) n.ends.length c1) (jY.1.set d (q + 1))):=Own.onlyq (Fx.out.keep (au w9 _)) U0 (by simpa [Value.ownBlock] using Ne.symm Pg.out);have Hq7:=zh Yc;have CY:=zh ND;have Q6:=zh (World.ownsRow.lt Fx.out g rfl).2
      have Hg7 : Hid (g7 ≠ g):=by
       rcases U3 with e | e
       ·rw [e];exact Pg.out
       ·simp at e;exact fun e2 => by have:=Q6.out;omega
      clear Yc U0 U3 ND e9;go_wp2;go_roundw
      case rel => exact ⟨j + 1,g7,o7,c7,ch c' jY d,by omega,by go_num,pE.out.symm,by rw [Q5.out,Pf.out];simp,Hg7.out,HBn.out,by rw [Q5.out];exact U4.out,by rw [Q5.out,Pf.out];exact Hq7.out,CY.out⟩
      case measure => simp [intOf];omega
     ·have U5 : Hid (ch c' jY d = jY):=by show _ = _;unfold ch;rw [Int.toNat_natCast,← Hz.out,if_neg ry]
      clear d0 dd dc;go_wp2;go_roundw
      case rel => exact ⟨j + 1,gv,ov,cv,jY,by omega,by go_num,by rw [pE.out,U5.out],rfl,pD,KI.out,rY.out,Hq8.out,k_.out⟩
      case measure => simp [intOf];omega
    ·obtain rfl : j = es.length:=by omega
     have U6 : QX.length = es.length:=by rw [← UZ.out,List.length_map]
     have Ee : Hid (jY = QX.foldl (ch c') st):=by show _ = _;rw [NC.out,← U6,List.take_length]
     have Hbn : Hid (Dk n f jY (k + 1) = R):=by
      show _ = _
      rw [← Db.out,Dk,if_pos hlt,Hxd.out,← Z_.out,← Ee.out]
     have Hlw : Hid (k + 1 ≤ jY.2.length):=by
      obtain ⟨ys,SZ⟩:=Hfw.out es.length;show _ ≤ _
      rw [NC.out,SZ,List.length_append];omega
     clear U6;go_wp2
     go_roundg f
     case rel => exact ⟨k + 1,jY,gv,ov,cv,rfl,pD,KI.out,Hbn.out,by omega,Hlw.out,Ho'.out,Hq'.out,FZ.out⟩
     case measure => omega
  ·have U7 : st.2.drop k = []:=List.drop_eq_nil_of_le (by omega)
   have zX : Hid (R = st.1):=by
    rw [← Db.out]
    obtain ⟨f,rfl⟩ | h0 : (∃ f',gk = f' + 1) ∨ gk = 0:=by
     rcases Nat.eq_zero_or_pos gk with h | h
     ·exact .inr h
     ·exact .inl ⟨gk - 1,by omega⟩
    ·show Dk _ _ _ _ = _
     rw [Dk,if_neg hlt]
    ·subst h0;exact rfl
   rw [U7];go_wp2;go_ret
   exact ⟨_,rfl,by rw [zX.out];exact Ho.out.mono bv.out.size,aa.after bv.out Hs.out⟩
theorem fj (ve vi vn : Value) (n : am) (w : World) (h : aT w ve vi vn n) (hn : an n = true) :
  Calls Tryz.prog 122 #[.agg #[ve,vi,vn]] w fun e w' => ∃ u,e = .returned u ∧ Own w' w.heap.size u (dW n) ∧ Below w.heap.size w w':=by
 have kE:=aN hn;have KJ:=kE.1;have KK:=kE.2;have Hn:=zh hn
 obtain ⟨w0,A,c,A2,c2,A3,c3,rfl,rfl,rfl,ft,hm,f6,gF,HA,dh,bv,H,eG,eX,fb⟩:=zB h;clear h
 obtain ⟨R,hR⟩ : ∃ R,R = dW n:=⟨_,rfl⟩
 have HR:=zh hR;rw [← hR];clear hn hR
 go_enter Tryz.func122,Tryz.ntmps122
 go_upto_region 1 with (fail);rw [← dh.out];go_wp2_with fail;refine (lf w0.heap.size 1 (-1) n.ends.length _ kE.1 (by omega) (by simp)).mono ?_;rintro e w1 ⟨u1,rfl,iu,bj⟩;rcases iu.cases with ⟨-,e1⟩ | ⟨g,c1,rfl,ib,oH⟩
 ·have:=congrArg List.length e1;rw [List.length_replicate,List.length_nil] at this;omega
 rw [List.length_replicate] at iu ⊢;have gh : Hid (aa w0 w1):=aa.after (ah _ (ad _)) bj
 have Kc : Hid (w0.heap.size ≤ g):=by show _ ≤ _;have:=ib;simp at this;omega
 have Ph : Hid (g < w1.heap.size):=(World.ownsRow.lt iu g (by simp [Value.ownBlock])).2
 have wI : Hid (Own w1 w0.heap.size (.slice (some ⟨g,0,none⟩) n.ends.length c1) (fE n 0 0)):=by rw [AJ];exact iu.mono (by simp)
 clear iu bj ib oH kE;go_wp2
 go_loopw [14] (fun i wr => ∃ k : Nat,k ≤ n.ends.length ∧ i = .int .i64 k ∧ Own wr w0.heap.size (.slice (some ⟨g,0,none⟩) n.ends.length c1) (fE n k 0) ∧ aa w0 wr ∧ g < wr.heap.size) (fun i _ => n.ends.length - (intOf i).toNat)
 case atStart => exact ⟨0,Nat.zero_le _,rfl,wI.out,gh.out,Ph.out⟩
 case round =>
  obtain ⟨k,hk,rfl,ho,cJ,zQ⟩:=hrel;have Ho:=zh ho;have Hs:=zh cJ;have Hg:=zh zQ;clear ho cJ zQ
  by_cases hlt : k < n.ends.length
  ·obtain ⟨x,hx,wE⟩:=AW Hn.out hlt;have cz:=Ho.out.cell hx;have m1 : IntKind.i64.wrap ((k : Int) + 1) = (k : Int) + 1:=aL _ (by omega) (by omega);have Hx:=zh hx;clear hx
   by_cases hr : al n k = k
   ·have xW : ¬ 0 ≤ x:=fun h => wE.1 h hr
    have tW : (0 ≤ x) = False:=by simp [xW]
    have pw : x < 0:=by omega
    have Hr:=zh hr;have Q9:=Hs.out;clear wE hr xW;go_wp2_with fail;refine (eR _ _ _ n k wr (H.out.keep Hs.out.below) Hn.out hlt).mono ?_;obtain ⟨ds,CX⟩ : ∃ ds,ds = dM n k:=⟨_,rfl⟩
    rw [← CX];rintro e w2 ⟨u2,rfl,dL,b_⟩
    have Ja : ds.length = n.ends.length:=by rw [CX];exact oh Hn.out _ _ _ (BI.start hlt)
    obtain ⟨gd,cd,rfl,iS⟩ : ∃ gd cd,u2 = .slice (some ⟨gd,0,none⟩) n.ends.length cd ∧ wr.heap.size ≤ gd:=by
     rcases dL.cases with ⟨-,e1⟩ | ⟨gd,cd,rfl,ib,oH⟩
     ·have:=congrArg List.length e1;rw [List.length_nil] at this;omega
     ·exact ⟨gd,cd,by rw [Ja],ib⟩
    have fS : gd ≠ g:=by have:=Hg.out;omega
    have th:=zh fS;have iU:=zh dL;have cw:=zh (aa.after Hs.out b_);have Hoo:=zh (Ho.out.since b_);have xo : Hid (g < w2.heap.size):=Nat.lt_of_lt_of_le Hg.out b_.size;have Hds:=zh CX;have BV:=zh Ja;clear dL b_ iS fS CX Ja cz Q9;go_wp2
    go_loopw [26] (fun i wq => ∃ j : Nat,j ≤ n.ends.length ∧ i = .int .i64 j ∧ Own wq w0.heap.size (.slice (some ⟨g,0,none⟩) n.ends.length c1) (fE n k j) ∧ Own wq wr.heap.size (.slice (some ⟨gd,0,none⟩) n.ends.length cd) ds ∧ aa w0 wq ∧ g < wq.heap.size) (fun i _ => n.ends.length - (intOf i).toNat)
    case atStart => exact ⟨0,Nat.zero_le _,rfl,Hoo.out,iU.out,cw.out,xo.out⟩
    case round =>
     obtain ⟨j,hj,rfl,hoq,hdq,Jb,hgq⟩:=hrel;have U8:=zh hoq;have Hdq:=zh hdq;have vo:=zh Jb;have Hgq:=zh hgq;clear hoq hdq Jb hgq
     by_cases JN : j < n.ends.length
     ·obtain ⟨d,hd⟩:=aW ds j (by rw [BV.out];exact JN)
      obtain ⟨y,hy⟩:=aW (fE n k j) j (by rw [dU];exact JN)
      have cd1:=Hdq.out.cell hd;have cy:=U8.out.cell hy;have fy:=U8.out.free j
      have yY : (dM n k).getD j 0 = d:=by rw [← Hds.out];exact aH hd
      have m2 : IntKind.i64.wrap ((j : Int) + 1) = (j : Int) + 1:=aL _ (by omega) (by omega)
      by_cases h0 : 0 ≤ d
      ·have Hp:=zh (Dn Hn.out hlt JN Hr.out (by rw [yY];exact h0))
       have h1 : (0 ≤ d) = True:=by simp [h0]
       clear hd hy yY;go_wp2;go_roundw
       case rel => exact ⟨j + 1,by omega,by first | rfl | go_num,by rw [← Hp.out];exact U8.out.set (k:=j) (k : Int),M1 Hdq.out (by simp [Value.ownBlock,th.out]) _,Below.setCell vo.out Kc.out _,by simpa using Hgq.out⟩
       case measure => simp [intOf];omega
      ·have Hp:=zh (AX Hn.out hlt JN Hr.out (by rw [yY];exact h0))
       have h1 : (0 ≤ d) = False:=by simp [h0]
       have h2 : d < 0:=by omega
       clear hd hy yY h0;go_wp2;go_roundw
       case rel => exact ⟨j + 1,by omega,by first | rfl | go_num,by rw [← Hp.out];exact U8.out,Hdq.out,vo.out,Hgq.out⟩
       case measure => simp [intOf];omega
     ·obtain rfl : j = n.ends.length:=by omega
      have pE:=zh (AK n k);clear hj JN;go_wp2;go_roundw
      case rel => exact ⟨k + 1,by omega,by first | rfl | go_num,by rw [← pE.out];exact U8.out,vo.out,Hgq.out⟩
      case measure => simp [intOf];omega
   ·have xW : 0 ≤ x:=wE.2 hr;have tW : (0 ≤ x) = True:=by simp [xW]
    have Hsk:=zh (AM Hn.out hlt hr);clear wE hr;go_wp2;go_roundw
    case rel => exact ⟨k + 1,by omega,by first | rfl | go_num,by rw [← Hsk.out];exact Ho.out,Hs.out,Hg.out⟩
    case measure => simp [intOf];omega
  ·obtain rfl : k = n.ends.length:=by omega
   have He:=zh (Dm n (j:=0) Hn.out);clear hk hlt;go_wp2;go_ret
   exact ⟨_,rfl,by rw [HR.out,← He.out];exact Ho.out.mono bv.out.size,aa.after bv.out Hs.out⟩
open Go.Maps (Keyed)
def kI (p : Nat) : Lit:=.int .i64 (p : Int)
def lI (z : Int) : DataW Unit:=.lit (.int .i64 z)
theorem vq {p q : Nat} (h : kI p = kI q) : p = q:=by
 unfold kI at h
 injection h with _ h
 exact Int.ofNat.inj h
theorem rO (p : Nat) : WideAt.IsKeyLit (kI p):=trivial
theorem B5 : Keyed Tryz.prog 3:=Go.Maps.int_keyed Tryz.underlying3
theorem U9 (w : World) : (zeroValue 3).run Tryz.prog w = .ok (.int .i64 0) w:=by kernel_rfl
theorem NE {p : Nat} (hp : p ≤ 1000000) : keyOf Tryz.prog 3 (.int .i64 (p : Int)) = some (kI p):=Go.Maps.keyOf_int_mk Tryz.underlying3 (WalkArith.wf_i64 (by omega))
theorem Below.ownsMap {w w' : World} {P : Program} {k : TypeId} {R : Value → Option (DataW Unit × List MemPlace)} {b n : Nat} {D : DataW Unit} (h : w.ownsMap P k R b n D) (hb : Below w.heap.size w w') : w'.ownsMap P k R b n D:=by
 have hl:=h.lt;obtain ⟨es,U_,h1,h2⟩:=h;exact ⟨es,U_,(hb.block b hl).trans h1,h2⟩
theorem Ef {w : World} {ops : Array Oper} {rest : List Oper} {o : Oper} {a : Act} {Q : Exit → Act → World → Prop} (hg : o.guard = none) (m x : Operand) (wt : o.op = Op.lookup 114 m x false) (b n : Nat) (D : DataW Unit)
  (hm : a.eval m = .map (some b)) (aY : w.ownsMap Tryz.prog 3 (plainElem (H:=Unit) Tryz.prog 3) b n D) (p : Nat) (hp : p ≤ 1000000) (hx : a.eval x = .int .i64 (p : Int)) (y : Int) (hy : D.atKey (kI p) (lI 0) = lI y)
  (hK : wpList Tryz.prog ops Q rest (a.put o.dst (.int .i64 y)) w) : wpList Tryz.prog ops Q (o :: rest) a w:=
 wpList_lookup_own_int w hg m x 114 wt 3 3 .i64 B5 Tryz.underlying114 Tryz.underlying3 (U9 w) b n D hm aY _ _ hx (NE hp) (fun c I9 _ => by
  have e : lI y = lI c:=hy.symm.trans I9
  unfold lI at e
  injection e with e
  injection e with _ e
  subst e
  exact hK)
theorem B6 {w : World} {ops : Array Oper} {rest : List Oper} {o : Oper} {a : Act} {Q : Exit → Act → World → Prop} (hg : o.guard = none) (m x v : Operand) (wt : o.op = Op.mapUpdate 114 m x v) (b n : Nat) (D : DataW Unit)
  (hm : a.eval m = .map (some b)) (aY : w.ownsMap Tryz.prog 3 (plainElem (H:=Unit) Tryz.prog 3) b n D) (hn : n ≤ 1000000) (p : Nat) (hp : p ≤ 1000000) (hx : a.eval x = .int .i64 (p : Int)) (y : Int) (hv : a.eval v = .int .i64 y) (hy : -9223372036854775808 ≤ y ∧ y ≤ 9223372036854775807)
  (hK : ∀ w',w'.ownsMap Tryz.prog 3 (plainElem (H:=Unit) Tryz.prog 3) b (n + 1) (D.put (kI p) (lI y)) → w.grownBy w' (some b) → wpList Tryz.prog ops Q rest (a.put o.dst undef) w') : wpList Tryz.prog ops Q (o :: rest) a w:=
 wpList_mapUpdate_own w hg m x v 114 wt 3 3 B5 Tryz.underlying114 (plainElem (H:=Unit) Tryz.prog 3) b n D hm aY (by unfold maxLen;omega) _ _ (kI p) hx hv (NE hp) (lI y) [] (plainElem_int Tryz.underlying3 (WalkArith.wf_i64 hy)) hK
structure qY (n : am) (k : Nat) (D : DataW Unit) : Prop where
 map : Maps.IsMap D
 val : ∀ p : Nat,D.atKey (kI p) (lI 0) = lI (jU n p k : Nat)
 keys : ∀ kl,Maps.has D kl = true → ∃ v,v < k ∧ kl = kI (al n v)
 all : ∀ v,v < k → Maps.has D (kI (al n v)) = true
theorem qY.zero (n : am) : qY n 0 (.map []) where
 map:=Maps.isMap_empty
 val:=fun p => by simp [jU,DataW.atKey]
 keys:=fun kl h => by simp [Maps.has] at h
 all:=fun v hv => by omega
theorem qY.put {n : am} {k : Nat} {D : DataW Unit} (h : qY n k D) : qY n (k + 1) (D.put (kI (al n k)) (lI ((jU n (al n k) k : Nat) + 1))) where
 map:=h.map.put _ _
 val:=fun p => by
  by_cases e : p = al n k
  ·subst e;rw [Maps.atKey_put_same h.map (rO _),sc,if_pos rfl];simp
  ·rw [Maps.atKey_put_other (fun e2 => e (vq e2)),h.val,sc,if_neg (fun e2 => e e2.symm)]
   simp
 keys:=fun kl hk => by
  by_cases e : kl = kI (al n k)
  ·exact ⟨k,by omega,e⟩
  ·rw [Maps.has_put_other e] at hk;obtain ⟨v,hv,e2⟩:=h.keys kl hk;exact ⟨v,by omega,e2⟩
 all:=fun v hv => by
  by_cases e : kI (al n v) = kI (al n k)
  ·rw [e];exact Maps.has_put_same h.map (rO _) _
  ·rw [Maps.has_put_other e]
   exact h.all v (by
    apply Decidable.byContradiction
    intro hc
    exact e (by rw [show v = k by omega]))
theorem pR (ve vi vn : Value) (n : am) (w : World) (h : aT w ve vi vn n) (hn : an n = true) :
  Calls Tryz.prog 81 #[.agg #[ve,vi,vn]] w fun e w' => ∃ b D,e = .returned (.map (some b)) ∧ w'.ownsMap Tryz.prog 3 (plainElem (H:=Unit) Tryz.prog 3) b n.ends.length D ∧ qY n n.ends.length D ∧ w.heap.size ≤ b ∧ Below w.heap.size w w':=by
 have kE:=aN hn;have KJ:=kE.1;have KK:=kE.2;have Hn:=zh hn
 obtain ⟨w0,A,c,A2,c2,A3,c3,rfl,rfl,rfl,ft,hm,f6,gF,HA,dh,bv,H,eG,eX,fb⟩:=zB h;clear h
 clear hn kE;have hmm:=@run_makeMap Tryz.prog;obtain ⟨b,bj⟩ : ∃ b,b = w.heap.size + 1:=⟨_,rfl⟩
 have hb : b = w0.heap.size:=by rw [bj,dh.out];simp
 have gG:=zh bj;obtain ⟨w1,py⟩ : ∃ w1,w1 = w0.alloc (.map #[] 0):=⟨_,rfl⟩
 have dm : aa w0 w1:=by rw [py];exact ah _ (ad _)
 have wI : Hid (w1.ownsMap Tryz.prog 3 (plainElem (H:=Unit) Tryz.prog 3) b 0 (.map [])):=by rw [py,hb];exact World.ownsMap_made _ _ _ _
 have gh:=zh dm;have Hb:=zh hb;have Q_:=zh py
 have xN : Hid (w0.heap.size ≤ b):=by rw [hb];exact Nat.le_refl _
 clear py hb bj
 go_enter Tryz.func81,Tryz.ntmps81
 go_upto_region 2 with (fail);rw [← dh.out,← Q_.out,← gG.out];go_wp2_with fail;refine (fj _ _ _ n w1 (H.out.keep gh.out.below) Hn.out).mono ?_;rintro e w2 ⟨u2,rfl,dL,b_⟩
 obtain ⟨gc,cc,rfl⟩ : ∃ gc cc,u2 = .slice (some ⟨gc,0,none⟩) n.ends.length cc:=by
  obtain ⟨x,hx⟩:=aW (dW n) 0 (by simp [dW];omega)
  obtain ⟨g,c,h1,-⟩:=F5 dL hx
  exact ⟨g,c,by rw [h1];simp [dW]⟩
 have iU:=zh dL;have je:=zh (Below.ownsMap wI.out b_)
 have cw : Hid (Below b w0 w2):=(gh.out.below.mono (by have:=Hb.out;omega)).trans (b_.mono (by have:=wI.out.lt;omega))
 have Mw : Hid (b < w1.heap.size):=wI.out.lt;clear dL b_ dm hmm;go_wp2
 go_loopw [10] (fun i wr => ∃ k D,k ≤ n.ends.length ∧ i = .int .i64 (k : Nat) ∧ wr.ownsMap Tryz.prog 3 (plainElem (H:=Unit) Tryz.prog 3) b k D ∧ qY n k D ∧ Own wr w1.heap.size (.slice (some ⟨gc,0,none⟩) n.ends.length cc) (dW n) ∧ Below b w0 wr) (fun i _ => n.ends.length - (intOf i).toNat)
 case atStart => exact ⟨0,_,Nat.zero_le _,rfl,je.out,qY.zero n,iU.out,cw.out⟩
 case round =>
  obtain ⟨k,D,hk,rfl,hm,Bt,hc,hs⟩:=hrel;have Hm:=zh hm;have zW:=zh Bt;have Hc:=zh hc;have Hs:=zh hs;clear hm Bt hc hs
  by_cases hlt : k < n.ends.length
  ·have m3 : IntKind.i64.wrap ((k : Int) + 1) = (k : Int) + 1:=aL _ (by omega) (by omega);obtain ⟨p,hp⟩ : ∃ p,al n k = p:=⟨_,rfl⟩
   have za : p ≤ 1000000:=by rw [← hp];have:=cK Hn.out hlt;omega
   have c1:=Hc.out.cell (show (dW n)[k]? = some (p : Int) by rw [← hp];unfold dW;rw [List.getElem?_map,List.getElem?_range hlt];rfl)
   have Hp:=zh hp;obtain ⟨z,hz⟩ : ∃ z,jU n p k = z:=⟨_,rfl⟩
   have hzk : z ≤ k:=by rw [← hz];exact G_ n p k
   have hv:=zW.out.val p;rw [hz] at hv;have Hv:=zh hv;have m4 : IntKind.i64.wrap ((z : Int) + 1) = (z : Int) + 1:=aL _ (by omega) (by omega)
   have pE : Hid (qY n (k + 1) (D.put (kI p) (lI ((z : Int) + 1)))):=by have:=zW.out.put;rw [hp,hz] at this;exact this
   have IQ : k ≤ 1000000:=by omega
   have Yd : -9223372036854775808 ≤ (z : Int) + 1 ∧ (z : Int) + 1 ≤ 9223372036854775807:=by omega
   clear hp hz hv
   go_wp2_with (first | (at_lookup;refine Ef rfl _ _ rfl b k D rfl Hm.out p za rfl (z : Int) Hv.out ?_) | (at_mapUpdate;refine B6 rfl _ _ _ rfl b k D rfl Hm.out IQ p za rfl ((z : Int) + 1) rfl Yd ?_;intro w3 B7 vr;have ph:=zh B7;have MA:=zh vr;clear B7 vr))
   go_roundw
   case rel => exact ⟨k + 1,_,by omega,by first | rfl | go_num,ph.out,pE.out,aO Hc.out (fun j hj => by
     have h5:=World.ownsRow.lt Hc.out j (by simpa using hj);have h6:=Mw.out
     exact MA.out.block j h5.2 (fun e => by simp only [Option.some.injEq] at e;omega)),Below.grown Hs.out MA.out (Nat.le_trans (Nat.le_of_lt Hm.out.lt) (Nat.le_refl _)) (fun j hj => by simp only [Option.some.injEq] at hj;omega)⟩
   case measure => simp [intOf];omega
  ·obtain rfl : k = n.ends.length:=by omega
   clear hk hlt;go_wp2;go_ret;exact ⟨b,D,rfl,Hm.out,zW.out,Nat.le_trans bv.out.size xN.out,Below.trans bv.out (Hs.out.mono (Nat.le_trans bv.out.size xN.out))⟩
end Go.Proofs.YtgmdpppljkmabaaGreat
