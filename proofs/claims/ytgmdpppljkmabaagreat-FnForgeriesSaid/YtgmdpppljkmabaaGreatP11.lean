/- Parts of the proof: walks of functions and plain laws. -/
import Derived.Test.YtgmdpppljkmabaaGreatP0
import Derived.Test.YtgmdpppljkmabaaGreatP1
import Derived.Test.YtgmdpppljkmabaaGreatP10
import Derived.Test.YtgmdpppljkmabaaGreatP5
import Derived.Test.YtgmdpppljkmabaaGreatP7
import Derived.Test.YtgmdpppljkmabaaGreatP3
set_option maxRecDepth 100000
set_option maxHeartbeats 16000000
namespace Go.Proofs.YtgmdpppljkmabaaGreat
open Go Go.RowKit
def LS (W : World) (B : Nat) (ve vi vn va vl : Value) : Prop:=W.heap[B]? = some (.cells #[ve,vi,vn,va,vl] 104)
section
variable {W W' : World} {B : Nat} {ve vi vn va vl : Value}
theorem LS.c0 (h : LS W B ve vi vn va vl) : W.cell? ⟨B,0,none⟩ = some ve:=by unfold LS at h;simp [World.cell?,h]
theorem LS.c1 (h : LS W B ve vi vn va vl) : W.cell? ⟨B,1,none⟩ = some vi:=by unfold LS at h;simp [World.cell?,h]
theorem LS.c2 (h : LS W B ve vi vn va vl) : W.cell? ⟨B,2,none⟩ = some vn:=by unfold LS at h;simp [World.cell?,h]
theorem LS.c3 (h : LS W B ve vi vn va vl) : W.cell? ⟨B,3,none⟩ = some va:=by unfold LS at h;simp [World.cell?,h]
theorem LS.c4 (h : LS W B ve vi vn va vl) : W.cell? ⟨B,4,none⟩ = some vl:=by unfold LS at h;simp [World.cell?,h]
theorem LS.fz (h : LS W B ve vi vn va vl) (k : Nat) : W.frozen? ⟨B,k,none⟩ = false:=by unfold LS at h;simp [World.frozen?,h]
theorem LS.lt (h : LS W B ve vi vn va vl) : B < W.heap.size:=(Array.getElem?_eq_some_iff.1 h).1
theorem LS.since (h : LS W B ve vi vn va vl) (hs : aa W W') : LS W' B ve vi vn va vl:=(hs.below.block B h.lt).trans h
theorem LS.other (h : LS W B ve vi vn va vl) {b' : Nat} (hb : B ≠ b') (i : Nat) (v : Value) : LS (W.setCell ⟨b',i,none⟩ v) B ve vi vn va vl:=(Below.heap_setCell W _ v B hb).trans h
theorem LS.setL (h : LS W B ve vi vn va vl) (I3 : Value) : LS (W.setCell ⟨B,4,none⟩ I3) B ve vi vn va I3:=by
 unfold LS at *
 simp [World.setCell,Array.getElem?_modify,h]
end
def sa (w0 : World) (dR : FuncId) (b : Nat) (n : am) (most : Int) (acc : List Int → Nat → Bool) : Prop:=
 ∀ W vl ls k,aa w0 W → bD W vl ls → ls.length = n.ends.length → k < n.ends.length → (∀ x ∈ ls.getD k 0 :: aw ls (n.ends.getD k []),0 ≤ x ∧ x ≤ most) →
  Calls Tryz.prog dR #[vl,.int .i64 k,.pointer (some ⟨b,0,none⟩),.pointer (some ⟨b + 1,0,none⟩)] W fun e w' => e = .returned (.bool (acc ls k)) ∧ Below W.heap.size W w'
theorem sa.use {w0 : World} {dR : FuncId} {b : Nat} {n : am} {most : Int} {acc : List Int → Nat → Bool} (h : sa w0 dR b n most acc) (W : World) (vl : Value) (ls : List Int) (k : Nat) (h1 : aa w0 W) (h2 : bD W vl ls) (h3 : ls.length = n.ends.length) (h4 : k < n.ends.length) (h5 : ∀ x ∈ ls.getD k 0 :: aw ls (n.ends.getD k []),0 ≤ x ∧ x ≤ most) :
  Calls Tryz.prog dR #[vl,.int .i64 k,.pointer (some ⟨b,0,none⟩),.pointer (some ⟨b + 1,0,none⟩)] W fun e w' => e = .returned (.bool (acc ls k)) ∧ Below W.heap.size W w':=h W vl ls k h1 h2 h3 h4 h5
def pM (dR : FuncId) (b : Nat) : Value:=.func (.func dR) #[] #[.pointer (some ⟨b,0,none⟩),.pointer (some ⟨b + 1,0,none⟩)]
theorem iJ (ve vi vn : Value) (n : am) (w : World) (h : aT w ve vi vn n) (hN : 1 ≤ n.ends.length) (G7 : n.ends.length ≤ 1000000) :
  Calls Tryz.prog 140 #[.agg #[ve,vi,vn]] w fun e w' => ∃ u,e = .returned u ∧ Own w' w.heap.size u (List.replicate n.ends.length (-1)) ∧ Below w.heap.size w w':=by
 obtain ⟨w0,A,c,A2,c2,A3,c3,rfl,rfl,rfl,ft,hm,f6,gF,HA,dh,bv,H,eG,eX,fb⟩:=zB h;clear h
 go_enter Tryz.func140,Tryz.ntmps140
 go_upto_region 1 with (fail);rw [← dh.out];go_wp2_with fail;refine (lf w0.heap.size 1 (-1) n.ends.length _ hN G7 (by simp)).mono ?_;rintro e w1 ⟨u,rfl,ho,hb⟩;have Ho:=zh ho;have Hb : Hid (aa w0 w1):=aa.after (ah _ (ad _)) hb;clear ho hb;go_wp2;go_ret
 exact ⟨_,rfl,Ho.out.mono (by have:=bv.out.size;simp;omega),aa.after bv.out Hb.out⟩
theorem zg (ve vi vn va vl : Value) (n : am) (ls : List Int) (B x : Nat) (w : World) (h : aT w ve vi vn n) (hl : bD w vl ls) (ha : LS w B ve vi vn va vl) (hn : an n = true) (hx : x < n.ends.length) (p_ : ls.length = n.ends.length) :
  Calls Tryz.prog 198 #[.pointer (some ⟨B,0,none⟩),.int .i64 x] w fun e w' => e = .returned (.bool (nz n ls x)) ∧ Below w.heap.size w w':=by
 have H:=zh h;have HL:=zh hl;obtain ⟨n1,n2,n3,-,-⟩:=my hn hx;obtain ⟨es,cM⟩ : ∃ es,es = n.ends.getD x []:=⟨_,rfl⟩
 rw [← cM] at n1 n2 n3;have ml:=zh cM;have N1:=zh n1
 have N3:=zh (show ∀ e ∈ es,0 ≤ e.1 ∧ e.1 < ls.length from fun e he => by rw [p_];exact n3 e he)
 have lh : es.length ≤ 1000000:=by omega
 clear cM;obtain ⟨_,bl,ol,cl,y,e0,rfl,lq,lu,-,hd⟩:=eV hl (x:=(x : Int)) (by omega) (by omega);obtain rfl : x = _:=by exact Int.ofNat.inj e0
 have hy : ls.getD x 0 = y:=by rw [zDd,lu];rfl
 have q0:=ae ha.c0;have q1:=ae ha.c1;have q2:=ae ha.c2;have q4:=ae ha.c4;have qd:=ae hd;obtain ⟨⟨A,c,rfl,ft,hm,_⟩,⟨A2,oK,rfl,_,ly,_⟩,⟨A3,pc,rfl,_,rF,_⟩⟩:=h;have AG : x < ls.length:=by omega
 clear ha hn n1 n2 n3 e0 lu hd hl p_
 by_cases yW : 0 ≤ y
 ·have Hk : Hid (nz n ls (x : Int) = !jP (aw ls es) (-1)):=by
   show _ = _
   unfold nz jP
   rw [Int.toNat_natCast,hy,← ml.out];simp [yW]
  clear hy
  go_enter Tryz.func198,Tryz.ntmps198
  go_upto_region 1 with (fail);refine cm (w0:=w) 22 [false,false,false,false,false,false,false,false,false,false,false,false,false,false,false,false,false,false,true,true,true,true] (by kernel_rfl) (by kernel_rfl) (ad _) ?_;simp only [d_,dO,zT]
  iterate 18 (apply bB rfl;(intro W hW;go_simp;with_reducible rfl);simp only [zA])
  intro W hW;refine Or.inl ⟨rfl,?_⟩
  go_simp
  (with_reducible refine (kA _ _ _ _ n ls x _ W (H.out.keep hW.below) (HL.out.keep hW.below) N1.out lh N3.out).mono ?_)
  rintro e W' ⟨u,rfl,ho,hb⟩;refine ⟨_,rfl,hW.trans hb,?_⟩
  replace hW:=hW.trans hb
  have HI:=zh ho.ints;clear ho hb
  (try simp only [zA])
  refine Or.inl ⟨rfl,?_⟩
  go_simp
  (with_reducible refine (jr _ _ (-1) _ HI.out).mono ?_)
  rintro e W' ⟨rfl,hw⟩;refine ⟨_,rfl,hw ▸ hW,?_⟩
  replace hW:=hw ▸ hW
  clear hw
  (try simp only [zA])
  refine dA (v:=?_) rfl ?_ hW ?_;rotate_left;(go_simp;with_reducible rfl)
  simp only [zA]
  refine dA (v:=?_) rfl ?_ hW ?_;rotate_left;(go_simp;with_reducible rfl)
  simp only [zA];simp only [bA];have HW:=zh hW;clear q0 q1 q2 q4 qd hW;go_wp2;go_ret;exact ⟨congrArg (fun b => Ending.returned (.bool b)) Hk.out.symm,HW.out⟩
 ·have Hk : Hid (nz n ls (x : Int) = false):=by
   show _ = _
   unfold nz;rw [Int.toNat_natCast,hy];simp only [Bool.and_eq_false_iff,decide_eq_false_iff_not];exact .inl yW
  have hyd : decide (0 ≤ y) = false:=by simpa using yW
  clear hy
  go_enter Tryz.func198,Tryz.ntmps198
  go_upto_region 1 with (fail);refine ao 22 (aa w) (by kernel_rfl) (by kernel_rfl) (by simp) (ak (ad _)) ?_;simp only [zT]
  iterate 9 (apply ag rfl;(intro W hW;go_simp;with_reducible rfl);simp only [zA])
  iterate 12 (refine km rfl rfl (by simp [*]) ?_;simp only [zA])
  (first | refine bJ rfl rfl ?_ | (apply ag rfl;(intro W hW;go_simp;with_reducible rfl)));simp only [zA]
  intro W hW;have HW:=zh hW;clear q0 q1 q2 q4 qd hW;go_wp2;go_ret;exact ⟨congrArg (fun b => Ending.returned (.bool b)) Hk.out.symm,HW.out⟩
theorem G8 {N : Nat} {es : List (Int × Int)} (h : ∀ e ∈ es,0 ≤ e.1 ∧ e.1 < N) : aw (gJ N) es = es.map fun e => e.1:=by
 unfold aw;apply List.map_congr_left
 intro e he;obtain ⟨h1,h2⟩:=h e he;rw [zDd,AE (by omega)];simp
 omega
theorem G9 (ve vi vn vl : Value) (n : am) (most : Int) (acc : List Int → Nat → Bool) (dR : FuncId) (ls : List Int) (B b v : Nat) (w w0 : World) (h : aT w ve vi vn n) (hl : bD w vl ls) (ha : LS w B ve vi vn (pM dR b) vl) (hn : an n = true) (hv : v < n.ends.length) (hU : Up n.ends.length most ls v)
  (d9 : ∀ args w,(callFunc dR args).run Tryz.prog w = .ok (.enter dR args) w) (BA : sa w0 dR b n most acc) (ck : aa w0 w) :
  Calls Tryz.prog 141 #[.pointer (some ⟨B,0,none⟩),.int .i64 v] w fun e w' => e = .returned (.bool (eC n acc ls v)) ∧ Below w.heap.size w w':=by
 have H:=zh h;have HL:=zh hl;have HA:=zh ha;have eg:=d9;have DO:=zh BA;have dh:=zh ck;have uh:=(aN hn).2;obtain ⟨n1,n2,n3,-,-⟩:=my hn hv;obtain ⟨es,cM⟩ : ∃ es,es = n.ends.getD v []:=⟨_,rfl⟩
 rw [← cM] at n1 n2 n3;obtain ⟨vw,I4⟩ : ∃ x,x = mM n v:=⟨_,rfl⟩
 have hvl : vw.length = es.length + 1:=by rw [I4,yi,← cM];simp
 have OY:=zh I4
 have Hvs : Hid (vw = aw (gJ n.ends.length) es ++ [(v : Int)]):=by
  show _ = _
  rw [I4,mM,← cM,G8 n3]
 have N1:=zh n1
 have N3:=zh (show ∀ e ∈ es,0 ≤ e.1 ∧ e.1 < (gJ n.ends.length).length by rw [fe];exact n3)
 have Hn:=zh hn;have HU:=zh hU;have zf:=zh hU.len;have q0:=ae ha.c0;have q1:=ae ha.c1;have q2:=ae ha.c2;have q3:=ae ha.c3;have q4:=ae ha.c4;obtain ⟨AL,cL,rfl,sA,mn,_⟩:=hl;obtain ⟨⟨A,c,rfl,ft,hm,_⟩,⟨A2,oK,rfl,_,ly,_⟩,⟨A3,pc,rfl,_,rF,_⟩⟩:=h;have Uu : aw (gJ n.ends.length) es ++ [(v : Int)] = vw:=Hvs.out.symm;have kE : (aw (gJ n.ends.length) es).length = es.length:=by simp [aw]
 have Nj:=zh Uu;have Uv:=zh kE;have Qt : ls.length = n.ends.length:=zf.out;clear ha hn n1 n3 hU I4 cM d9 BA ck Uu kE;obtain ⟨nl,Uw⟩ : ∃ x,x = ls.length:=⟨_,rfl⟩
 rw [Qt] at Uw;subst Uw;rw [Qt] at q4 HL HA sA;clear Qt
 go_enter Tryz.func141,Tryz.ntmps141
 go_upto_region 1 with (fail);refine nq (w0:=w) 17 [0,0,0,0,0,0,0,0,0,0,1,1,0,2,3,3,0] (fun _ W u => yV v W u) (fun _ W W' u h hs => h.keep hs) (by kernel_rfl) (by kernel_rfl) (ad _) ?_
 rw [show rC 2 ([0,0,0,0,0,0,0,0,0,0,1,1,0,2,3,3,0] : List Nat) = [13] from by decide]
 simp only [jR,List.take_succ_cons,List.take_zero,List.drop_succ_cons,List.drop_zero,if_true,if_false,reduceCtorEq,Nat.reduceEqDiff,reduceIte,Nat.zero_ne_one,Nat.one_ne_zero]
 iterate 12 (apply bB rfl;(intro W hW;go_simp;with_reducible rfl);simp only [zA])
 refine ⟨?_,?_⟩
 ·intro j hj;obtain rfl:=List.mem_singleton.1 hj
  intro o ho;cases ho;refine ⟨rfl,fun W hW => ?_⟩
  unfold ku
  go_simp
  all_goals (first | exact yV.new _ _ _ | exact ⟨yV.new _ _ _,ah _ (ad _)⟩)
 intro W hW;intro W1 h1;have DP:=aa.after hW h1;refine ⟨rfl,?_⟩
 go_simp
 (with_reducible refine (jm n.ends.length (by omega) W1).mono ?_)
 rintro e W ⟨u,rfl,ho,hb⟩;refine ⟨_,rfl,hb,?_⟩;have hW:=DP.after (hb)
 have HO:=zh ho;clear ho hb
 (try simp only [zA])
 intro W1 h1;have DP:=aa.after hW h1;refine ⟨rfl,?_⟩
 go_simp
 (with_reducible refine (kA _ _ _ _ n (gJ n.ends.length) v es W1 (H.out.keep DP.below) (HO.out.since h1).ints N1.out (by omega) N3.out).mono ?_)
 rintro e W ⟨u,rfl,ho,hb⟩;refine ⟨_,rfl,hb,?_⟩;have hW:=DP.after (hb)
 have HP:=zh (ho.mono (aa.below DP).size);clear ho hb
 (try simp only [zA])
 intro us W h1 hU;have hW:=aa.after hW h1;have Qu : (fun _ W u => yV v W u) 13 W (us 13):=by first | exact hU 13 (by simp) | exact hU
 (try simp only [] at Qu)
 simp only [cj,zG]
 (try simp only [zA])
 obtain ⟨u13,Ux⟩ : ∃ x,x = us 13:=⟨_,rfl⟩
 rw [← Ux] at Qu ⊢;clear Ux;clear hU us
 obtain ⟨gu,rfl,OZ⟩:=Qu;have Mr:=zh (HP.out.since h1)
 refine dP (fun Q' HQ => ?_)
 (refine ic (w0:=w) rfl _ _ rfl rfl Mr.out gu v rfl OZ (by rw [Uv.out];omega) hW ?_);intro g cc w3 ie iB;refine HQ _ _ iB ?_;have ms:=zh ie;replace hW : aa w w3:=iB;clear ie iB
 (try simp only [zA])
 refine dA (v:=?_) rfl ?_ hW ?_;rotate_left;(go_simp;with_reducible rfl)
 simp only [zA];simp only [bA];rw [Nj.out,Uv.out] at ms;rw [Uv.out];have eY:=zh hW;clear hW;go_wp2
 go_loopw [23] (fun i wr => ∃ j : Nat,j ≤ es.length + 1 ∧ i = .int .i64 j ∧ (vw.take j).all (fun x => !fF n x v || acc ls x.toNat) = true ∧ aa w3 wr) (fun i _ => es.length + 1 - (intOf i).toNat)
 case atStart => exact ⟨0,Nat.zero_le _,rfl,rfl,ad _⟩
 case round =>
  obtain ⟨j,hj,rfl,bW,cJ⟩:=hrel;have fk:=zh bW;clear bW
  by_cases hlt : j < es.length + 1
  ·obtain ⟨x,hx⟩:=aW vw j (by omega)
   have DL:=FF Hn.out hv x (by have:=List.mem_of_getElem? hx;rwa [OY.out] at this)
   obtain ⟨k,rfl⟩:=Int.eq_ofNat_of_zero_le DL.1;have hk : k < n.ends.length:=by omega
   have cx:=cJ.cell (ms.out.cell hx);have iA:=eY.out.after cJ;have Hx:=zh hx;have hfk:=Dy Hn.out HU.out (w:=(k : Int)) (by omega) (by omega);have ZJ:=zh hfk;have e3:=ai q3 iA;have e4:=ai q4 iA
   have ZF : Hid (nz n ls (k : Int) = true → ∀ x ∈ ls.getD k 0 :: aw ls (n.ends.getD k []),0 ≤ x ∧ x ≤ most):=fun h => by
    have:=uy Hn.out HU.out (w:=(k : Int)) (by omega) (by omega) (by rw [← ZJ.out];exact h)
    rwa [Int.toNat_natCast] at this
   unfold pM at e3;clear hx DL hfk;go_upto_region 4 with (fail);refine ao 16 (aa wr) (by kernel_rfl) (by kernel_rfl) (by simp) (ak (ad _)) ?_;simp only [zT]
   iterate 2 (apply ag rfl;(intro W hW;go_simp;with_reducible rfl);simp only [zA])
   refine dn ?_ rfl ?_ ?_;rotate_left;(intro W hW;unfold bG;go_simp;(with_reducible refine (zg _ _ _ _ _ n ls B k W (H.out.keep (iA.after hW).below) (HL.out.keep (iA.after hW).below) (HA.out.since (iA.after hW)) Hn.out hk zf.out).mono ?_);rintro e W' ⟨rfl,bg⟩;first | (refine ⟨?_,aa.trans hW bg⟩;with_reducible rfl) | (subst bg;refine ⟨?_,hW⟩;with_reducible rfl))
   simp only [zA]
   apply ag rfl;(intro W hW;go_simp;with_reducible rfl);simp only [zA]
   iterate 9 (apply aj rfl rfl;(intro hb;intro W hW;go_simp;with_reducible rfl);simp only [zA])
   refine bC (v:=?_) rfl rfl ?_ ?_;rotate_left;(intro hb;intro W hW;unfold bG;go_simp;(with_reducible refine (DO.out.use W _ ls k (dh.out.after (iA.after hW)) (HL.out.keep (iA.after hW).below) zf.out hk (ZF.out hb)).mono ?_);rintro e W' ⟨rfl,bg⟩;first | (refine ⟨?_,aa.trans hW bg⟩;with_reducible rfl) | (subst bg;refine ⟨?_,hW⟩;with_reducible rfl))
   simp only [zA]
   apply aj rfl rfl;(intro hb;intro W hW;go_simp;with_reducible rfl);simp only [zA]
   (first | refine bJ rfl rfl ?_ | (apply ag rfl;(intro W hW;go_simp;with_reducible rfl)));simp only [zA]
   intro W hW;have iB:=cJ.after hW;clear cx e3 e4 hW iA cJ;cases hg : (nz n ls (k : Int) && !acc ls k)
   ·have Hp : Hid ((vw.take (j + 1)).all (fun x => !fF n x v || acc ls x.toNat) = true):=lz Hx.out fk.out (by
     rw [← ZJ.out,Int.toNat_natCast]
     revert hg
     cases nz n ls (k : Int) <;> cases acc ls k <;> simp)
    clear hg;go_wp2;go_roundw
    case rel => exact ⟨j + 1,by omega,by go_num,Hp.out,iB⟩
    case measure => simp [intOf];omega
   ·have Hr : Hid (eC n acc ls v = false):=by
     show _ = _
     unfold eC;rw [← OY.out];refine tB Hx.out ?_;rw [← ZJ.out,Int.toNat_natCast]
     revert hg
     cases nz n ls (k : Int) <;> cases acc ls k <;> simp
    clear hg;go_wp2;go_ret;exact ⟨congrArg (fun b => Ending.returned (.bool b)) Hr.out.symm,eY.out.after iB⟩
  ·obtain rfl : j = es.length + 1:=by omega
   have Hr : Hid (eC n acc ls v = true):=by
    show _ = _
    unfold eC;rw [← OY.out]
    have:=fk.out
    rwa [iC vw (by omega)] at this
   go_wp2;go_ret;exact ⟨congrArg (fun b => Ending.returned (.bool b)) Hr.out.symm,eY.out.after cJ⟩
def yj (n : am) (acc : List Int → Nat → Bool) (most lim : Int) : List Int × Int × Int:=gL (eC n acc) most lim (iW lim 0 n.ends.length 0) (List.replicate n.ends.length (-1)) 0 0
theorem DQ {u : Value} {r : List Int × Int × Int} {a b : Int} (h : r.2 = (a,b)) : Ending.returned (.tuple #[u,.int .i64 a,.int .i64 b]) = .returned (.tuple #[u,.int .i64 r.2.1,.int .i64 r.2.2]):=by rw [h]
theorem BB (ve vi vn vl : Value) (n : am) (most lim : Int) (acc : List Int → Nat → Bool) (dR : FuncId) (B b : Nat) (w w0 : World) (h : aT w0 ve vi vn n) (cX : aa w0 w) (hB : w0.heap.size ≤ B) (ha : LS w B ve vi vn (pM dR b) vl) (hn : an n = true) (kW : 0 ≤ most) (k9 : most ≤ 999999999999) (Gv : 0 ≤ lim) (rj : lim ≤ 1000000000)
  (d9 : ∀ args w,(callFunc dR args).run Tryz.prog w = .ok (.enter dR args) w) (BA : sa w0 dR b n most acc) :
  Calls Tryz.prog 73 #[.pointer (some ⟨B,0,none⟩),.int .i64 most,.int .i64 lim] w fun e w' => ∃ u,e = .returned (.tuple #[u,.int .i64 (yj n acc most lim).2.1,.int .i64 (yj n acc most lim).2.2]) ∧ Own w' w0.heap.size u (yj n acc most lim).1 ∧ aa w0 w':=by
 have H:=zh h;have Hn:=zh hn;have eg:=zh d9;have DO:=zh BA;have kE:=aN hn;obtain ⟨R,hR⟩ : ∃ R,R = yj n acc most lim:=⟨_,rfl⟩
 have HR:=zh hR;rw [← hR];clear hR hn d9 BA;have q0:=ha.c0;have q1:=ha.c1;have q2:=ha.c2;have HA:=zh ha;have pK:=zh cX;have HN:=zh (h.keep cX.below);obtain ⟨⟨A,c,rfl,ft,hm,_⟩,⟨A2,oK,rfl,_,ly,_⟩,⟨A3,pc,rfl,_,rF,_⟩⟩:=h;clear ha cX
 go_enter Tryz.func73,Tryz.ntmps73
 go_wp2_with fail;refine (iJ _ _ _ n w HN.out kE.1 (by omega)).mono ?_;rintro e w1 ⟨u1,rfl,iu,bj⟩;rcases iu.cases with ⟨-,e1⟩ | ⟨g,c1,rfl,ib,oH⟩
 ·have:=congrArg List.length e1;rw [List.length_replicate,List.length_nil] at this;omega
 rw [List.length_replicate] at iu ⊢;have po:=zh (HA.out.since bj);have Qp:=po.out.c4;have Qq:=po.out.fz 4
 have I5 : g ≠ B:=fun e => by have h1:=HA.out.lt;have h2 : w.heap.size ≤ g:=ib;rw [e] at h2;omega
 obtain ⟨w2,dK⟩ : ∃ w2,w2 = w1.setCell ⟨B,4,none⟩ (.slice (some ⟨g,0,none⟩) n.ends.length c1):=⟨_,rfl⟩
 have ZG : Hid (LS w2 B (.slice A n.ends.length c) (.slice A2 n.ids.length oK) (.slice A3 n.inputs.length pc) (pM dR b) (.slice (some ⟨g,0,none⟩) n.ends.length c1)):=by rw [dK];exact po.out.setL _
 have iU : Hid (Own w2 w0.heap.size (.slice (some ⟨g,0,none⟩) n.ends.length c1) (List.replicate n.ends.length (-1))):=by
  rw [dK];exact rG (iu.mono pK.out.below.size) (by simpa [Value.ownBlock] using I5) _
 have cw : Hid (aa w0 w2):=by rw [dK];exact Below.setCell (aa.trans pK.out bj) hB _
 have j7:=zh dK;have Kc : Hid (w0.heap.size ≤ g):=Nat.le_trans pK.out.below.size ib;clear iu bj dK q0 q1 q2 ib oH;go_upto_region 2 with (fail);rw [← j7.out];clear Qp Qq;go_wp2
 go_loopw [9,10] (fun mv i wr => ∃ (f : Nat) (ls : List Int) (v : Nat) (made : Int),aa w0 wr ∧ LS wr B (.slice A n.ends.length c) (.slice A2 n.ids.length oK) (.slice A3 n.inputs.length pc) (pM dR b) (.slice (some ⟨g,0,none⟩) n.ends.length c1) ∧ Own wr w0.heap.size (.slice (some ⟨g,0,none⟩) n.ends.length c1) ls ∧ ls.length = n.ends.length ∧ 0 ≤ made ∧ made ≤ lim ∧ mv = .int .i64 made ∧
   i = .int .i64 v ∧ v ≤ n.ends.length ∧ St n.ends.length most ls v ∧ iW lim made n.ends.length v ≤ f ∧ gL (eC n acc) most lim f ls v made = R) (fun mv i _ => (intOf i).toNat + (lim - intOf mv).toNat * (n.ends.length + 2))
 case atStart => exact ⟨_,_,0,0,cw.out,ZG.out,iU.out,by simp,Int.le_refl _,Gv,rfl,rfl,Nat.zero_le _,St.start _ _ kW,Nat.le_refl _,HR.out.symm⟩
 case round =>
  obtain ⟨f,ls,v,made,hs,ha,ho,p_,ZK,GA,rfl,rfl,hv,gE,hf,hR⟩:=hrel;have Mp:=zh ha;have Ho:=zh ho;have b4:=ha.c4;have zf:=zh p_
  obtain ⟨f,rfl⟩ : ∃ f',f = f' + 1:=⟨f - 1,by unfold iW at hf;omega⟩
  have I6:=zh hR;have pd:=zh gE;have Hf:=zh hf;have Hs:=zh hs;clear ha ho p_ hR gE hf hs
  by_cases hlt : v < n.ends.length
  ·obtain ⟨x,hx⟩ : ∃ x,x = ls.getD v 0:=⟨_,rfl⟩
   have cx:=Ho.out.cell (getD_some (show v < ls.length by rw [zf.out];exact hlt))
   have fx:=Ho.out.free v;rw [← hx] at cx;have FK:=pd.out.at_ hlt;rw [← hx] at FK;have DM : Hid (ls.getD v 0 = x):=hx.symm
   have Mq : Hid (v < ls.length):=by rw [zf.out];exact hlt
   clear hx
   by_cases xQ : x = most
   ·subst xQ;have m1 : IntKind.i64.wrap ((v : Int) - 1) = (v : Int) - 1:=aL _ (by omega) (by omega)
    by_cases sR : v = 0
    ·subst sR
     have zX : Hid (R = ([],2,made)):=by rw [← I6.out];exact x_ Mq.out DM.out
     go_wp2
     first | go_ret3 | fail
     exact ⟨_,DQ (by rw [zX.out]),by rw [zX.out];exact cH _ _,Below.setCell Hs.out Kc.out _⟩
    ·have hvn : ¬ ((v : Int) - 1 < 0):=by omega
     go_wp2;go_roundw
     case rel =>
      refine ⟨f,ls.set v (-1),v - 1,made,Below.setCell Hs.out Kc.out _,Mp.out.other (Ne.symm I5) v _,Ho.out.set (k:=v) (-1),by rw [List.length_set];exact zf.out,ZK,GA,rfl,by congr 1;omega,by omega,pd.out.back sR,?_,?_⟩
      ·have:=yd (lim:=lim) (made:=made) (N:=n.ends.length) sR
       have:=Hf.out
       omega
      ·rw [← I6.out,ya Mq.out DM.out sR]
     case measure => simp only [intOf];omega
   ·have Qr : Hid (¬ ls.getD v 0 = most):=by show ¬ _;rw [DM.out];exact xQ
    have Zl : (x == most) = false:=by rw [beq_eq_false_iff_ne];exact xQ
    by_cases pL : made = lim
    ·subst pL
     have zX : Hid (R = ([],3,made)):=by rw [← I6.out];exact yc Mq.out Qr.out
     go_wp2
     first | go_ret3 | fail
     exact ⟨_,DQ (by rw [zX.out]),by rw [zX.out];exact cH _ _,Hs.out⟩
    ·have XT : (made == lim) = false:=by rw [beq_eq_false_iff_ne];exact pL
     have m1 : IntKind.i64.wrap (made + 1) = made + 1:=aL _ (by omega) (by omega);have m2 : IntKind.i64.wrap (x + 1) = x + 1:=aL _ (by omega) (by omega);have m3 : IntKind.i64.wrap ((v : Int) + 1) = (v : Int) + 1:=aL _ (by omega) (by omega);obtain ⟨w4,gZ⟩ : ∃ w4,w4 = wr.setCell ⟨g,v,none⟩ (.int .i64 (x + 1)):=⟨_,rfl⟩
     have Ur : Hid (LS w4 B (.slice A n.ends.length c) (.slice A2 n.ids.length oK) (.slice A3 n.inputs.length pc) (pM dR b) (.slice (some ⟨g,0,none⟩) n.ends.length c1)):=by rw [gZ];exact Mp.out.other (Ne.symm I5) _ _
     have sH : Hid (Own w4 w0.heap.size (.slice (some ⟨g,0,none⟩) n.ends.length c1) (ls.set v (x + 1))):=by rw [gZ];exact Ho.out.set (k:=v) (x + 1)
     have mg : Hid (aa w0 w4):=by rw [gZ];exact Below.setCell Hs.out Kc.out _
     have FL:=zh gZ
     have HU : Hid (Up n.ends.length most (ls.set v (x + 1)) v):=by
      have:=pd.out.up hlt Qr.out
      rw [DM.out] at this;exact this
     have Us:=zh sH.out.ints;clear gZ;go_upto_region 13 with (fail);rw [← FL.out];clear b4 cx fx;go_wp2_with fail;refine (G9 _ _ _ _ n most acc dR (ls.set v (x + 1)) B b v w4 w0 (H.out.keep mg.out.below) Us.out Ur.out Hn.out hlt HU.out eg.out DO.out mg.out).mono ?_;rintro e w5 ⟨rfl,jT⟩;have Dj:=zh (Ur.out.since jT);have DN:=zh (sH.out.keep jT);have nd:=zh (mg.out.trans jT);have pE:=I6.out;rw [Bl Mq.out Qr.out pL,DM.out] at pE;have Ut:=zh pE;clear jT pE;cases iS : eC n acc (ls.set v (x + 1)) v
     ·have i_:=zh iS;clear iS;go_wp2;go_roundw
      case rel =>
       refine ⟨f,ls.set v (x + 1),v,made + 1,nd.out,Dj.out,DN.out,by rw [List.length_set];exact zf.out,by omega,by omega,by go_num,rfl,by omega,HU.out.stay,?_,?_⟩
       ·have:=jD (N:=n.ends.length) (v:=v) (v':=v) GA pL (by omega)
        have:=Hf.out
        omega
       ·have:=Ut.out
        rw [i_.out] at this;simpa using this
      case measure =>
       simp only [intOf]
       have:=jD (N:=n.ends.length) (v:=v) (v':=v) GA pL (by omega)
       unfold iW at this;omega
     ·have i_:=zh iS;clear iS;go_wp2;go_roundw
      case rel =>
       refine ⟨f,ls.set v (x + 1),v + 1,made + 1,nd.out,Dj.out,DN.out,by rw [List.length_set];exact zf.out,by omega,by omega,by go_num,by go_num,by omega,HU.out.on kW,?_,?_⟩
       ·have:=jD (N:=n.ends.length) (v:=v) (v':=v + 1) GA pL (by omega)
        have:=Hf.out
        omega
       ·have:=Ut.out
        rw [i_.out] at this;simpa using this
      case measure =>
       simp only [intOf]
       have:=jD (N:=n.ends.length) (v:=v) (v':=v + 1) GA pL (by omega)
       unfold iW at this;omega
  ·obtain rfl : v = n.ends.length:=by omega
   have zX : Hid (R = (ls,1,made)):=by rw [← I6.out];exact Bk (by rw [zf.out];omega)
   go_wp2
   first | go_ret3 | fail
   exact ⟨_,DQ (by rw [zX.out]),by rw [zX.out];exact Ho.out,Hs.out⟩
def O0 (R : Option (Option (List Int))) : Bool:=match R with | some (some _) => true | _ => false
def TcU (len : Nat) (R : Option (Option (List Int))) (U : Value) : Prop:=match R with | some (some _) => ∃ g c,U = .slice (some ⟨g,0,none⟩) len c | _ => U = .slice none 0 0
def ii (n : am) : Option (Option (List Int)):=fM n 400002 (List.replicate n.ends.length (-1)) 0 0
theorem pN (ve vi vn : Value) (n : am) (w : World) (h : aT w ve vi vn n) (hn : an n = true) :
  Calls Tryz.prog 78 #[.agg #[ve,vi,vn]] w fun e w' => ∃ U,e = .returned (.tuple #[U,.bool (ii n).isSome]) ∧ TcU n.ends.length (ii n) U ∧ Below w.heap.size w w':=by
 have uh:=aN hn;have mK:=uh.1;have lh:=uh.2;clear uh;have Ke : Hid (∀ (k : Nat) (es : List (Int × Int)),n.ends[k]? = some es → es.length ≤ 6 ∧ ∀ e ∈ es,0 ≤ e.1 ∧ e.1 < n.ends.length):=fun (k : Nat) (es : List (Int × Int)) he => df hn he
 clear hn;obtain ⟨R,hR⟩ : ∃ R,R = ii n:=⟨_,rfl⟩
 rw [← hR];have HR:=zh hR;clear hR
 obtain ⟨w0,A,c,A2,c2,A3,c3,rfl,rfl,rfl,ft,hm,f6,gF,HA,dh,bv,H,eG,eX,fb⟩:=zB h;clear h
 have cX : aa w0 w0:=ad _
 go_enter Tryz.func78,Tryz.ntmps78
 go_upto_region 1 with (fail);rw [← dh.out];go_wp2_with fail;refine (iJ _ _ _ n w0 H.out mK (by omega)).mono ?_;rintro e w1 ⟨u,rfl,ho,bj⟩
 obtain ⟨g,cU,rfl,hUl,ZL⟩ : ∃ g cU,u = .slice (some ⟨g,0,none⟩) n.ends.length cU ∧ n.ends.length ≤ cU ∧ cU ≤ maxLen:=by
  rcases eT ho with ⟨h0,SE⟩ | ⟨g,cc,h0,_,_,h3,h4⟩
  ·rw [List.length_replicate] at SE;omega
  ·rw [List.length_replicate] at h0 h3;exact ⟨g,cc,h0,h3,h4⟩
 unfold maxLen at ZL;have wI:=zh ho;have Uy:=zh (World.ownsRow.lt ho g (by simp [Value.ownBlock])).1;have Uz:=zh (cX.trans bj);clear ho bj cX;go_wp2
 go_loopw [5,6] (fun us uv wr => ∃ (l : List Int) (v : Int) (s f : Nat),us = .int .i64 (s : Int) ∧ uv = .int .i64 v ∧ Own wr w0.heap.size (.slice (some ⟨g,0,none⟩) n.ends.length cU) l ∧ ux n l v s f ∧ fM n f l v s = R ∧ aa w0 wr) (fun us uv _ => qG (intOf uv) (intOf us).toNat)
 case atStart => exact ⟨_,0,0,400002,rfl,rfl,wI.out,Bj,HR.out.symm,Uz.out⟩
 case round =>
  obtain ⟨l,v,s,f,rfl,rfl,ho,gE,dt,cJ⟩:=hrel;have Ho:=zh ho;have pd:=zh gE;have rH:=zh dt;have hlen:=gE.len;have Qv:=gE.lo;have CV:=gE.hi;have Ms:=gE.st;clear ho dt gE
  by_cases hv : (n.ends.length : Int) ≤ v
  ·have hr : Hid (R = some (some l)):=by show _ = _;rw [← rH.out];exact FA pd.out hv
   have HS:=zh cJ;obtain rfl : v = (n.ends.length : Int):=by omega
   clear cJ hv Qv CV Ms;go_wp2
   go_ret2
   exact ⟨_,by rw [hr.out];rfl,by rw [hr.out];exact ⟨g,cU,rfl⟩,aa.after bv.out HS.out⟩
  ·by_cases sR : v < 0
   ·have hr : Hid (R = some none):=by show _ = _;rw [← rH.out];exact FB pd.out (by omega) sR
    have HS:=zh cJ;have hvl : v < (n.ends.length : Int):=by omega
    clear cJ hv Qv CV Ms;go_wp2
    go_ret2
    exact ⟨_,by rw [hr.out];rfl,by rw [hr.out];rfl,aa.after bv.out HS.out⟩
   ·obtain ⟨k,rfl⟩:=Int.eq_ofNat_of_zero_le (show 0 ≤ v by omega)
    have hk : k < n.ends.length:=by omega
    obtain ⟨x,hx⟩:=aW l k (by omega);have wE:=pd.out.rng x (List.mem_of_getElem? hx);obtain ⟨f',rfl⟩:=FE pd.out;have cz:=Ho.out.cell hx;have fz:=Ho.out.free k;have Hx:=zh hx;have m1 : IntKind.i64.wrap ((k : Int) - 1) = (k : Int) - 1:=aL _ (by omega) (by omega);have m2 : IntKind.i64.wrap (x + 1) = x + 1:=aL _ (by omega) (by omega);have m3 : IntKind.i64.wrap ((s : Int) + 1) = (s : Int) + 1:=aL _ (by omega) (by omega);have m4 : IntKind.i64.wrap ((k : Int) + 1) = (k : Int) + 1:=aL _ (by omega) (by omega);clear hx hv sR Qv CV
    by_cases h2 : x = 2
    ·subst h2;have Hb:=zh (FC pd.out hk Hx.out);clear m2 m3 m4 wE;go_wp2;go_roundw
     case rel => exact ⟨l.set k (-1),(k : Int) - 1,s,f',rfl,by first | rfl | go_num,Ho.out.set (k:=k) (-1),Hb.out.2,by rw [← Hb.out.1];exact rH.out,cJ.setCell Uy.out _⟩
     case measure => (simp [intOf,qG];try omega)
    ·have Ud : (x = 2) = False:=by simp [h2]
     have h2b : (x == 2) = false:=by simp [h2]
     by_cases hs : s = 200000
     ·have hr : Hid (R = none):=by show _ = _;rw [← rH.out];subst hs;exact FD pd.out hk Hx.out h2
      have HS:=zh cJ
      have dm : ((s : Int) = 200000) = True:=by simp;omega
      have dE : (s = 200000) = True:=by simp [hs]
      have iB : ((s : Int) == 200000) = true:=by simp;omega
      clear cJ m1 m2 m3 m4 wE h2 hs Ms;go_wp2
      go_ret2
      exact ⟨_,by rw [hr.out];rfl,by rw [hr.out];rfl,aa.after bv.out HS.out⟩
     ·have XU : ((s : Int) = 200000) = False:=by simp;omega
      have dE : (s = 200000) = False:=by simp [hs]
      have iB : ((s : Int) == 200000) = false:=by simp;omega
      have Hg:=zh (OW pd.out hk Hx.out h2 hs);have Hs:=zh hs;clear h2 hs wE;obtain ⟨es,cM⟩:=aW n.ends k hk;obtain ⟨r1,r2⟩:=Ke.out k es cM;have ml:=zh cM;have qM:=zh r1;have xf:=zh r2;clear cM r1 r2;go_upto_region 14 with (fail);obtain ⟨l2,lp⟩ : ∃ l2,l2 = l.set k (x + 1):=⟨_,rfl⟩
      rw [← lp] at Hg;obtain ⟨W0,GW⟩ : ∃ W0,W0 = wr.setCell ⟨g,k,none⟩ (.int .i64 (x + 1)):=⟨_,rfl⟩
      rw [← GW]
      have iU : Hid (Own W0 w0.heap.size (.slice (some ⟨g,0,none⟩) n.ends.length cU) l2):=by show Own _ _ _ _;rw [GW,lp];exact Ho.out.set (k:=k) (x + 1)
      have Kf : l2.length = n.ends.length:=by rw [lp,List.length_set];exact hlen
      have pw : l2[k]? = some (x + 1):=by rw [lp,List.getElem?_set_self (by omega)]
      have ot : Hid (aa w0 W0):=by show aa _ _;rw [GW];exact cJ.setCell Uy.out _
      have c2:=ae (iU.out.cell pw)
      have ZM:=zh (show ∀ X,aa W0 X → bD X (.slice (some ⟨g,0,none⟩) n.ends.length cU) l2 from fun X hX => by have:=(Own.since iU.out hX).ints;exact this)
      have t0:=ai eG ot.out;have t1:=ai eX ot.out;have t2:=ai fb ot.out;have hz : aa W0 W0:=ad _;have Qw:=zh Kf;have DM:=zh pw
      have i_:=zh (show gK n l2 k = !(jP (aw l2 es) (x + 1)) by unfold gK jP;rw [aH ml.out,aH pw])
      have HP:=zh (And.intro eG (And.intro eX fb));clear GW lp Kf pw cJ cz fz eG eX fb;refine cm (w0:=W0) 9 [false,false,false,true,false,false,false,false,true] (by kernel_rfl) (by kernel_rfl) (hz) ?_;simp only [d_,dO,zT]
      iterate 7 (apply bB rfl;(intro W hW;go_simp;with_reducible rfl);simp only [zA])
      intro W hW;refine Or.inl ⟨rfl,?_⟩
      go_simp
      (with_reducible refine (kA _ _ _ _ n l2 k es W (H.out.keep (ot.out.after hW).below) (ZM.out W hW) ml.out (by have:=qM.out;omega) (by rw [Qw.out];exact xf.out)).mono ?_)
      rintro e W' ⟨un,rfl,fm,hbn⟩;refine ⟨_,rfl,hW.trans hbn,?_⟩
      replace hW:=hW.trans hbn
      have zY:=zh fm.ints;clear fm hbn
      (try simp only [zA])
      refine Or.inl ⟨rfl,?_⟩
      go_simp
      (with_reducible refine (jr _ (aw l2 es) (x + 1) _ zY.out).mono ?_)
      rintro e W' ⟨rfl,rfl⟩;refine ⟨_,rfl,hW,?_⟩
      replace hW:=hW
      skip
      (try simp only [zA])
      simp only [bA];have ms:=zh (Own.since iU.out hW);have O1:=zh (ot.out.after hW);obtain ⟨eG,eX,fb⟩:=HP.out;cases hb : jP (aw l2 es) (x + 1)
      ·have Nk : gK n l2 k = true:=by rw [i_.out,hb];rfl
       rw [Nk] at Hg;clear hW hz t0 t1 t2 c2 hb m1 m2 m3;go_wp2;go_roundw
       case rel => exact ⟨l2,(k : Int) + 1,s + 1,f',by go_num,by first | rfl | go_num,ms.out,by have:=Hg.out.2;simpa using this,by have:=Hg.out.1;simp at this;rw [← this];exact rH.out,O1.out⟩
       case measure => (have:=Hs.out;have:=pd.out.st;simp [intOf,qG];try omega)
      ·have Nk : gK n l2 k = false:=by rw [i_.out,hb];rfl
       rw [Nk] at Hg;clear hW hz t0 t1 t2 c2 hb m1 m2 m3;go_wp2;go_roundw
       case rel => exact ⟨l2,(k : Int),s + 1,f',by go_num,by first | rfl | go_num,ms.out,by have:=Hg.out.2;simpa using this,by have:=Hg.out.1;simp at this;rw [← this];exact rH.out,O1.out⟩
       case measure => (have:=Hs.out;have:=pd.out.st;simp [intOf,qG];try omega)
def mP (n : am) (p : Nat) (w : Nat) : Bool:=decide (al n w = p) && decide (n.inputs.getD w 0 = 1)
def en (n : am) (p k : Nat) : List Nat:=(List.range k).filter (mP n p)
def mz (n : am) (p : Nat) : List Nat:=en n p n.ends.length
theorem sb (n : am) (p k : Nat) : en n p (k + 1) = en n p k ++ (if mP n p k = true then [k] else []):=by
 unfold en;rw [List.range_succ,List.filter_append];congr 1
 cases h : mP n p k <;> simp [h]
theorem DR (n : am) (p k : Nat) : (en n p k).length ≤ k:=by
 unfold en;exact Nat.le_trans (List.length_filter_le _ _) (by simp)
def yk (n : am) (p k : Nat) : Int:=match en n p k with
 | [] => -1
 | w :: _ => (w : Int)
theorem uJ {n : am} {p k : Nat} (h : mP n p k = false) : en n p (k + 1) = en n p k ∧ yk n p (k + 1) = yk n p k:=by
 have : en n p (k + 1) = en n p k:=by rw [sb,h];simp
 exact ⟨this,by unfold yk;rw [this]⟩
def iK (n : am) (v : Nat) : Int:=yk n (al n v) n.ends.length
def js (n : am) (v : Nat) : Bool:=(mz n (al n v)).length == 1
def fZ (n : am) : Bool:=(List.range n.ends.length).all (js n)
theorem DS {n : am} {v : Nat} (hv : v < n.ends.length) (h : (mz n (al n v)).length ≠ 1) : fZ n = false:=by
 rw [Bool.eq_false_iff];intro hc
 have:=List.all_eq_true.1 hc v (List.mem_range.2 hv)
 exact h (by simpa [js] using this)
def jU (n : am) (p k : Nat) : Nat:=((List.range k).filter fun w => decide (al n w = p)).length
def li (n : am) (p : Nat) : Nat:=jU n p n.ends.length
theorem sc (n : am) (p k : Nat) : jU n p (k + 1) = jU n p k + (if al n k = p then 1 else 0):=by
 unfold jU;rw [List.range_succ,List.filter_append,List.length_append];congr 1
 by_cases h : al n k = p
 ·rw [if_pos h,List.filter_cons_of_pos (by simpa using h)];rfl
 ·rw [if_neg h,List.filter_cons_of_neg (by simpa using h)];rfl
theorem G_ (n : am) (p k : Nat) : jU n p k ≤ k:=by
 unfold jU;exact Nat.le_trans (List.length_filter_le _ _) (by simp)
def nD (n : am) (v : Nat) : Bool:=!(li n (al n v) % 2 == 1)
def kc (n : am) : Bool:=(List.range n.ends.length).all (nD n)
theorem zi {k v : Nat} {f : Nat → Bool} (hv : v < k) (h : f v = false) : (List.range k).all f = false:=by
 rw [Bool.eq_false_iff];intro hc;rw [List.all_eq_true.1 hc v (List.mem_range.2 hv)] at h;cases h
def yl (n : am) : Bool:=(ca n).any fun e => decide (e.1 = e.2.2.1) && decide (e.2.1 = e.2.2.2)
def xg (n : am) : Bool:=!yl n && decide ((ca n).length + ja n n.ends.length = n.ends.length)
def ik (n : am) (s : Int) : Bool:=
 if s = 1 then pH n
 else if s = 2 then O0 (ii n)
 else if s = 3 then xg n
 else if n.ids.length = 0 then false
 else if s = 4 then fZ n
 else kc n
def qN (n : am) (s : Int) : Bool:=if s = 2 then (ii n).isSome else true
def xh (n : am) (s : Int) : Bool:=an n && ee 1 5 s
def aQ (n : am) (s : Int) : Bool:=xh n s && ik n s
def bx (n : am) (s : Int) : Bool:=xh n s && qN n s
structure Tr (N : Nat) (dep : Nat → Int) (par : Nat → Option Nat) : Prop where
 some_ : ∀ v p,v < N → par v = some p → p < N ∧ dep p + 1 = dep v
 pos : ∀ v,v < N → 0 ≤ dep v
def Qx (par : Nat → Option Nat) : Nat → Nat → Nat → Bool
 | 0,w,x => w == x
 | f + 1,w,x => w == x || (match par w with | none => false | some y => Qx par f y x)
def rI (dep : Nat → Int) (par : Nat → Option Nat) (w x : Nat) : Bool:=Qx par (dep w).toNat w x
theorem qO {N : Nat} {dep : Nat → Int} {par : Nat → Option Nat} (h : Tr N dep par) : ∀ (f w x : Nat),w < N → (dep w).toNat ≤ f → Qx par f w x = rI dep par w x
 | 0,w,x,hw,hf => by
  have h1:=h.pos w hw;unfold rI;rw [show (dep w).toNat = 0 by omega]
 | f + 1,w,x,hw,hf => by
  unfold rI
  cases hp : par w with
  | none =>
   cases hd : (dep w).toNat with
   | zero => simp [Qx,hp]
   | succ d => simp [Qx,hp]
  | some y =>
   obtain ⟨h1,h2⟩:=h.some_ w y hw hp;have h3:=h.pos y h1;obtain ⟨d,hd⟩ : ∃ d,(dep w).toNat = d + 1:=⟨(dep w).toNat - 1,by omega⟩
   rw [hd];simp only [Qx,hp];rw [qO h f y x h1 (by omega),qO h d y x h1 (by omega)]
theorem jV {N : Nat} {dep : Nat → Int} {par : Nat → Option Nat} (h : Tr N dep par) {w x : Nat} (hw : w < N) : rI dep par w x = (w == x || (match par w with | none => false | some y => rI dep par y x)):=by
 rw [← qO h ((dep w).toNat + 1) w x hw (by omega)];simp only [Qx]
 cases hp : par w with
 | none => rfl
 | some y =>
  obtain ⟨h1,h2⟩:=h.some_ w y hw hp;simp only [];rw [qO h _ y x h1 (by omega)]
theorem jG {N : Nat} {dep : Nat → Int} {par : Nat → Option Nat} (h : Tr N dep par) {w : Nat} (hw : w < N) : rI dep par w w = true:=by rw [jV h hw];simp
theorem ou {N : Nat} {dep : Nat → Int} {par : Nat → Option Nat} (h : Tr N dep par) : ∀ (f w x : Nat),w < N → (dep w).toNat ≤ f → rI dep par w x = true → x < N ∧ (x = w ∨ dep x < dep w)
 | f,w,x,hw,hf,ha => by
  rw [jV h hw,Bool.or_eq_true] at ha;rcases ha with ha | ha
  ·have:=eq_of_beq ha
   subst this;exact ⟨hw,.inl rfl⟩
  ·cases hp : par w with
   | none => rw [hp] at ha;simp at ha
   | some y =>
    rw [hp] at ha;obtain ⟨h1,h2⟩:=h.some_ w y hw hp;have h3:=h.pos y h1
    cases f with
    | zero => omega
    | succ f =>
     obtain ⟨g1,g2⟩:=ou h f y x h1 (by omega) ha;refine ⟨g1,.inr ?_⟩;rcases g2 with g2 | g2
     ·subst g2;omega
     ·omega
theorem ow {N : Nat} {dep : Nat → Int} {par : Nat → Option Nat} (h : Tr N dep par) : ∀ (f w x : Nat),w < N → (dep w).toNat ≤ f → rI dep par w x = true → w ≠ x → ∃ c,c < N ∧ par c = some x ∧ rI dep par w c = true
 | f,w,x,hw,hf,ha,hn => by
  rw [jV h hw,Bool.or_eq_true] at ha;rcases ha with ha | ha
  ·exact absurd (eq_of_beq ha) hn
  ·cases hp : par w with
   | none => rw [hp] at ha;simp at ha
   | some y =>
    rw [hp] at ha;obtain ⟨h1,h2⟩:=h.some_ w y hw hp;have h3:=h.pos y h1
    by_cases hy : y = x
    ·subst hy;exact ⟨w,hw,hp,jG h hw⟩
    ·cases f with
     | zero => omega
     | succ f =>
      obtain ⟨c,hc,g1,g2⟩:=ow h f y x h1 (by omega) ha hy;refine ⟨c,hc,g1,?_⟩;rw [jV h hw,hp,Bool.or_eq_true];exact .inr g2
theorem zj {N : Nat} {dep : Nat → Int} {par : Nat → Option Nat} (h : Tr N dep par) : ∀ (f w c x : Nat),w < N → (dep w).toNat ≤ f → rI dep par w c = true → par c = some x → rI dep par w x = true
 | f,w,c,x,hw,hf,ha,hp => by
  rw [jV h hw,Bool.or_eq_true] at ha;rcases ha with ha | ha
  ·have:=eq_of_beq ha
   subst this;obtain ⟨h1,-⟩:=h.some_ w x hw hp;rw [jV h hw,hp,Bool.or_eq_true];exact .inr (jG h h1)
  ·cases hq : par w with
   | none => rw [hq] at ha;simp at ha
   | some y =>
    rw [hq] at ha;obtain ⟨h1,h2⟩:=h.some_ w y hw hq;have h3:=h.pos y h1
    cases f with
    | zero => omega
    | succ f =>
     have g:=zj h f y c x h1 (by omega) ha hp;rw [jV h hw,hq,Bool.or_eq_true];exact .inr g
theorem s9 {N : Nat} {dep : Nat → Int} {par : Nat → Option Nat} (h : Tr N dep par) : ∀ (f w a b : Nat),w < N → (dep w).toNat ≤ f → rI dep par w a = true → rI dep par w b = true → dep a = dep b → a = b
 | f,w,a,b,hw,hf,ha,hb,he => by
  have ga:=ou h f w a hw hf ha;have gb:=ou h f w b hw hf hb;rw [jV h hw,Bool.or_eq_true] at ha hb
  by_cases e1 : w = a
  ·subst e1;rcases gb.2 with g | g
   ·exact g.symm
   ·omega
  ·by_cases e2 : w = b
   ·subst e2;rcases ga.2 with g | g
    ·exact g
    ·omega
   ·rcases ha with ha | ha
    ·exact absurd (eq_of_beq ha) e1
    ·rcases hb with hb | hb
     ·exact absurd (eq_of_beq hb) e2
     ·cases hp : par w with
      | none => rw [hp] at ha;simp at ha
      | some y =>
       rw [hp] at ha hb;obtain ⟨h1,h2⟩:=h.some_ w y hw hp;have h3:=h.pos y h1
       cases f with
       | zero => omega
       | succ f => exact s9 h f y a b h1 (by omega) ha hb he
def uK (dep : Nat → Int) (par : Nat → Option Nat) (D : List Nat) (w x : Nat) : Bool:=w == x || D.any (fun c => (par c == some x) && rI dep par w c)
theorem Hj {N : Nat} {dep : Nat → Int} {par : Nat → Option Nat} (h : Tr N dep par) {D : List Nat} {x : Nat} (hD : ∀ c,c < N → par c = some x → c ∈ D) (hN : ∀ c ∈ D,c < N) {w : Nat} (hw : w < N) : uK dep par D w x = rI dep par w x:=by
 rw [Bool.eq_iff_iff];unfold uK;rw [Bool.or_eq_true,List.any_eq_true];constructor
 ·rintro (h1 | ⟨c,hc,h1⟩)
  ·have:=eq_of_beq h1
   subst this;exact jG h hw
  ·rw [Bool.and_eq_true] at h1;exact zj h _ w c x hw (Nat.le_refl _) h1.2 (eq_of_beq h1.1)
 ·intro ha
  by_cases e : w = x
  ·left;simp [e]
  ·obtain ⟨c,hc,h1,h2⟩:=ow h _ w x hw (Nat.le_refl _) ha e
   exact .inr ⟨c,hD c hc h1,by rw [h1,h2];simp⟩
theorem ko {p q r : Nat → Bool} : ∀ {l : List Nat},(∀ w ∈ l,r w = (p w || q w)) → (∀ w ∈ l,p w = true → q w = false) → l.countP r = l.countP p + l.countP q
 | [],_,_ => rfl
 | a :: l,h1,h2 => by
  have ih:=ko (l:=l) (fun w hw => h1 w (List.mem_cons_of_mem _ hw)) (fun w hw => h2 w (List.mem_cons_of_mem _ hw))
  have e1:=h1 a (by simp);have e2:=h2 a (by simp);rw [List.countP_cons,List.countP_cons,List.countP_cons,ih,e1]
  cases hp : p a <;> cases hq : q a <;> simp_all <;> omega
def lA (N : Nat) (dep : Nat → Int) (par : Nat → Option Nat) (x : Nat) : Nat:=(List.range N).countP fun w => rI dep par w x
structure FM (N : Nat) (dep : Nat → Int) (par : Nat → Option Nat) (D : List Nat) (s : List Int) : Prop where
 len : s.length = N
 val : ∀ x,x < N → s.getD x 0 = ((List.range N).countP fun w => uK dep par D w x : Nat)
theorem FM.start (N : Nat) (dep : Nat → Int) (par : Nat → Option Nat) : FM N dep par [] (List.replicate N 1):=by
 refine ⟨by simp,fun x hx => ?_⟩
 have e : (List.range N).countP (fun w => uK dep par [] w x) = 1:=by
  have : (fun w => uK dep par [] w x) = fun w => w == x:=by funext w;simp [uK]
  rw [this];have h1:=List.countP_eq_length_filter (p:=fun w => w == x) (l:=List.range N)
  have h2 : (List.range N).count x = 1:=by rw [List.Nodup.count List.nodup_range,if_pos (List.mem_range.2 hx)]
  rw [← h2];rfl
 rw [e,zDd,List.getElem?_replicate,if_pos hx];rfl
theorem FM.own {N : Nat} {dep : Nat → Int} {par : Nat → Option Nat} (h : Tr N dep par) {D : List Nat} {s : List Int} (hs : FM N dep par D s) {c : Nat} (hc : c < N) (hD : ∀ k,k < N → par k = some c → k ∈ D) (hN : ∀ k ∈ D,k < N) : s.getD c 0 = (lA N dep par c : Nat):=by
 rw [hs.val c hc];unfold lA;congr 1
 refine List.countP_congr fun w hw => ?_
 rw [Hj h hD hN (List.mem_range.1 hw)]
theorem FM.skip {N : Nat} {dep : Nat → Int} {par : Nat → Option Nat} {D : List Nat} {s : List Int} (hs : FM N dep par D s) {c : Nat} (hp : par c = none) : FM N dep par (D ++ [c]) s:=by
 refine ⟨hs.len,fun x hx => ?_⟩
 rw [hs.val x hx];congr 1
 refine List.countP_congr fun w _ => ?_
 unfold uK;rw [List.any_append];simp [hp]
theorem FM.step {N : Nat} {dep : Nat → Int} {par : Nat → Option Nat} (h : Tr N dep par) {D : List Nat} {s : List Int} (hs : FM N dep par D s) {c p : Nat} (hc : c < N) (hcD : c ∉ D) (hp : par c = some p) (hD : ∀ k,k < N → par k = some c → k ∈ D) (hN : ∀ k ∈ D,k < N) :
  FM N dep par (D ++ [c]) (s.set p (s.getD p 0 + s.getD c 0)):=by
 obtain ⟨O2,hd⟩:=h.some_ c p hc hp;have SK:=hs.own h hc hD hN
 refine ⟨by rw [List.length_set];exact hs.len,fun x hx => ?_⟩
 by_cases e : x = p
 ·subst e
  rw [zDd,List.getElem?_set_self (by rw [hs.len];exact O2),Option.getD_some,SK,hs.val x hx]
  unfold lA;rw [← Int.natCast_add];congr 1
  symm
  refine ko (fun w hw => ?_) fun w hw h1 => ?_
  ·unfold uK;rw [List.any_append];simp [hp,Bool.or_assoc]
  ·have sd:=List.mem_range.1 hw
   cases h2 : rI dep par w c with
   | false => rfl
   | true =>
    exfalso
    have g2:=ou h _ w c sd (Nat.le_refl _) h2;unfold uK at h1;rw [Bool.or_eq_true,List.any_eq_true] at h1;rcases h1 with h1 | ⟨k,hk,h1⟩
    ·have:=eq_of_beq h1
     subst this;rcases g2.2 with g | g
     ·subst g;omega
     ·omega
    ·rw [Bool.and_eq_true] at h1;have mL:=eq_of_beq h1.1;obtain ⟨-,iz⟩:=h.some_ k x (hN k hk) mL
     have:=s9 h _ w k c sd (Nat.le_refl _) h1.2 h2 (by omega)
     subst this;exact hcD hk
 ·rw [zDd,List.getElem?_set_ne (Ne.symm e),← zDd,hs.val x hx];congr 1
  refine List.countP_congr fun w _ => ?_
  unfold uK;rw [List.any_append]
  have : (par c == some x) = false:=by rw [hp];simp;omega
  simp [this]
abbrev qP (st : List Int × List Int) (x : Int) : Int:=st.1.getD x.toNat 0
structure BD (n : am) (v : Nat) (st : List Int × List Int) (i : Nat) : Prop where
 zero : qP st (v : Int) = 0
 par : ∀ x ∈ st.2,x ≠ (v : Int) → ∃ y ∈ st.2,x ∈ eJ n y ∧ qP st y + 1 = qP st x
 sorted : ∀ j k,j ≤ k → k < st.2.length → qP st (st.2.getD j 0) ≤ qP st (st.2.getD k 0)
 span : ∀ k,k < st.2.length → i < st.2.length → qP st (st.2.getD k 0) ≤ qP st (st.2.getD i 0) + 1
 closed : ∀ k,k < i → k < st.2.length → ∀ x ∈ eJ n (st.2.getD k 0),x ∈ st.2 ∧ qP st x ≤ qP st (st.2.getD k 0) + 1
theorem BD.begin {n : am} {v : Nat} (hv : v < n.ends.length) : BD n v (dg n v) 0 where
 zero:=by unfold qP dg;simp [hv]
 par:=fun x hx fS => by
  have : x = (v : Int):=by simpa [dg] using hx
  exact absurd this fS
 sorted:=fun j k lO hk => by
  have : (dg n v).2.length = 1:=rfl
  obtain rfl : j = k:=by omega
  exact Int.le_refl _
 span:=fun k hk hi => by
  have : (dg n v).2.length = 1:=rfl
  obtain rfl : k = 0:=by omega
  omega
 closed:=fun k hk => by omega
theorem il {xs : List Int} {k : Nat} (h : k < xs.length) : xs.getD k 0 ∈ xs:=by
 rw [zDd,List.getElem?_eq_getElem h];exact List.getElem_mem h
theorem nE {xs ys : List Int} {k : Nat} (h : k < xs.length) : (xs ++ ys).getD k 0 = xs.getD k 0:=by
 rw [zDd,List.getElem?_append_left h,← zDd]
theorem HH {xs : List Int} {x : Int} : (xs ++ [x]).getD xs.length 0 = x:=by simp [zDd]
theorem BD.one {n : am} {v i : Nat} {st : List Int × List Int} {x : Int} (hI : BI n.ends.length st) (hR : BR n v st) (h : BD n v st i) (hi : i < st.2.length) (hx : x ∈ eJ n (st.2.getD i 0)) (wE : 0 ≤ x ∧ x < n.ends.length) :
  BD n v (ch (st.2.getD i 0) st x) i ∧ x ∈ (ch (st.2.getD i 0) st x).2 ∧ qP (ch (st.2.getD i 0) st x) x ≤ qP (ch (st.2.getD i 0) st x) (st.2.getD i 0) + 1 ∧ (∀ y ∈ st.2,y ∈ (ch (st.2.getD i 0) st x).2 ∧ qP (ch (st.2.getD i 0) st x) y = qP st y):=by
 have hc : st.2.getD i 0 ∈ st.2:=il hi;obtain ⟨c,UA⟩ : ∃ c,c = st.2.getD i 0:=⟨_,rfl⟩
 have hlen:=hI.len;have hxn : ((x.toNat : Nat) : Int) = x:=by omega
 rw [← UA] at hc hx ⊢;unfold ch
 split
 ·rename_i ry
  have keep : ∀ y ∈ st.2,y.toNat ≠ x.toNat:=fun y hy e => by
   have h1:=hI.walk y hy
   have h2:=(hR.seen y.toNat (by omega)).2 (by rw [show ((y.toNat : Nat) : Int) = y by omega];exact hy)
   rw [e] at h2;omega
  have kd : ∀ y ∈ st.2,qP (st.1.set x.toNat (st.1.getD c.toNat 0 + 1),st.2 ++ [x]) y = qP st y:=fun y hy => by
   unfold qP;show (st.1.set x.toNat _).getD y.toNat 0 = _
   rw [zDd,List.getElem?_set_ne (fun e => keep y hy e.symm),← zDd]
  have kx : qP (st.1.set x.toNat (st.1.getD c.toNat 0 + 1),st.2 ++ [x]) x = qP st c + 1:=by
   unfold qP;show (st.1.set x.toNat _).getD x.toNat 0 = _
   rw [zDd,List.getElem?_set_self (by omega)];rfl
  have kl : ∀ k,k < (st.2 ++ [x]).length → (k < st.2.length ∧ (st.2 ++ [x]).getD k 0 = st.2.getD k 0) ∨ (k = st.2.length ∧ (st.2 ++ [x]).getD k 0 = x):=fun k hk => by
   rw [List.length_append,List.length_singleton] at hk;rcases Nat.lt_or_ge k st.2.length with h1 | h1
   ·exact .inl ⟨h1,nE h1⟩
   ·obtain rfl : k = st.2.length:=by omega
    exact .inr ⟨rfl,HH⟩
  refine ⟨⟨?_,?_,?_,?_,?_⟩,by simp,by rw [kx,kd c hc];omega,fun y hy => ⟨List.mem_append_left _ hy,kd y hy⟩⟩
  ·rw [kd _ hR.start];exact h.zero
  ·intro z hz fS;rcases List.mem_append.1 hz with hz | hz
   ·obtain ⟨y,hy,h1,h2⟩:=h.par z hz fS
    exact ⟨y,List.mem_append_left _ hy,h1,by rw [kd y hy,kd z hz];exact h2⟩
   ·obtain rfl : z = x:=by simpa using hz
    exact ⟨c,List.mem_append_left _ hc,hx,by rw [kd c hc,kx]⟩
  ·intro j k lO hk;have hk : k < (st.2 ++ [x]).length:=hk;rcases kl k hk with ⟨j_,ek⟩ | ⟨j_,ek⟩
   ·rcases kl j (by omega) with ⟨sD,ej⟩ | ⟨sD,ej⟩
    ·rw [ek,ej,kd _ (il j_),kd _ (il sD)];exact h.sorted j k lO j_
    ·omega
   ·rw [ek,kx];rcases kl j (by omega) with ⟨sD,ej⟩ | ⟨sD,ej⟩
    ·rw [ej,kd _ (il sD),UA];exact h.span j sD hi
    ·rw [ej,kx];exact Int.le_refl _
  ·intro k hk _;have ei : (st.2 ++ [x]).getD i 0 = c:=by rw [nE hi,UA]
   rw [ei,kd c hc];rcases kl k hk with ⟨j_,ek⟩ | ⟨j_,ek⟩
   ·rw [ek,kd _ (il j_),UA];exact h.span k j_ hi
   ·rw [ek,kx];exact Int.le_refl _
  ·intro k hk _ z hz;have j_ : k < st.2.length:=by omega
   have ek : (st.2 ++ [x]).getD k 0 = st.2.getD k 0:=nE j_;rw [ek] at hz ⊢;obtain ⟨h1,h2⟩:=h.closed k hk j_ z hz
   exact ⟨List.mem_append_left _ h1,by rw [kd _ h1,kd _ (il j_)];exact h2⟩
 ·rename_i ry
  have xQ : x ∈ st.2:=by
   have:=(hR.seen x.toNat (by omega)).1 (by omega)
   rwa [hxn] at this
  refine ⟨h,xQ,?_,fun y hy => ⟨hy,rfl⟩⟩
  obtain ⟨k,hk,e⟩:=List.mem_iff_getElem.1 xQ
  have:=h.span k hk hi
  rw [← UA,show st.2.getD k 0 = x by rw [zDd,List.getElem?_eq_getElem hk];exact e] at this
  exact this
theorem BD.fold {n : am} {v i : Nat} {c : Int} : ∀ (xs : List Int) {st : List Int × List Int},BI n.ends.length st → BR n v st → BD n v st i → i < st.2.length → st.2.getD i 0 = c → (∀ x ∈ xs,x ∈ eJ n c ∧ 0 ≤ x ∧ x < n.ends.length) →
  BD n v (xs.foldl (ch c) st) i ∧ (∀ x ∈ xs,x ∈ (xs.foldl (ch c) st).2 ∧ qP (xs.foldl (ch c) st) x ≤ qP (xs.foldl (ch c) st) c + 1) ∧ (∀ y ∈ st.2,y ∈ (xs.foldl (ch c) st).2 ∧ qP (xs.foldl (ch c) st) y = qP st y)
 | [],_,_,_,h,_,_,_ => ⟨h,fun _ hx => by simp at hx,fun y hy => ⟨hy,rfl⟩⟩
 | x :: xs,st,hI,hR,h,hi,hc,hxs => by
  have hx:=hxs x (List.mem_cons_self ..)
  have MZ : c ∈ st.2:=by rw [← hc];exact il hi
  have h1:=BD.one hI hR h hi (by rw [hc];exact hx.1) hx.2
  rw [hc] at h1;obtain ⟨g1,g2,g3,g4⟩:=h1;obtain ⟨ys,hw⟩:=pz c st x
  have tR : i < (ch c st x).2.length:=by rw [hw,List.length_append];omega
  have lm : (ch c st x).2.getD i 0 = c:=by rw [hw,nE hi];exact hc
  obtain ⟨k1,k2,k3⟩:=BD.fold xs (hI.step (hI.walk c MZ) hx.2) (BR.one hI hR MZ hx.1 hx.2).1 g1 tR lm (fun y hy => hxs y (List.mem_cons_of_mem _ hy))
  refine ⟨k1,fun y hy => ?_,fun y hy => ?_⟩
  ·rcases List.mem_cons.1 hy with rfl | hy
   ·obtain ⟨m1,m2⟩:=k3 y g2;obtain ⟨_,m4⟩:=k3 c (g4 c MZ).1;refine ⟨m1,?_⟩;show qP (xs.foldl (ch c) (ch c st y)) y ≤ qP (xs.foldl (ch c) (ch c st y)) c + 1
    rw [m2,m4];exact g3
   ·exact k2 y hy
  ·obtain ⟨m1,m2⟩:=g4 y hy;obtain ⟨m3,m4⟩:=k3 y m1;exact ⟨m3,m4.trans m2⟩
theorem yn {n : am} (hn : an n = true) {v : Nat} : ∀ (f : Nat) (st : List Int × List Int) (i : Nat),BI n.ends.length st → BR n v st → BD n v st i → i ≤ st.2.length → n.ends.length < f + i →
  ∃ jY : List Int × List Int,Dk n f st i = jY.1 ∧ BI n.ends.length jY ∧ BR n v jY ∧ BD n v jY jY.2.length
 | 0,st,i,hI,_,_,hi,hf => by have:=hI.bd;omega
 | f + 1,st,i,hI,hR,hD,hi,hf => by
  unfold Dk
  by_cases hlt : i < st.2.length
  ·rw [if_pos hlt];have hc : st.2.getD i 0 ∈ st.2:=il hlt;have Dl:=hI.walk _ hc;have dC:=pA hn Dl;have h1:=BR.fold (cur:=st.2.getD i 0) (eJ n (st.2.getD i 0)) hI hR hc (fun x hx => ⟨hx,dC x hx⟩)
   obtain ⟨k1,k2,k3⟩:=BD.fold (eJ n (st.2.getD i 0)) hI hR hD hlt rfl (fun x hx => ⟨hx,dC x hx⟩)
   obtain ⟨ys,hw⟩:=lQ (st.2.getD i 0) (eJ n (st.2.getD i 0)) st
   have hlen : i < ((eJ n (st.2.getD i 0)).foldl (ch (st.2.getD i 0)) st).2.length:=by rw [hw,List.length_append];omega
   refine yn hn f _ (i + 1) (hI.fold Dl _ dC) h1.1 ⟨k1.zero,k1.par,k1.sorted,fun k hk tR => ?_,fun k hk mL x hx => ?_⟩ (by omega) (by omega)
   ·have m1:=k1.span k hk hlen;have m2:=k1.sorted i (i + 1) (by omega) tR;omega
   ·by_cases e : k = i
    ·subst e;have ek : ((eJ n (st.2.getD k 0)).foldl (ch (st.2.getD k 0)) st).2.getD k 0 = st.2.getD k 0:=by rw [hw,nE hlt]
     rw [ek] at hx ⊢;exact k2 x hx
    ·exact k1.closed k (by omega) mL x hx
  ·rw [if_neg hlt];obtain rfl : i = st.2.length:=by omega
   exact ⟨st,rfl,hI,hR,hD⟩
structure Qy (n : am) (v : Nat) (D : Nat → Int) : Prop where
 zero : D v = 0
 par : ∀ x : Nat,fH n v x → x ≠ v → ∃ y : Nat,fH n v y ∧ (x : Int) ∈ eJ n (y : Int) ∧ D y + 1 = D x
 nb : ∀ a b : Nat,fH n v a → (b : Int) ∈ eJ n (a : Int) → D b ≤ D a + 1
 pos : ∀ x : Nat,fH n v x → 0 ≤ D x
theorem ox {n : am} (hn : an n = true) {v : Nat} (hv : v < n.ends.length) : Qy n v (fun w => (dM n v).getD w 0):=by
 obtain ⟨st,h1,hI,hR,hD⟩:=yn hn (n.ends.length + 1) (dg n v) 0 (BI.start hv) (BR.begin hv) (BD.begin hv) (Nat.zero_le _) (by omega);have e : dM n v = st.1:=h1
 have hm : ∀ x : Nat,fH n v x → (x : Int) ∈ st.2:=fun x hx => by
  have AG:=lv hn hv hx
  have:=(iG hn hv AG).2 hx
  rw [e] at this;exact (hR.seen x AG).1 this
 refine ⟨?_,fun x hx fS => ?_,fun a b ha hb => ?_,fun x hx => (iG hn hv (lv hn hv hx)).2 hx⟩
 ·have:=hD.zero
  show (dM n v).getD v 0 = 0
  rw [e];simpa [qP] using this
 ·obtain ⟨y,hy,h2,h3⟩:=hD.par x (hm x hx) (by omega);have hyr:=hI.walk y hy;obtain ⟨k,rfl⟩:=Int.eq_ofNat_of_zero_le hyr.1;refine ⟨k,?_,h2,?_⟩
  ·have:=hR.rch _ hy;simpa using this
  ·show (dM n v).getD k 0 + 1 = (dM n v).getD x 0
   rw [e];simpa [qP] using h3
 ·obtain ⟨k,hk,Bf⟩:=List.mem_iff_getElem.1 (hm a ha)
  have:=(hD.closed k hk hk (b : Int) (by rw [zDd,List.getElem?_eq_getElem hk];simpa [Bf] using hb)).2
  show (dM n v).getD b 0 ≤ (dM n v).getD a 0 + 1
  rw [e]
  rw [show st.2.getD k 0 = (a : Int) by rw [zDd,List.getElem?_eq_getElem hk];exact Bf] at this
  simpa [qP] using this
end Go.Proofs.YtgmdpppljkmabaaGreat
