/- Parts of the proof: walks of functions and plain laws. -/
import Derived.Test.YtgmdpppljkmabaaGreatP0
import Derived.Test.YtgmdpppljkmabaaGreatP1
import Derived.Test.YtgmdpppljkmabaaGreatP12
import Derived.Test.YtgmdpppljkmabaaGreatP17
import Derived.Test.YtgmdpppljkmabaaGreatP21
set_option maxRecDepth 100000
set_option maxHeartbeats 16000000
namespace Go.Proofs.YtgmdpppljkmabaaGreat
open Go Go.RowKit
theorem lj (n : Nat) (hn : n ≤ 1000000) (w : World) : Calls Tryz.prog 154 #[.int .i64 n] w (pu w (dl n)):=by
 have m1:=AB n hn;have m2:=rW n hn
 go_enter Tryz.func154,Tryz.ntmps154
 go_wp2
 go_region
 ·go_wp2;refine bodyPost_ret (v:=.agg #[.slice (some ⟨w.heap.size + 1,0,none⟩) n n,.slice none 0 0,.slice (some ⟨w.heap.size + 1 + 1,0,none⟩) n n]) (by simp [results,Tryz.results154,go_sem]) rfl ?_;exact ⟨_,_,_,_,rfl,(Dd w _ n hn).drew,(Js _ _ _ _).drew⟩
 ·go_wp2;refine bodyPost_ret (v:=.agg #[.slice (some ⟨w.heap.size + 1 + 1,0,none⟩) n n,.slice none 0 0,.slice (some ⟨w.heap.size + 1,0,none⟩) n n]) (by simp [results,Tryz.results154,go_sem]) rfl ?_;exact ⟨_,_,_,_,rfl,(AD w _ n hn).drew,(Js _ _ _ _).drew⟩
structure pT (n : am) : Prop where
 ends : n.ends.length ≤ 1000
 row : ∀ (k : Nat) (es : List (Int × Int)),n.ends[k]? = some es → es.length ≤ 1000
 sz : f_ n ≤ 1048576
def cG (n : am) (v : Nat) : List (Int × Int):=n.ends.getD v []
def pU (n : am) (v : Nat) (e : Int × Int) : am:={ n with ends:=n.ends.set v (cG n v ++ [e]) }
def kR (n : am) (v : Nat) : am:=pU n v ((v : Int),((cG n v).length : Int))
def dq (n : am) (v u : Nat) : am:=pU (pU n v ((u : Int),if v = u then ((cG n u).length : Int) + 1 else ((cG n u).length : Int))) u ((v : Int),((cG n v).length : Int))
theorem cD {n : am} {v : Nat} (hv : v < n.ends.length) : n.ends[v]? = some (cG n v):=by
 unfold cG;rw [zDd,List.getElem?_eq_getElem hv];rfl
theorem gW (n : am) (v : Nat) (e : Int × Int) : (pU n v e).ends.length = n.ends.length:=by simp [pU]
theorem aA.head {w : World} {base k c : Nat} {A : Option Addr} {vi vn : Value} {N : am} {S : List Nat} (h : aA w base (.slice A k c) vi vn N S) (h0 : 0 < N.ends.length) : ∃ g,A = some ⟨g,0,none⟩ ∧ k = N.ends.length:=by
 obtain ⟨S1,S2,S3,⟨vs,Ss,h1,_⟩,_⟩:=h;have h3:=eT h1;rcases h3 with ⟨hv,h2⟩ | ⟨g,c',hv,_⟩
 ·omega
 ·cases hv;exact ⟨g,rfl,rfl⟩
theorem oB {wc w8 w9 : World} {base g c k v g9 cc : Nat} {vi vn u : Value} {N : am} {S T : List Nat} {x : List (Int × Int)} {y : Int × Int}
  (xP : ∀ (u' : Value) (x' : List (Int × Int)) (T' : List Nat) (w' : World),eU w' base u' x' T' → aU T wc w' → (∀ j ∈ T',j ∈ T ∨ wc.heap.size ≤ j) → ∃ S',aA (w'.setCell ⟨g,v,none⟩ u') base (.slice (some ⟨g,0,none⟩) k c) vi vn { N with ends:=N.ends.set v x' } S' ∧ ∀ j ∈ S',j ∈ S ∨ wc.heap.size ≤ j)
  (hR : eU wc base u x T) (h8 : aa wc w8) (ix : eU w9 base (.slice (some ⟨g9,0,none⟩) (x.length + 1) cc) (x ++ [y]) [g9]) (rr : w8.grownBy w9 u.ownBlock) (xr : u.ownBlock = some g9 ∨ g9 = w8.heap.size) (P8 : ∀ j ∈ T,j ∈ S) (Ax : g ∈ S) :
  ∃ S',aA (w9.setCell ⟨g,v,none⟩ (.slice (some ⟨g9,0,none⟩) (x.length + 1) cc)) base (.slice (some ⟨g,0,none⟩) k c) vi vn { N with ends:=N.ends.set v (x ++ [y]) } S' ∧ (∀ j ∈ S',j ∈ S ∨ wc.heap.size ≤ j) ∧ aU S wc (w9.setCell ⟨g,v,none⟩ (.slice (some ⟨g9,0,none⟩) (x.length + 1) cc)):=by
 have hT : T = u.ownBlock.toList:=hR.2
 have h19 : aU T wc w9:=by rw [hT];exact (aU.of_below h8).trans (aU.of_grown rr)
 obtain ⟨S',h1,h2⟩:=xP _ _ _ _ ix h19 (fun j hj => by
  simp at hj;subst hj
  rcases xr with h | h
  ·left;rw [hT,h];simp
  ·right;rw [h];exact h8.size)
 exact ⟨S',h1,h2,(h19.mono P8).setCell (.inl Ax) _⟩
theorem EJ (ve vi vn : Value) (n : am) (v : Nat) (w : World) (h : aT w ve vi vn n) (hv : v < n.ends.length) (hn : pT n) :
  Calls Tryz.prog 193 #[.agg #[ve,vi,vn],.int .i64 v] w (pu w (kR n v)):=by
 have Gg:=zh hn;clear hn
 obtain ⟨w0,A,c,A2,c2,A3,c3,rfl,rfl,rfl,ft,hm,f6,gF,HA,dh,bv,H,eG,eX,fb⟩:=zB h;clear h
 obtain ⟨wa,kH⟩ : ∃ wa,wa = w0.alloc (.cells #[.slice none 0 0,.slice none 0 0,.slice none 0 0] 27):=⟨_,rfl⟩
 have oy : aa w0 wa:=by rw [kH];exact ah _ (ad _)
 have qc : w0.heap.size = w.heap.size + 1:=by rw [dh.out];simp
 have H4 : Hid (wa.heap.size = w.heap.size + 1 + 1):=by show _ = _;rw [kH,← qc];simp
 have Mu : Hid (∀ X,aa wa X → bQ X (w.heap.size + 1) (.slice none 0 0) (.slice none 0 0) (.slice none 0 0)):=fun X hX => by
  refine bQ.since (W:=wa) ?_ hX;rw [kH,← qc];show (w0.heap.push _)[w0.heap.size]? = _
  rw [Array.getElem?_push_size]
 have O5:=ai eG oy;have O6:=ai eX oy;have O7:=ai fb oy;have DW:=zh kH;have CW:=zh oy;have gG : Hid (Below w.heap.size w wa):=Below.trans bv.out (oy.below.mono bv.out.size);clear kH oy qc eG eX fb
 go_enter Tryz.func193,Tryz.ntmps193
 go_upto_region 1 with (fail);rw [← dh.out,← DW.out];have hs : aa wa wa:=ad _;go_wp2_with fail;refine (kp _ _ _ n wa (H.out.keep CW.out.below) Gg.out.ends Gg.out.row Gg.out.sz).mono ?_;rintro e w1 ⟨we,wi,wn,S,rfl,ho,bj⟩;obtain ⟨A1,c1,rfl,-,-,-⟩:=id ho.read.1;obtain ⟨AI,cI,rfl,-,-,-⟩:=id ho.read.2.1;obtain ⟨AN,cN,rfl,-,-,-⟩:=id ho.read.2.2;obtain ⟨g,rfl,-⟩:=ho.head (by omega);obtain ⟨base,ky⟩ : ∃ base,base = wa.heap.size:=⟨_,rfl⟩
 rw [← ky] at ho;have dm : aa wa w1:=hs.trans bj;obtain ⟨w2,dK⟩ : ∃ z,z = w1.alloc (.cells #[.slice (some ⟨g,0,none⟩) n.ends.length c1,.slice AI n.ids.length cI,.slice AN n.inputs.length cN] 27):=⟨_,rfl⟩
 obtain ⟨bo,vV⟩ : ∃ z,z = w1.heap.size:=⟨_,rfl⟩
 have jZ : aa w1 w2:=by rw [dK];exact ah _ (ad _)
 have y8 : bH w2 bo (.slice (some ⟨g,0,none⟩) n.ends.length c1) (.slice AI n.ids.length cI) (.slice AN n.inputs.length cN):=by rw [dK,vV];exact bH.new _ _ _ _ _
 have G7 : bo ∉ S:=fun hj => by have:=(ho.range _ hj).2;omega
 have vW:=zh ky;have j7:=zh dK;have Pu:=zh vV;have z_:=zh (ho.keep jZ.below);have Cq:=zh y8;have EK:=zh G7;have cw:=zh (dm.after jZ)
 have vj : Hid (base ≤ bo ∧ bo < w2.heap.size):=⟨by rw [ky,vV];exact dm.below.size,by rw [dK,vV];simp⟩
 have qL:=cD hv;obtain ⟨xv,pV⟩ : ∃ x,x = cG n v:=⟨_,rfl⟩
 rw [← pV] at qL;have ID:=zh pV;have VY:=zh qL;have C5 : Hid (xv.length ≤ 1000):=Gg.out.row _ _ qL;clear ky dK vV ho y8 G7 dm jZ bj hs pV qL O5 O6 O7;have rj:=C5.out
 have Tt : Hid (xv.length + 1 ≤ 1000000):=by show _ ≤ _;omega
 have vX : Hid (base ≤ w2.heap.size):=by show _ ≤ _;have:=vj.out;omega
 clear rj;go_upto_region 2 with (fail);rw [← j7.out,← Pu.out];obtain ⟨u2,T2,wU,FG,Ae,pW,vY,q_,kS⟩:=z_.out.growRow VY.out;obtain ⟨sn,so,rfl,-,-,-⟩:=id Ae.read;have EL:=zh Ae;have pX:=zh kS;have Cs : g ≠ bo:=fun h => EK.out (h ▸ q_)
 have VZ:=zh Cs;have EM:=zh vY;have EO:=zh q_;have EP:=zh pW;have Ls:=zh wU;have RK:=zh FG;have EQ : Hid (bo ∉ T2):=fun h => EK.out (pW _ h)
 have vx:=zh (bH.cells Cq.out);clear Cs vY q_ pW wU FG Ae kS;refine aI (fun W => W.cell? ⟨bo,0,none⟩ = some (.slice (some ⟨g,0,none⟩) n.ends.length c1) ∧ W.cell? ⟨g,v,none⟩ = some (.slice sn xv.length so)) 18 [false,false,false,false,false,false,false,false,false,false,false,false,false,false,false,false,true,true] (by kernel_rfl) (by kernel_rfl) (show (World.drew w2).cell? ⟨bo,0,none⟩ = some (.slice (some ⟨g,0,none⟩) n.ends.length c1) ∧ (World.drew w2).cell? ⟨g,v,none⟩ = some (.slice sn xv.length so) from ⟨vx.out.1,Ls.out⟩) ?_
 simp only [d_,dO,zT]
 iterate 16 (apply bY rfl;(intro W hW;(obtain ⟨k0,k1⟩:=hW);go_simp;with_reducible rfl);simp only [zA])
 obtain ⟨W,dr⟩ : ∃ W,W = World.drew w2:=⟨_,rfl⟩
 rw [← dr];have hW:=(show (World.drew w2).cell? ⟨bo,0,none⟩ = some (.slice (some ⟨g,0,none⟩) n.ends.length c1) ∧ (World.drew w2).cell? ⟨g,v,none⟩ = some (.slice sn xv.length so) from ⟨vx.out.1,Ls.out⟩);rw [← dr] at hW;have fV:=zh dr;clear dr
 refine dz (v:=?_) (ob:=?_) rfl ?_ ?_ ?_;rotate_left 2
 (go_simp;first | with_reducible rfl | (refine ⟨?_,?_⟩ <;> with_reducible rfl))
 exact ⟨bc (au _ _) hW.1,bc (au _ _) hW.2⟩;intro w8 lE md
 replace hW:=md
 clear md
 have Ct : Hid (w8 = (World.drew w2).alloc (.cells #[.int .i64 (v : Int),.int .i64 (xv.length : Int)] 83)):=by show _ = _;rw [lE,fV.out]
 have k_ : Hid (aa w2 w8):=by show aa _ _;rw [Ct.out];exact ah _ (ak (ad _))
 have rY : Hid (eU w8 base (.slice sn xv.length so) xv T2):=jA.keep EL.out k_.out.below
 have Cu : Hid (w8.cell? ⟨w2.heap.size,0,none⟩ = some (.int .i64 (v : Int)) ∧ w8.cell? ⟨w2.heap.size,1,none⟩ = some (.int .i64 (xv.length : Int))):=by show _ ∧ _;rw [Ct.out];exact ma (World.drew w2) _ _ _
 rw [show W.heap.size = w2.heap.size from by rw [fV.out];rfl]
 clear lE fV
 (try simp only [zA])
 refine dP (fun Q' HQ => ?_)
 (refine kN (base:=base) (v:=.slice sn xv.length so) (xs:=xv) rfl _ _ rfl rfl rY.out w2.heap.size ((v : Int),(xv.length : Int)) rfl Cu.out.1 Cu.out.2 Tt.out (Nat.le_trans vX.out k_.out.below.size) ?_);intro g9 Je w9 ix rr xr;have fQ:=aU.of_grown rr;have vZ : (Value.slice sn xv.length so).ownBlock.toList = T2:=(EL.out.2).symm;have mK : (⟨bo,0,none⟩ : Addr).block ∉ (Value.slice sn xv.length so).ownBlock.toList:=(by rw [vZ];exact EQ.out);have lh : (⟨g,v,none⟩ : Addr).block ∉ (Value.slice sn xv.length so).ownBlock.toList:=(by rw [vZ];exact EM.out);have j_:=fQ.cell mK hW.1;have mL:=fQ.cell lh hW.2;have IY:=fQ.fz lh hW.2 (bf k_.out.below Ls.out RK.out);refine HQ _ _ ⟨j_,mL⟩ ?_;have pY:=zh (oB pX.out EL.out k_.out ix rr xr EP.out EO.out);clear ix rr xr mK lh fQ vZ hW
 (try simp only [zA])
 simp only [bA];go_upto_region 3 with (fail);obtain ⟨V0,eF,eD,wK⟩:=pY.out;obtain ⟨w5,hw⟩ : ∃ z,z = w9.setCell ⟨g,v,none⟩ (.slice (some ⟨g9,0,none⟩) (xv.length + 1) Je):=⟨_,rfl⟩
 rw [← hw] at eF wK ⊢;have Lt:=zh eF;have Of:=zh eD;have sp:=zh wK;clear hw eF eD wK pY j_ mL IY
 have Pv : Hid (aA w5 base (.slice (some ⟨g,0,none⟩) n.ends.length c1) (.slice AI n.ids.length cI) (.slice AN n.inputs.length cN) (kR n v) V0):=by show aA _ _ _ _ _ _ _;unfold kR pU;rw [← ID.out];exact Lt.out
 have V3 : Hid (bH w5 bo (.slice (some ⟨g,0,none⟩) n.ends.length c1) (.slice AI n.ids.length cI) (.slice AN n.inputs.length cN)):=by obtain ⟨r,hr⟩:=Cq.out;exact ⟨r,(sp.out.block bo vj.out.2 EK.out).trans hr⟩
 have Cv : Hid (Below base w2 w5):=sp.out.below base vX.out (fun j hj => (z_.out.range j hj).1)
 have iQ : bQ w5 (w.heap.size + 1) (.slice none 0 0) (.slice none 0 0) (.slice none 0 0):=(Cv.out.block _ (by have h2:=vW.out;have h3:=H4.out;omega)).trans (Mu.out w2 cw.out)
 obtain ⟨d0,d1,d2,-,-,-⟩:=V3.out.cells;obtain ⟨e0,e1,e2,f0,f1,f2⟩:=iQ.box.cells;clear iQ;go_wp2;refine bodyPost_ret (v:=.agg #[.slice (some ⟨g,0,none⟩) n.ends.length c1,.slice AI n.ids.length cI,.slice AN n.inputs.length cN]) (by simp [results,Tryz.results193,go_sem, *]) rfl ?_;have Tf:=vW.out;have Ys:=H4.out;refine ⟨_,_,_,_,rfl,(Pv.out.stable (fun j hj => ?_)).mono (show w.heap.size ≤ base by omega),?_⟩
 ·have sD:=(Pv.out.range j hj).1;rw [Below.heap_setCell _ _ _ j (by simp;omega),Below.heap_setCell _ _ _ j (by simp;omega),Below.heap_setCell _ _ _ j (by simp;omega)]
 ·have hk : Below w.heap.size w w5:=(Below.trans gG.out (cw.out.below.mono (by omega))).trans (Cv.out.mono (by omega));exact ((hk.setCell (by simp) _).setCell (by simp) _).setCell (by simp) _
theorem mI (ve vi vn : Value) (n : am) (v u : Nat) (w : World) (h : aT w ve vi vn n) (hv : v < n.ends.length) (Jf : u < n.ends.length) (hn : pT n) :
  Calls Tryz.prog 155 #[.agg #[ve,vi,vn],.int .i64 v,.int .i64 u] w (pu w (dq n v u)):=by
 have Gg:=zh hn;clear hn
 obtain ⟨w0,A,c,A2,c2,A3,c3,rfl,rfl,rfl,ft,hm,f6,gF,HA,dh,bv,H,eG,eX,fb⟩:=zB h;clear h
 obtain ⟨wa,kH⟩ : ∃ wa,wa = w0.alloc (.cells #[.slice none 0 0,.slice none 0 0,.slice none 0 0] 27):=⟨_,rfl⟩
 have oy : aa w0 wa:=by rw [kH];exact ah _ (ad _)
 have qc : w0.heap.size = w.heap.size + 1:=by rw [dh.out];simp
 have H4 : Hid (wa.heap.size = w.heap.size + 1 + 1):=by show _ = _;rw [kH,← qc];simp
 have Mu : Hid (∀ X,aa wa X → bQ X (w.heap.size + 1) (.slice none 0 0) (.slice none 0 0) (.slice none 0 0)):=fun X hX => by
  refine bQ.since (W:=wa) ?_ hX;rw [kH,← qc];show (w0.heap.push _)[w0.heap.size]? = _
  rw [Array.getElem?_push_size]
 have O5:=ai eG oy;have O6:=ai eX oy;have O7:=ai fb oy;have DW:=zh kH;have CW:=zh oy;have gG : Hid (Below w.heap.size w wa):=Below.trans bv.out (oy.below.mono bv.out.size);clear kH oy qc eG eX fb
 go_enter Tryz.func155,Tryz.ntmps155
 go_upto_region 1 with (fail);rw [← dh.out,← DW.out];have hs : aa wa wa:=ad _;go_wp2_with fail;refine (kp _ _ _ n wa (H.out.keep CW.out.below) Gg.out.ends Gg.out.row Gg.out.sz).mono ?_;rintro e w1 ⟨we,wi,wn,S,rfl,ho,bj⟩;obtain ⟨A1,c1,rfl,-,-,-⟩:=id ho.read.1;obtain ⟨AI,cI,rfl,-,-,-⟩:=id ho.read.2.1;obtain ⟨AN,cN,rfl,-,-,-⟩:=id ho.read.2.2;obtain ⟨g,rfl,-⟩:=ho.head (by omega);obtain ⟨base,ky⟩ : ∃ base,base = wa.heap.size:=⟨_,rfl⟩
 rw [← ky] at ho;have dm : aa wa w1:=hs.trans bj;obtain ⟨w2,dK⟩ : ∃ z,z = w1.alloc (.cells #[.slice (some ⟨g,0,none⟩) n.ends.length c1,.slice AI n.ids.length cI,.slice AN n.inputs.length cN] 27):=⟨_,rfl⟩
 obtain ⟨bo,vV⟩ : ∃ z,z = w1.heap.size:=⟨_,rfl⟩
 have jZ : aa w1 w2:=by rw [dK];exact ah _ (ad _)
 have y8 : bH w2 bo (.slice (some ⟨g,0,none⟩) n.ends.length c1) (.slice AI n.ids.length cI) (.slice AN n.inputs.length cN):=by rw [dK,vV];exact bH.new _ _ _ _ _
 have G7 : bo ∉ S:=fun hj => by have:=(ho.range _ hj).2;omega
 have vW:=zh ky;have j7:=zh dK;have Pu:=zh vV;have z_:=zh (ho.keep jZ.below);have Cq:=zh y8;have EK:=zh G7;have cw:=zh (dm.after jZ)
 have vj : Hid (base ≤ bo ∧ bo < w2.heap.size):=⟨by rw [ky,vV];exact dm.below.size,by rw [dK,vV];simp⟩
 have qL:=cD hv;obtain ⟨xv,pV⟩ : ∃ x,x = cG n v:=⟨_,rfl⟩
 rw [← pV] at qL;have ID:=zh pV;have VY:=zh qL;have C5 : Hid (xv.length ≤ 1000):=Gg.out.row _ _ qL;clear ky dK vV ho y8 G7 dm jZ bj hs pV qL O5 O6 O7
 have Pw:=cD Jf;obtain ⟨xu,pV⟩ : ∃ x,x = cG n u:=⟨_,rfl⟩
 rw [← pV] at Pw;have Hxu:=zh pV;have HXu:=zh Pw;have RM : Hid (xu.length ≤ 1000):=Gg.out.row _ _ Pw;have rj:=C5.out;have lp:=RM.out
 have Tt : Hid (xv.length + 1 ≤ 1000000):=by show _ ≤ _;omega
 have vX : Hid (base ≤ w2.heap.size):=by show _ ≤ _;have:=vj.out;omega
 have m1 : IntKind.i64.wrap ((xu.length : Int) + 1) = (xu.length : Int) + 1:=aL _ (by omega) (by omega);clear rj lp pV Pw;obtain ⟨uv,Tv,SK,-,hRv,-,-,-⟩:=z_.out.rowCell VY.out;obtain ⟨Av,cv,rfl,-,-,-⟩:=id hRv.read;obtain ⟨uu,Tu,iq,-,hRu,-,-,-⟩:=z_.out.rowCell HXu.out;obtain ⟨Au,cu,rfl,-,-,-⟩:=id hRu.read;have fO:=Cq.out.cells.1;clear hRv hRu
 by_cases V4 : v = u
 ·subst V4;obtain rfl : xv = xu:=by rw [Hxu.out,ID.out]
  go_upto_region 2 with (fail);rw [← j7.out,← Pu.out];have htt : ((v : Int) = (v : Int)) = True:=by simp
  go_upto_region 6 with (fail);clear SK iq fO htt;obtain ⟨u2,T2,wU,FG,Ae,pW,vY,q_,kS⟩:=z_.out.growRow VY.out;obtain ⟨sn,so,rfl,-,-,-⟩:=id Ae.read;have EL:=zh Ae;have pX:=zh kS;have Cs : g ≠ bo:=fun h => EK.out (h ▸ q_)
  have VZ:=zh Cs;have EM:=zh vY;have EO:=zh q_;have EP:=zh pW;have Ls:=zh wU;have RK:=zh FG;have EQ : Hid (bo ∉ T2):=fun h => EK.out (pW _ h)
  have vx:=zh (bH.cells Cq.out);clear Cs vY q_ pW wU FG Ae kS;refine aI (fun W => W.cell? ⟨bo,0,none⟩ = some (.slice (some ⟨g,0,none⟩) n.ends.length c1) ∧ W.cell? ⟨g,v,none⟩ = some (.slice sn xv.length so)) 13 [false,false,false,false,false,false,false,false,false,false,false,true,true] (by kernel_rfl) (by kernel_rfl) (show (World.drew w2).cell? ⟨bo,0,none⟩ = some (.slice (some ⟨g,0,none⟩) n.ends.length c1) ∧ (World.drew w2).cell? ⟨g,v,none⟩ = some (.slice sn xv.length so) from ⟨vx.out.1,Ls.out⟩) ?_
  simp only [d_,dO,zT]
  iterate 11 (apply bY rfl;(intro W hW;(obtain ⟨k0,k1⟩:=hW);go_simp;with_reducible rfl);simp only [zA])
  obtain ⟨W,dr⟩ : ∃ W,W = World.drew w2:=⟨_,rfl⟩
  rw [← dr];have hW:=(show (World.drew w2).cell? ⟨bo,0,none⟩ = some (.slice (some ⟨g,0,none⟩) n.ends.length c1) ∧ (World.drew w2).cell? ⟨g,v,none⟩ = some (.slice sn xv.length so) from ⟨vx.out.1,Ls.out⟩);rw [← dr] at hW;have fV:=zh dr;clear dr
  refine dz (v:=?_) (ob:=?_) rfl ?_ ?_ ?_;rotate_left 2
  (go_simp;first | with_reducible rfl | (refine ⟨?_,?_⟩ <;> with_reducible rfl))
  exact ⟨bc (au _ _) hW.1,bc (au _ _) hW.2⟩;intro w8 lE md
  replace hW:=md
  clear md
  have Ct : Hid (w8 = (World.drew w2).alloc (.cells #[.int .i64 (v : Int),.int .i64 ((xv.length : Int) + 1)] 83)):=by show _ = _;rw [lE,fV.out]
  have k_ : Hid (aa w2 w8):=by show aa _ _;rw [Ct.out];exact ah _ (ak (ad _))
  have rY : Hid (eU w8 base (.slice sn xv.length so) xv T2):=jA.keep EL.out k_.out.below
  have Cu : Hid (w8.cell? ⟨w2.heap.size,0,none⟩ = some (.int .i64 (v : Int)) ∧ w8.cell? ⟨w2.heap.size,1,none⟩ = some (.int .i64 ((xv.length : Int) + 1))):=by show _ ∧ _;rw [Ct.out];exact ma (World.drew w2) _ _ _
  rw [show W.heap.size = w2.heap.size from by rw [fV.out];rfl]
  clear lE fV
  (try simp only [zA])
  refine dP (fun Q' HQ => ?_)
  (refine kN (base:=base) (v:=.slice sn xv.length so) (xs:=xv) rfl _ _ rfl rfl rY.out w2.heap.size ((v : Int),((xv.length : Int) + 1)) rfl Cu.out.1 Cu.out.2 Tt.out (Nat.le_trans vX.out k_.out.below.size) ?_);intro g9 Je w9 ix rr xr;have fQ:=aU.of_grown rr;have vZ : (Value.slice sn xv.length so).ownBlock.toList = T2:=(EL.out.2).symm;have mK : (⟨bo,0,none⟩ : Addr).block ∉ (Value.slice sn xv.length so).ownBlock.toList:=(by rw [vZ];exact EQ.out);have lh : (⟨g,v,none⟩ : Addr).block ∉ (Value.slice sn xv.length so).ownBlock.toList:=(by rw [vZ];exact EM.out);have j_:=fQ.cell mK hW.1;have mL:=fQ.cell lh hW.2;have IY:=fQ.fz lh hW.2 (bf k_.out.below Ls.out RK.out);refine HQ _ _ ⟨j_,mL⟩ ?_;have pY:=zh (oB pX.out EL.out k_.out ix rr xr EP.out EO.out);clear ix rr xr mK lh fQ vZ hW
  (try simp only [zA])
  simp only [bA];go_upto_region 7 with (fail);obtain ⟨V0,eF,eD,wK⟩:=pY.out;obtain ⟨w5,hw⟩ : ∃ z,z = w9.setCell ⟨g,v,none⟩ (.slice (some ⟨g9,0,none⟩) (xv.length + 1) Je):=⟨_,rfl⟩
  rw [← hw] at eF wK ⊢;have Lt:=zh eF;have Of:=zh eD;have sp:=zh wK;clear hw eF eD wK pY j_ mL IY
  have Lu : Hid (bH w5 bo (.slice (some ⟨g,0,none⟩) n.ends.length c1) (.slice AI n.ids.length cI) (.slice AN n.inputs.length cN)):=by obtain ⟨r,hr⟩:=Cq.out;exact ⟨r,(sp.out.block bo vj.out.2 EK.out).trans hr⟩
  have Ki : Hid (bo ∉ V0):=fun hj => by
   have h2:=vj.out;rcases Of.out _ hj with h1 | h1
   ·exact EK.out h1
   ·omega
  obtain ⟨xw,Og⟩ : ∃ z,z = xv ++ [((v : Int),(xv.length : Int) + 1)]:=⟨_,rfl⟩
  have V6 : Hid ((n.ends.set v (xv ++ [((v : Int),((xv.length : Int) + 1))]))[v]? = some xw):=by show _ = _;rw [Og];rw [List.getElem?_set_self (by omega)]
  have Ve : Hid (xw.length + 1 ≤ 1000000):=by show _ ≤ _;have h1:=C5.out;have h2:=RM.out;rw [Og];simp;omega
  have v7 : Hid (Below base w2 w5):=sp.out.below base vX.out (fun j hj => (z_.out.range j hj).1)
  have Lv : Hid (base ≤ w5.heap.size):=Nat.le_trans vX.out v7.out.size;have Hxw:=zh Og;clear Og;have V7:=Lt;obtain ⟨u5,T5,V8,V9,RN,ER,Lw,ES,nO⟩:=V7.out.growRow V6.out;obtain ⟨Cw,Cx,rfl,-,-,-⟩:=id RN.read;have RO:=zh RN;have ET:=zh nO;have Lx : g ≠ bo:=fun h => Ki.out (h ▸ ES)
  have aaD:=zh Lx;have RP:=zh Lw;have RQ:=zh ES;have RR:=zh ER;have RS:=zh V8;have Hf5:=zh V9;have RT : Hid (bo ∉ T5):=fun h => Ki.out (ER _ h)
  have Rc:=zh (bH.cells Lu.out);clear Lx Lw ES ER V8 V9 RN nO;refine aI (fun W => W.cell? ⟨bo,0,none⟩ = some (.slice (some ⟨g,0,none⟩) n.ends.length c1) ∧ W.cell? ⟨g,v,none⟩ = some (.slice Cw xw.length Cx)) 13 [false,false,false,false,false,false,false,false,false,false,false,true,true] (by kernel_rfl) (by kernel_rfl) (show (World.drew w5).cell? ⟨bo,0,none⟩ = some (.slice (some ⟨g,0,none⟩) n.ends.length c1) ∧ (World.drew w5).cell? ⟨g,v,none⟩ = some (.slice Cw xw.length Cx) from ⟨Rc.out.1,RS.out⟩) ?_
  simp only [d_,dO,zT]
  iterate 11 (apply bY rfl;(intro W hW;(obtain ⟨k0,k1⟩:=hW);go_simp;with_reducible rfl);simp only [zA])
  obtain ⟨W,dr⟩ : ∃ W,W = World.drew w5:=⟨_,rfl⟩
  rw [← dr];have hW:=(show (World.drew w5).cell? ⟨bo,0,none⟩ = some (.slice (some ⟨g,0,none⟩) n.ends.length c1) ∧ (World.drew w5).cell? ⟨g,v,none⟩ = some (.slice Cw xw.length Cx) from ⟨Rc.out.1,RS.out⟩);rw [← dr] at hW;have fV:=zh dr;clear dr
  refine dz (v:=?_) (ob:=?_) rfl ?_ ?_ ?_;rotate_left 2
  (go_simp;first | with_reducible rfl | (refine ⟨?_,?_⟩ <;> with_reducible rfl))
  exact ⟨bc (au _ _) hW.1,bc (au _ _) hW.2⟩;intro w8 lE md
  replace hW:=md
  clear md
  have Ct : Hid (w8 = (World.drew w5).alloc (.cells #[.int .i64 (v : Int),.int .i64 (xv.length : Int)] 83)):=by show _ = _;rw [lE,fV.out]
  have k_ : Hid (aa w5 w8):=by show aa _ _;rw [Ct.out];exact ah _ (ak (ad _))
  have rY : Hid (eU w8 base (.slice Cw xw.length Cx) xw T5):=jA.keep RO.out k_.out.below
  have Cu : Hid (w8.cell? ⟨w5.heap.size,0,none⟩ = some (.int .i64 (v : Int)) ∧ w8.cell? ⟨w5.heap.size,1,none⟩ = some (.int .i64 (xv.length : Int))):=by show _ ∧ _;rw [Ct.out];exact ma (World.drew w5) _ _ _
  rw [show W.heap.size = w5.heap.size from by rw [fV.out];rfl]
  clear lE fV
  (try simp only [zA])
  refine dP (fun Q' HQ => ?_)
  (refine kN (base:=base) (v:=.slice Cw xw.length Cx) (xs:=xw) rfl _ _ rfl rfl rY.out w5.heap.size ((v : Int),(xv.length : Int)) rfl Cu.out.1 Cu.out.2 Ve.out (Nat.le_trans Lv.out k_.out.below.size) ?_);intro g9 Je w9 ix rr xr;have fQ:=aU.of_grown rr;have vZ : (Value.slice Cw xw.length Cx).ownBlock.toList = T5:=(RO.out.2).symm;have mK : (⟨bo,0,none⟩ : Addr).block ∉ (Value.slice Cw xw.length Cx).ownBlock.toList:=(by rw [vZ];exact RT.out);have lh : (⟨g,v,none⟩ : Addr).block ∉ (Value.slice Cw xw.length Cx).ownBlock.toList:=(by rw [vZ];exact RP.out);have j_:=fQ.cell mK hW.1;have mL:=fQ.cell lh hW.2;have IY:=fQ.fz lh hW.2 (bf k_.out.below RS.out Hf5.out);refine HQ _ _ ⟨j_,mL⟩ ?_;have pY:=zh (oB ET.out RO.out k_.out ix rr xr RR.out RQ.out);clear ix rr xr mK lh fQ vZ hW
  (try simp only [zA])
  simp only [bA];go_upto_region 8 with (fail);obtain ⟨Sw7,eF,eD,wK⟩:=pY.out;obtain ⟨w7,hw⟩ : ∃ z,z = w9.setCell ⟨g,v,none⟩ (.slice (some ⟨g9,0,none⟩) (xw.length + 1) Je):=⟨_,rfl⟩
  rw [← hw] at eF wK ⊢;have RU:=zh eF;have aaE:=zh eD;have Cy:=zh wK;clear hw eF eD wK pY j_ mL IY
  have Pv : Hid (aA w7 base (.slice (some ⟨g,0,none⟩) n.ends.length c1) (.slice AI n.ids.length cI) (.slice AN n.inputs.length cN) (dq n v v) Sw7):=by
   have h1:=RU.out
   have e : ({ ends:=(n.ends.set v (xv ++ [((v : Int),((xv.length : Int) + 1))])).set v (xw ++ [((v : Int),(xv.length : Int))]),ids:=n.ids,inputs:=n.inputs } : am) = dq n v v:=by
    have h2:=V6.out
    have h3 : cG ({ ends:=n.ends.set v (xv ++ [((v : Int),((xv.length : Int) + 1))]),ids:=n.ids,inputs:=n.inputs } : am) v = xw:=by unfold cG;rw [zDd];show ((n.ends.set v _)[v]?).getD [] = xw;rw [h2];rfl
    unfold dq;rw [if_pos rfl,← ID.out];unfold pU;rw [← ID.out,h3]
   rw [← e];exact h1
  have V3 : Hid (bH w7 bo (.slice (some ⟨g,0,none⟩) n.ends.length c1) (.slice AI n.ids.length cI) (.slice AN n.inputs.length cN)):=by obtain ⟨r,hr⟩:=Lu.out;exact ⟨r,(Cy.out.block bo (by have:=vj.out;have:=v7.out.size;omega) Ki.out).trans hr⟩
  have Cv : Hid (Below base w2 w7):=v7.out.trans (Cy.out.below base Lv.out (fun j hj => (V7.out.range j hj).1))
  have iQ : bQ w7 (w.heap.size + 1) (.slice none 0 0) (.slice none 0 0) (.slice none 0 0):=(Cv.out.block _ (by have h2:=vW.out;have h3:=H4.out;omega)).trans (Mu.out w2 cw.out)
  obtain ⟨d0,d1,d2,-,-,-⟩:=V3.out.cells;obtain ⟨e0,e1,e2,f0,f1,f2⟩:=iQ.box.cells;clear iQ;go_wp2;refine bodyPost_ret (v:=.agg #[.slice (some ⟨g,0,none⟩) n.ends.length c1,.slice AI n.ids.length cI,.slice AN n.inputs.length cN]) (by simp [results,Tryz.results155,go_sem, *]) rfl ?_;have Tf:=vW.out;have Ys:=H4.out;refine ⟨_,_,_,_,rfl,(Pv.out.stable (fun j hj => ?_)).mono (show w.heap.size ≤ base by omega),?_⟩
  ·have sD:=(Pv.out.range j hj).1;rw [Below.heap_setCell _ _ _ j (by simp;omega),Below.heap_setCell _ _ _ j (by simp;omega),Below.heap_setCell _ _ _ j (by simp;omega)]
  ·have hk : Below w.heap.size w w7:=(Below.trans gG.out (cw.out.below.mono (by omega))).trans (Cv.out.mono (by omega));exact ((hk.setCell (by simp) _).setCell (by simp) _).setCell (by simp) _
 ·have fS : ((v : Int) = (u : Int)) = False:=by simp;omega
  go_upto_region 2 with (fail);rw [← j7.out,← Pu.out];go_upto_region 6 with (fail);clear SK iq fO fS;obtain ⟨u2,T2,wU,FG,Ae,pW,vY,q_,kS⟩:=z_.out.growRow VY.out;obtain ⟨sn,so,rfl,-,-,-⟩:=id Ae.read;have EL:=zh Ae;have pX:=zh kS;have Cs : g ≠ bo:=fun h => EK.out (h ▸ q_)
  have VZ:=zh Cs;have EM:=zh vY;have EO:=zh q_;have EP:=zh pW;have Ls:=zh wU;have RK:=zh FG;have EQ : Hid (bo ∉ T2):=fun h => EK.out (pW _ h)
  have vx:=zh (bH.cells Cq.out);clear Cs vY q_ pW wU FG Ae kS;refine aI (fun W => W.cell? ⟨bo,0,none⟩ = some (.slice (some ⟨g,0,none⟩) n.ends.length c1) ∧ W.cell? ⟨g,v,none⟩ = some (.slice sn xv.length so)) 13 [false,false,false,false,false,false,false,false,false,false,false,true,true] (by kernel_rfl) (by kernel_rfl) (show (World.drew w2).cell? ⟨bo,0,none⟩ = some (.slice (some ⟨g,0,none⟩) n.ends.length c1) ∧ (World.drew w2).cell? ⟨g,v,none⟩ = some (.slice sn xv.length so) from ⟨vx.out.1,Ls.out⟩) ?_
  simp only [d_,dO,zT]
  iterate 11 (apply bY rfl;(intro W hW;(obtain ⟨k0,k1⟩:=hW);go_simp;with_reducible rfl);simp only [zA])
  obtain ⟨W,dr⟩ : ∃ W,W = World.drew w2:=⟨_,rfl⟩
  rw [← dr];have hW:=(show (World.drew w2).cell? ⟨bo,0,none⟩ = some (.slice (some ⟨g,0,none⟩) n.ends.length c1) ∧ (World.drew w2).cell? ⟨g,v,none⟩ = some (.slice sn xv.length so) from ⟨vx.out.1,Ls.out⟩);rw [← dr] at hW;have fV:=zh dr;clear dr
  refine dz (v:=?_) (ob:=?_) rfl ?_ ?_ ?_;rotate_left 2
  (go_simp;first | with_reducible rfl | (refine ⟨?_,?_⟩ <;> with_reducible rfl))
  exact ⟨bc (au _ _) hW.1,bc (au _ _) hW.2⟩;intro w8 lE md
  replace hW:=md
  clear md
  have Ct : Hid (w8 = (World.drew w2).alloc (.cells #[.int .i64 (u : Int),.int .i64 (xu.length : Int)] 83)):=by show _ = _;rw [lE,fV.out]
  have k_ : Hid (aa w2 w8):=by show aa _ _;rw [Ct.out];exact ah _ (ak (ad _))
  have rY : Hid (eU w8 base (.slice sn xv.length so) xv T2):=jA.keep EL.out k_.out.below
  have Cu : Hid (w8.cell? ⟨w2.heap.size,0,none⟩ = some (.int .i64 (u : Int)) ∧ w8.cell? ⟨w2.heap.size,1,none⟩ = some (.int .i64 (xu.length : Int))):=by show _ ∧ _;rw [Ct.out];exact ma (World.drew w2) _ _ _
  rw [show W.heap.size = w2.heap.size from by rw [fV.out];rfl]
  clear lE fV
  (try simp only [zA])
  refine dP (fun Q' HQ => ?_)
  (refine kN (base:=base) (v:=.slice sn xv.length so) (xs:=xv) rfl _ _ rfl rfl rY.out w2.heap.size ((u : Int),(xu.length : Int)) rfl Cu.out.1 Cu.out.2 Tt.out (Nat.le_trans vX.out k_.out.below.size) ?_);intro g9 Je w9 ix rr xr;have fQ:=aU.of_grown rr;have vZ : (Value.slice sn xv.length so).ownBlock.toList = T2:=(EL.out.2).symm;have mK : (⟨bo,0,none⟩ : Addr).block ∉ (Value.slice sn xv.length so).ownBlock.toList:=(by rw [vZ];exact EQ.out);have lh : (⟨g,v,none⟩ : Addr).block ∉ (Value.slice sn xv.length so).ownBlock.toList:=(by rw [vZ];exact EM.out);have j_:=fQ.cell mK hW.1;have mL:=fQ.cell lh hW.2;have IY:=fQ.fz lh hW.2 (bf k_.out.below Ls.out RK.out);refine HQ _ _ ⟨j_,mL⟩ ?_;have pY:=zh (oB pX.out EL.out k_.out ix rr xr EP.out EO.out);clear ix rr xr mK lh fQ vZ hW
  (try simp only [zA])
  simp only [bA];go_upto_region 7 with (fail);obtain ⟨V0,eF,eD,wK⟩:=pY.out;obtain ⟨w5,hw⟩ : ∃ z,z = w9.setCell ⟨g,v,none⟩ (.slice (some ⟨g9,0,none⟩) (xv.length + 1) Je):=⟨_,rfl⟩
  rw [← hw] at eF wK ⊢;have Lt:=zh eF;have Of:=zh eD;have sp:=zh wK;clear hw eF eD wK pY j_ mL IY
  have Lu : Hid (bH w5 bo (.slice (some ⟨g,0,none⟩) n.ends.length c1) (.slice AI n.ids.length cI) (.slice AN n.inputs.length cN)):=by obtain ⟨r,hr⟩:=Cq.out;exact ⟨r,(sp.out.block bo vj.out.2 EK.out).trans hr⟩
  have Ki : Hid (bo ∉ V0):=fun hj => by
   have h2:=vj.out;rcases Of.out _ hj with h1 | h1
   ·exact EK.out h1
   ·omega
  obtain ⟨xw,Og⟩ : ∃ z,z = xu:=⟨_,rfl⟩
  have V6 : Hid ((n.ends.set v (xv ++ [((u : Int),(xu.length : Int))]))[u]? = some xw):=by show _ = _;rw [Og];rw [List.getElem?_set_ne V4];exact HXu.out
  have Ve : Hid (xw.length + 1 ≤ 1000000):=by show _ ≤ _;have h1:=C5.out;have h2:=RM.out;rw [Og];omega
  have v7 : Hid (Below base w2 w5):=sp.out.below base vX.out (fun j hj => (z_.out.range j hj).1)
  have Lv : Hid (base ≤ w5.heap.size):=Nat.le_trans vX.out v7.out.size;have Hxw:=zh Og;clear Og;have V7:=Lt;obtain ⟨u5,T5,V8,V9,RN,ER,Lw,ES,nO⟩:=V7.out.growRow V6.out;obtain ⟨Cw,Cx,rfl,-,-,-⟩:=id RN.read;have RO:=zh RN;have ET:=zh nO;have Lx : g ≠ bo:=fun h => Ki.out (h ▸ ES)
  have aaD:=zh Lx;have RP:=zh Lw;have RQ:=zh ES;have RR:=zh ER;have RS:=zh V8;have Hf5:=zh V9;have RT : Hid (bo ∉ T5):=fun h => Ki.out (ER _ h)
  have Rc:=zh (bH.cells Lu.out);clear Lx Lw ES ER V8 V9 RN nO;refine aI (fun W => W.cell? ⟨bo,0,none⟩ = some (.slice (some ⟨g,0,none⟩) n.ends.length c1) ∧ W.cell? ⟨g,u,none⟩ = some (.slice Cw xw.length Cx)) 13 [false,false,false,false,false,false,false,false,false,false,false,true,true] (by kernel_rfl) (by kernel_rfl) (show (World.drew w5).cell? ⟨bo,0,none⟩ = some (.slice (some ⟨g,0,none⟩) n.ends.length c1) ∧ (World.drew w5).cell? ⟨g,u,none⟩ = some (.slice Cw xw.length Cx) from ⟨Rc.out.1,RS.out⟩) ?_
  simp only [d_,dO,zT]
  iterate 11 (apply bY rfl;(intro W hW;(obtain ⟨k0,k1⟩:=hW);go_simp;with_reducible rfl);simp only [zA])
  obtain ⟨W,dr⟩ : ∃ W,W = World.drew w5:=⟨_,rfl⟩
  rw [← dr];have hW:=(show (World.drew w5).cell? ⟨bo,0,none⟩ = some (.slice (some ⟨g,0,none⟩) n.ends.length c1) ∧ (World.drew w5).cell? ⟨g,u,none⟩ = some (.slice Cw xw.length Cx) from ⟨Rc.out.1,RS.out⟩);rw [← dr] at hW;have fV:=zh dr;clear dr
  refine dz (v:=?_) (ob:=?_) rfl ?_ ?_ ?_;rotate_left 2
  (go_simp;first | with_reducible rfl | (refine ⟨?_,?_⟩ <;> with_reducible rfl))
  exact ⟨bc (au _ _) hW.1,bc (au _ _) hW.2⟩;intro w8 lE md
  replace hW:=md
  clear md
  have Ct : Hid (w8 = (World.drew w5).alloc (.cells #[.int .i64 (v : Int),.int .i64 (xv.length : Int)] 83)):=by show _ = _;rw [lE,fV.out]
  have k_ : Hid (aa w5 w8):=by show aa _ _;rw [Ct.out];exact ah _ (ak (ad _))
  have rY : Hid (eU w8 base (.slice Cw xw.length Cx) xw T5):=jA.keep RO.out k_.out.below
  have Cu : Hid (w8.cell? ⟨w5.heap.size,0,none⟩ = some (.int .i64 (v : Int)) ∧ w8.cell? ⟨w5.heap.size,1,none⟩ = some (.int .i64 (xv.length : Int))):=by show _ ∧ _;rw [Ct.out];exact ma (World.drew w5) _ _ _
  rw [show W.heap.size = w5.heap.size from by rw [fV.out];rfl]
  clear lE fV
  (try simp only [zA])
  refine dP (fun Q' HQ => ?_)
  (refine kN (base:=base) (v:=.slice Cw xw.length Cx) (xs:=xw) rfl _ _ rfl rfl rY.out w5.heap.size ((v : Int),(xv.length : Int)) rfl Cu.out.1 Cu.out.2 Ve.out (Nat.le_trans Lv.out k_.out.below.size) ?_);intro g9 Je w9 ix rr xr;have fQ:=aU.of_grown rr;have vZ : (Value.slice Cw xw.length Cx).ownBlock.toList = T5:=(RO.out.2).symm;have mK : (⟨bo,0,none⟩ : Addr).block ∉ (Value.slice Cw xw.length Cx).ownBlock.toList:=(by rw [vZ];exact RT.out);have lh : (⟨g,u,none⟩ : Addr).block ∉ (Value.slice Cw xw.length Cx).ownBlock.toList:=(by rw [vZ];exact RP.out);have j_:=fQ.cell mK hW.1;have mL:=fQ.cell lh hW.2;have IY:=fQ.fz lh hW.2 (bf k_.out.below RS.out Hf5.out);refine HQ _ _ ⟨j_,mL⟩ ?_;have pY:=zh (oB ET.out RO.out k_.out ix rr xr RR.out RQ.out);clear ix rr xr mK lh fQ vZ hW
  (try simp only [zA])
  simp only [bA];go_upto_region 8 with (fail);obtain ⟨Sw7,eF,eD,wK⟩:=pY.out;obtain ⟨w7,hw⟩ : ∃ z,z = w9.setCell ⟨g,u,none⟩ (.slice (some ⟨g9,0,none⟩) (xw.length + 1) Je):=⟨_,rfl⟩
  rw [← hw] at eF wK ⊢;have RU:=zh eF;have aaE:=zh eD;have Cy:=zh wK;clear hw eF eD wK pY j_ mL IY
  have Pv : Hid (aA w7 base (.slice (some ⟨g,0,none⟩) n.ends.length c1) (.slice AI n.ids.length cI) (.slice AN n.inputs.length cN) (dq n v u) Sw7):=by
   have h1:=RU.out
   have e : ({ ends:=(n.ends.set v (xv ++ [((u : Int),(xu.length : Int))])).set u (xw ++ [((v : Int),(xv.length : Int))]),ids:=n.ids,inputs:=n.inputs } : am) = dq n v u:=by
    have h2:=V6.out
    have h3 : cG ({ ends:=n.ends.set v (xv ++ [((u : Int),(xu.length : Int))]),ids:=n.ids,inputs:=n.inputs } : am) u = xw:=by unfold cG;rw [zDd];show ((n.ends.set v _)[u]?).getD [] = xw;rw [h2];rfl
    unfold dq;rw [if_neg V4,← ID.out,← Hxu.out];unfold pU;rw [← ID.out,h3]
   rw [← e];exact h1
  have V3 : Hid (bH w7 bo (.slice (some ⟨g,0,none⟩) n.ends.length c1) (.slice AI n.ids.length cI) (.slice AN n.inputs.length cN)):=by obtain ⟨r,hr⟩:=Lu.out;exact ⟨r,(Cy.out.block bo (by have:=vj.out;have:=v7.out.size;omega) Ki.out).trans hr⟩
  have Cv : Hid (Below base w2 w7):=v7.out.trans (Cy.out.below base Lv.out (fun j hj => (V7.out.range j hj).1))
  have iQ : bQ w7 (w.heap.size + 1) (.slice none 0 0) (.slice none 0 0) (.slice none 0 0):=(Cv.out.block _ (by have h2:=vW.out;have h3:=H4.out;omega)).trans (Mu.out w2 cw.out)
  obtain ⟨d0,d1,d2,-,-,-⟩:=V3.out.cells;obtain ⟨e0,e1,e2,f0,f1,f2⟩:=iQ.box.cells;clear iQ;go_wp2;refine bodyPost_ret (v:=.agg #[.slice (some ⟨g,0,none⟩) n.ends.length c1,.slice AI n.ids.length cI,.slice AN n.inputs.length cN]) (by simp [results,Tryz.results155,go_sem, *]) rfl ?_;have Tf:=vW.out;have Ys:=H4.out;refine ⟨_,_,_,_,rfl,(Pv.out.stable (fun j hj => ?_)).mono (show w.heap.size ≤ base by omega),?_⟩
  ·have sD:=(Pv.out.range j hj).1;rw [Below.heap_setCell _ _ _ j (by simp;omega),Below.heap_setCell _ _ _ j (by simp;omega),Below.heap_setCell _ _ _ j (by simp;omega)]
  ·have hk : Below w.heap.size w w7:=(Below.trans gG.out (cw.out.below.mono (by omega))).trans (Cv.out.mono (by omega));exact ((hk.setCell (by simp) _).setCell (by simp) _).setCell (by simp) _
def EU (n : am) (e : Int × Int) : Prop:=∃ (a b : Nat) (fs : List (Int × Int)),e = ((a : Int),(b : Int)) ∧ n.ends[a]? = some fs ∧ b < fs.length
def MF (n : am) : Prop:=∀ (k : Nat) (es : List (Int × Int)),n.ends[k]? = some es → ∀ e ∈ es,EU n e
def nU (n N : am) : Prop:=∀ (k : Nat) (es : List (Int × Int)),N.ends[k]? = some es → ∀ e ∈ es,EU n e
structure jg (n N : am) : Prop where
 ids : N.ids = n.ids
 inputs : N.inputs = n.inputs
 len : N.ends.length = n.ends.length
 row : ∀ (k : Nat) (es : List (Int × Int)),n.ends[k]? = some es → ∃ fs,N.ends[k]? = some fs ∧ fs.length = es.length
theorem jg.refl (n : am) : jg n n:=⟨rfl,rfl,rfl,fun _ es h => ⟨es,h,rfl⟩⟩
theorem EU.sh {n N : am} (h : jg n N) {e : Int × Int} (he : EU n e) : EU N e:=by
 obtain ⟨a,b,fs,h1,h2,h3⟩:=he;obtain ⟨gs,h4,h5⟩:=h.row a fs h2;exact ⟨a,b,gs,h1,h4,by omega⟩
theorem nU.wf {n N : am} (h : jg n N) (ha : nU n N) : MF N:=fun k es he e hm => (ha k es he e hm).sh h
theorem jg.put {n N : am} (h : jg n N) {k j : Nat} {es : List (Int × Int)} (hx : N.ends[k]? = some es) (y : Int × Int) : jg n { N with ends:=N.ends.set k (es.set j y) }:=⟨h.ids,h.inputs,by show (N.ends.set k _).length = _;rw [List.length_set];exact h.len,fun q fs hq => by
 obtain ⟨gs,h1,h2⟩:=h.row q fs hq
 by_cases e : q = k
 ·subst e;refine ⟨es.set j y,?_,?_⟩
  ·show (N.ends.set q _)[q]? = _
   rw [List.getElem?_set_self (aq hx)]
  ·rw [hx] at h1;cases h1;rw [List.length_set];exact h2
 ·exact ⟨gs,by show (N.ends.set k _)[q]? = _;rw [List.getElem?_set_ne (Ne.symm e)];exact h1,h2⟩⟩
theorem nU.put {n N : am} (h : nU n N) {k j : Nat} {es : List (Int × Int)} (hx : N.ends[k]? = some es) {y : Int × Int} (hy : EU n y) : nU n { N with ends:=N.ends.set k (es.set j y) }:=fun q fs hq e he => by
 by_cases hqk : q = k
 ·subst hqk;have Pd : (N.ends.set q (es.set j y))[q]? = some fs:=hq;rw [List.getElem?_set_self (aq hx)] at Pd;cases Pd;rcases List.mem_or_eq_of_mem_set he with h1 | h1
  ·exact h q es hx e h1
  ·rw [h1];exact hy
 ·have Pd : (N.ends.set k (es.set j y))[q]? = some fs:=hq;rw [List.getElem?_set_ne (Ne.symm hqk)] at Pd;exact h q fs Pd e he
structure Cp (wa W : World) (ob g c m : Nat) (vi vn : Value) (N : am) (S : List Nat) : Prop where
 own : aA W wa.heap.size (.slice (some ⟨g,0,none⟩) m c) vi vn N S
 box : bH W ob (.slice (some ⟨g,0,none⟩) m c) vi vn
 nb : ob ∉ S
 since : aa wa W
theorem Cp.keep {wa W W' : World} {ob g c m : Nat} {vi vn : Value} {N : am} {S : List Nat} (h : Cp wa W ob g c m vi vn N S) (hs : aa W W') : Cp wa W' ob g c m vi vn N S:=
 ⟨h.own.keep hs.below,h.box.below hs h.box.lt,h.nb,h.since.after hs⟩
theorem Cp.put {wa W : World} {ob g c m : Nat} {vi vn : Value} {N : am} {S : List Nat} (h : Cp wa W ob g c m vi vn N S) {p : Addr} (hp : wa.heap.size ≤ p.block) (hS : p.block ∉ S) (ho : p.block ≠ ob) (u : Value) : Cp wa (W.setCell p u) ob g c m vi vn N S:=
 ⟨h.own.stable (fun k hk => Below.heap_setCell _ _ _ _ (fun e => hS (e ▸ hk))),h.box.set ho,h.nb,h.since.setCell hp _⟩
theorem Cp.port {wa W : World} {ob g c m : Nat} {vi vn : Value} {N : am} {S : List Nat} (h : Cp wa W ob g c m vi vn N S) {k j : Nat} {es : List (Int × Int)} (hx : N.ends[k]? = some es) (hj : j < es.length) :
  ∃ gr cr : Nat,W.cell? ⟨g,k,none⟩ = some (.slice (some ⟨gr,0,none⟩) es.length cr) ∧ es.length ≤ cr ∧ cr ≤ 9223372036854775807 ∧ gr ∈ S ∧ g ≠ gr ∧ gr ≠ ob ∧ W.frozen? ⟨gr,j * 2,none⟩ = false ∧ W.frozen? ⟨gr,j * 2 + 1,none⟩ = false ∧ (∃ z,W.cell? ⟨gr,j * 2,none⟩ = some z) ∧ (∃ z,W.cell? ⟨gr,j * 2 + 1,none⟩ = some z) ∧
   ∀ y : Int × Int,Cp wa ((W.setCell ⟨gr,j * 2,none⟩ (.int .i64 y.1)).setCell ⟨gr,j * 2 + 1,none⟩ (.int .i64 y.2)) ob g c m vi vn { N with ends:=N.ends.set k (es.set j y) } S:=by
 obtain ⟨gr,cr,c1,c2,c3,c4,c5,c6,⟨c7,c8⟩,c9,c10,mB⟩:=h.own.setEnd hx hj;have hgs : wa.heap.size ≤ gr:=(h.own.range gr c5).1;have hn : gr ≠ ob:=fun e => h.nb (e ▸ c5)
 unfold maxLen at c3;exact ⟨gr,cr,c1,c2,by omega,c5,c6,hn,c7,c8,c9,c10,fun y => ⟨mB y,(h.box.set hn).set hn,h.nb,(h.since.setCell hgs _).setCell hgs _⟩⟩
def V_ (w : World) (n : am) (e : Ending) (w' : World) : Prop:=∃ N,jg n N ∧ MF N ∧ pu w N e w'
theorem Cz (ve vi vn vp : Value) (n : am) (v : Nat) (xs : List Int) (w : World) (h : aT w ve vi vn n) (hv : v < n.ends.length) (hn : pT n) (Wb : MF n) (hp : bD w vp xs) (za : xs.length = (cG n v).length) (fo : pS (cG n v).length xs) :
  Calls Tryz.prog 208 #[.agg #[ve,vi,vn],.int .i64 v,vp] w (V_ w n):=by
 obtain ⟨xv,pV⟩ : ∃ x,x = cG n v:=⟨_,rfl⟩
 rw [← pV] at za fo;have qL:=cD hv;rw [← pV] at qL;have eA:=zh fo;have C4:=zh za;have RX:=zh qL;have Gg:=zh hn;have Yt:=zh Wb;have C5 : Hid (xv.length ≤ 1000):=hn.row _ _ qL;clear hn Wb qL pV za fo;obtain ⟨AP,cP,rfl,hlP,hmP,-⟩:=id hp
 obtain ⟨w0,A,c,A2,c2,A3,c3,rfl,rfl,rfl,ft,hm,f6,gF,HA,dh,bv,H,eG,eX,fb⟩:=zB h;clear h
 obtain ⟨wa,kH⟩ : ∃ wa,wa = w0.alloc (.cells #[.slice none 0 0,.slice none 0 0,.slice none 0 0] 27):=⟨_,rfl⟩
 have oy : aa w0 wa:=by rw [kH];exact ah _ (ad _)
 have qc : w0.heap.size = w.heap.size + 1:=by rw [dh.out];simp
 have H4 : Hid (wa.heap.size = w.heap.size + 1 + 1):=by show _ = _;rw [kH,← qc];simp
 have Mu : Hid (∀ X,aa wa X → bQ X (w.heap.size + 1) (.slice none 0 0) (.slice none 0 0) (.slice none 0 0)):=fun X hX => by
  refine bQ.since (W:=wa) ?_ hX;rw [kH,← qc];show (w0.heap.push _)[w0.heap.size]? = _
  rw [Array.getElem?_push_size]
 have HP:=zh (show ∀ X,aa wa X → bD X (.slice AP xs.length cP) xs from fun X hX => (hp.keep bv.out).keep (oy.after hX).below)
 have HN:=zh (show ∀ X,aa wa X → aT X (.slice A n.ends.length c) (.slice A2 n.ids.length c2) (.slice A3 n.inputs.length c3) n from fun X hX => H.out.keep (oy.after hX).below)
 have O5:=ai eG oy;have O6:=ai eX oy;have O7:=ai fb oy;have DW:=zh kH;have CW:=zh oy;have gG : Hid (Below w.heap.size w wa):=Below.trans bv.out (oy.below.mono bv.out.size);clear kH oy qc eG eX fb hp
 go_enter Tryz.func208,Tryz.ntmps208
 go_upto_region 1 with (fail);rw [← dh.out,← DW.out];have hs : aa wa wa:=ad _;go_wp2_with fail;refine (kp _ _ _ n wa (HN.out _ hs) Gg.out.ends Gg.out.row Gg.out.sz).mono ?_;rintro e w1 ⟨we,wi,wn,S,rfl,ho,bj⟩;obtain ⟨A1,c1,rfl,-,-,-⟩:=id ho.read.1;obtain ⟨AI,cI,rfl,-,-,-⟩:=id ho.read.2.1;obtain ⟨AN,cN,rfl,-,-,-⟩:=id ho.read.2.2;obtain ⟨g,rfl,-⟩:=ho.head (by omega);have dm : aa wa w1:=hs.trans bj;obtain ⟨w2,dK⟩ : ∃ z,z = w1.alloc (.cells #[.slice (some ⟨g,0,none⟩) n.ends.length c1,.slice AI n.ids.length cI,.slice AN n.inputs.length cN] 27):=⟨_,rfl⟩
 obtain ⟨bo,vV⟩ : ∃ z,z = w1.heap.size:=⟨_,rfl⟩
 have jZ : aa w1 w2:=by rw [dK];exact ah _ (ad _)
 have Gh : Cp wa w2 bo g c1 n.ends.length (.slice AI n.ids.length cI) (.slice AN n.inputs.length cN) n S:=by
  refine ⟨ho.keep jZ.below,by rw [dK,vV];exact bH.new _ _ _ _ _,fun hj => by have:=(ho.range _ hj).2;omega,dm.after jZ⟩
 have Hcp:=zh Gh;have j7:=zh dK;have Pu:=zh vV;have dE:=dm.after jZ
 have vj : Hid (wa.heap.size ≤ bo ∧ bo < w2.heap.size):=⟨by rw [vV];exact dm.below.size,by rw [dK,vV];simp⟩
 have HSr : Hid (∀ j ∈ S,wa.heap.size ≤ j ∧ j < w2.heap.size):=Gh.own.range;obtain ⟨br,Qc,cr0,ur,hA0,-,ZX,hEr⟩:=jQ (HN.out wa (ad _)).es RX.out;cases hA0;obtain ⟨A9,y9,rfl,eF,eD,Ik⟩:=hEr;unfold maxLen at eD;have HA9:=zh Ik;have r0:=ai (ae ZX) dE;have m00:=ai O5 dE;have m01:=ai O6 dE;have m02:=ai O7 dE;have fO:=Gh.box.cells.1;clear Ik ZX Gh vV dK ho dm jZ bj hs O5 O6 O7;go_upto_region 2 with (fail);rw [← j7.out,← Pu.out];have cw:=zh dE;clear dE fO;have r0':=r0 w2 (ad _);have m0':=m00 w2 (ad _);clear r0 m00 m01 m02;go_wp2;clear r0' m0'
 go_loopw [18] (fun i wr => ∃ (k : Nat) (N : am),k ≤ xv.length ∧ i = .int .i64 k ∧ Cp wa wr bo g c1 n.ends.length (.slice AI n.ids.length cI) (.slice AN n.inputs.length cN) N S ∧ jg n N ∧ nU n N) (fun i _ => xv.length - (intOf i).toNat)
 case atStart => exact ⟨0,n,Nat.zero_le _,rfl,Hcp.out,jg.refl _,Yt.out⟩
 case round =>
  obtain ⟨k,N,hk,rfl,Gh,Tw,hal⟩:=hrel;have aaF:=zh Gh;have Ly:=zh Tw;have Hal:=zh hal;have lw:=zh Gh.since;clear Tw hal
  by_cases hlt : k < xv.length
  ·obtain ⟨e,he⟩:=aW xv k hlt;obtain ⟨a,b,fs,rfl,hfa,qy⟩:=Yt.out v xv RX.out e (List.mem_of_getElem? he);obtain ⟨b9,o9,rfl,tW,pw⟩:=HA9.out k _ he;have s1:=ae tW wr lw.out;have s2:=ae pw wr lw.out
   obtain ⟨p,hp⟩:=aW xs k (by rw [C4.out];exact hlt)
   obtain ⟨AP',cP',Oh,-,-,hP⟩:=HP.out wr lw.out;simp only [Value.slice.injEq] at Oh;obtain ⟨rfl,-,rfl⟩:=Oh;obtain ⟨bp,op,rfl,it⟩:=hP k p hp;obtain ⟨Yu,yE⟩:=eA.out p (List.mem_of_getElem? hp);obtain ⟨pn,rfl⟩ : ∃ pn : Nat,p = (pn : Int):=⟨p.toNat,by omega⟩
   have IZ : pn < xv.length:=by omega
   have m4 : IntKind.i64.wrap ((k : Int) + 1) = (k : Int) + 1:=aL _ (by omega) (by omega);obtain ⟨w3,gY⟩ : ∃ z,z = wr.alloc (.cells #[.int .i64 (a : Int),.int .i64 (b : Int)] 83):=⟨_,rfl⟩
   obtain ⟨eb,Oi⟩ : ∃ z,z = wr.heap.size:=⟨_,rfl⟩
   have h3 : aa wr w3:=by rw [gY];exact ah _ (ad _)
   have Tx : mc w3 eb #[.int .i64 (a : Int),.int .i64 (b : Int)]:=by rw [gY,Oi];exact mc.new _ _ _
   have HE3:=zh Tx
   have Oj : Hid (eb ∉ S):=fun hj => by have:=(Gh.own.range _ hj).2;omega
   have aaG : Hid (eb ≠ bo):=fun e => by have:=Gh.box.lt;omega
   have aaH : Hid (wa.heap.size ≤ eb):=by show _ ≤ _;rw [Oi];exact Gh.since.below.size
   have RY:=zh (Gh.keep h3);have t1:=(Tx.cell 0 _ rfl).1;have t2:=(Tx.cell 1 _ rfl).1;have f2:=(Tx.cell 1 _ rfl).2;have pc3:=bc h3.below it;have sG:=zh gY;have Heb:=zh Oi;have Hp:=zh hp;have Yv:=zh hfa;have Hx:=zh Tx;have H3:=zh h3;clear Gh he tW pw Yu yE hp it hP gY Oi Tx h3 hfa;go_upto_region 5 with (fail);rw [← sG.out,← Heb.out];clear s1 s2
   by_cases hav : a = v
   ·subst hav
    obtain rfl : fs = xv:=by have h1:=Yv.out;rw [RX.out] at h1;cases h1;rfl
    obtain ⟨q,hq⟩:=aW xs b (by rw [C4.out];exact qy)
    obtain ⟨AP',cP',Oh,-,-,hP⟩:=HP.out w3 (lw.out.after H3.out);simp only [Value.slice.injEq] at Oh;obtain ⟨Oh,-,rfl⟩:=Oh;obtain ⟨bp',op',hA7,hqc⟩:=hP b q hq
    obtain ⟨rfl,rfl⟩ : bp = bp' ∧ op = op':=by rw [hA7] at Oh;simpa using Oh
    obtain ⟨na,o_⟩:=eA.out q (List.mem_of_getElem? hq);have Ty : Hid (EU n ((a : Int),q)):=⟨a,q.toNat,fs,by rw [Int.toNat_of_nonneg na],RX.out,by omega⟩
    clear Oh hA7 hP hq na o_;have htt : ((a : Int) = (a : Int)) = True:=by simp
    have abq : b < xs.length:=by rw [C4.out];exact qy
    go_upto_region 8 with (fail);obtain ⟨w4,gZ⟩ : ∃ z,z = w3.setCell ⟨eb,1,none⟩ (.int .i64 q):=⟨_,rfl⟩
    rw [← gZ]
    have RZ : mc w4 eb #[.int .i64 (a : Int),.int .i64 q]:=by rw [gZ];exact nQ Hx.out 1 _
    have EV : Hid (Cp wa w4 bo g c1 n.ends.length (.slice AI n.ids.length cI) (.slice AN n.inputs.length cN) N S):=by show Cp _ _ _ _ _ _ _ _ _ _;rw [gZ];exact RY.out.put (p:=⟨eb,1,none⟩) aaH.out Oj.out aaG.out _
    clear pc3 t1 t2 f2 hqc htt gZ;have Lz:=zh EV.out.since;obtain ⟨gv,pD,aaI⟩:=Ly.out.row a fs RX.out;obtain ⟨gr,cr,jN,n1',n2',Tz,n4',n5',Wc,Bp,⟨z0',oK⟩,⟨TP,pc⟩,mB⟩:=EV.out.port (j:=pn) pD (by omega);have mB:=mB ((a : Int),(q : Int));have CZ:=zh mB;have Pg:=zh pD;have TA : pn < gv.length:=by omega
    have Wd : gr ≠ eb:=fun e => Oj.out (e ▸ Tz)
    clear mB pD;have t0:=ae EV.out.box.cells.1;have t4:=ae jN;have R0:=ae (RZ.cell 0 _ rfl).1;have R4:=ae (RZ.cell 1 _ rfl).1;obtain ⟨AP5,cP5,sC,-,-,We⟩:=HP.out w4 Lz.out;simp only [Value.slice.injEq] at sC;obtain ⟨sC,-,rfl⟩:=sC;obtain ⟨bp5,op5,Wf,LA⟩:=We k _ Hp.out
    obtain ⟨rfl,rfl⟩ : bp = bp5 ∧ op = op5:=by rw [Wf] at sC;simpa using sC
    have Wg:=ae LA
    have Zk : k < xs.length:=by rw [C4.out];exact hlt
    clear sC Wf We LA RZ;refine ec (w0:=w4) 11 [false,false,false,false,false,false,false,false,false,false,false] (by kernel_rfl) (by kernel_rfl) (ad _) ?_;simp only [d_,dO,zT]
    iterate 11 (apply bB rfl;(intro W hW;go_simp;with_reducible rfl);simp only [zA])
    simp only [k7,bA];obtain ⟨W,dr⟩ : ∃ W,W = World.drew w4:=⟨_,rfl⟩
    rw [← dr]
    have hW : aa w4 W:=by rw [dr];exact ak (ad _)
    go_upto_region 9 with (fail);obtain ⟨w5,LB⟩ : ∃ X,X = World.drew ((w4.setCell ⟨gr,pn * 2,none⟩ (.int .i64 (a : Int))).setCell ⟨gr,pn * 2 + 1,none⟩ (.int .i64 (q : Int))):=⟨_,rfl⟩
    rw [← LB]
    have R5 : Hid (Cp wa w5 bo g c1 n.ends.length (.slice AI n.ids.length cI) (.slice AN n.inputs.length cN) ({ N with ends:=N.ends.set a (gv.set pn ((a : Int),(q : Int))) } : am) S):=by show Cp _ _ _ _ _ _ _ _ _ _;rw [LB];exact CZ.out.keep (ak (ad _))
    have R6:=zh (Ly.out.put (j:=pn) Pg.out ((a : Int),(q : Int)));have R7:=zh (Hal.out.put (j:=pn) Pg.out Ty.out);clear LB CZ jN oK pc Wc Bp t0 t4 R0 R4 Wg;go_wp2;go_roundw
    case rel => exact ⟨k + 1,_,by omega,by first | rfl | go_num,R5.out,R6.out,R7.out⟩
    case measure => simp [intOf];omega
   ·have fS : ((a : Int) = (v : Int)) = False:=by simp;omega
    obtain ⟨ga,hga,abr⟩:=Ly.out.row a fs Yv.out;obtain ⟨gr,cr,jN,n1',n2',Tz,n4',n5',Wc,Bp,⟨z0',oK⟩,⟨TP,pc⟩,mB⟩:=RY.out.port (j:=b) hga (by omega);have Ty : Hid (EU n ((v : Int),(pn : Int))):=⟨v,pn,xv,rfl,RX.out,IZ⟩;have mB:=mB ((v : Int),(pn : Int));have CZ:=zh mB;have Hga:=zh hga;have TA : b < ga.length:=by omega
    have Wd : gr ≠ eb:=fun e => Oj.out (e ▸ Tz)
    have hal : a < n.ends.length:=aq Yv.out
    have abs : k < xs.length:=by rw [C4.out];exact hlt
    clear mB hga;go_upto_region 7 with (fail);clear fS;have t0:=ae RY.out.box.cells.1;have t4:=ae jN;have R0:=ae t1;have R4:=ae t2;have Wg:=ae pc3;clear t1 t2 pc3;refine ec (w0:=w3) 15 [false,false,false,false,false,false,false,false,false,false,false,false,false,false,false] (by kernel_rfl) (by kernel_rfl) (ad _) ?_;simp only [d_,dO,zT]
    iterate 15 (apply bB rfl;(intro W hW;go_simp;with_reducible rfl);simp only [zA])
    simp only [k7,bA];obtain ⟨W,dr⟩ : ∃ W,W = World.drew w3:=⟨_,rfl⟩
    rw [← dr]
    have hW : aa w3 W:=by rw [dr];exact ak (ad _)
    go_upto_region 8 with (fail);obtain ⟨w4,gZ⟩ : ∃ X,X = World.drew ((w3.setCell ⟨gr,b * 2,none⟩ (.int .i64 (v : Int))).setCell ⟨gr,b * 2 + 1,none⟩ (.int .i64 (pn : Int))):=⟨_,rfl⟩
    rw [← gZ]
    have LC : Hid (Cp wa w4 bo g c1 n.ends.length (.slice AI n.ids.length cI) (.slice AN n.inputs.length cN) ({ N with ends:=N.ends.set a (ga.set b ((v : Int),(pn : Int))) } : am) S):=by show Cp _ _ _ _ _ _ _ _ _ _;rw [gZ];exact CZ.out.keep (ak (ad _))
    have RZ : mc w4 eb #[.int .i64 (a : Int),.int .i64 (b : Int)]:=by rw [gZ];exact (Hx.out.set (p:=⟨gr,b * 2,none⟩) Wd).set (p:=⟨gr,b * 2 + 1,none⟩) Wd
    have LD:=zh (Ly.out.put (j:=b) Hga.out ((v : Int),(pn : Int)));have Px:=zh (Hal.out.put (j:=b) Hga.out Ty.out);obtain ⟨N4,hN4⟩ : ∃ z,z = ({ N with ends:=N.ends.set a (ga.set b ((v : Int),(pn : Int))) } : am):=⟨_,rfl⟩
    rw [← hN4] at LC LD Px;have EV:=LC;clear gZ CZ jN oK pc Wc Bp t0 t4 R0 R4 Wg n1' n2' Tz n4' n5' Wd f2 hN4 LC;have Wh : Hid (EU n ((a : Int),(b : Int))):=⟨a,b,fs,rfl,Yv.out,qy⟩;clear Ty;have Ty:=Wh;clear Wh;have Lz:=zh EV.out.since;obtain ⟨gv,pD,aaI⟩:=LD.out.row v xv RX.out;obtain ⟨gr,cr,jN,n1',n2',Tz,n4',n5',Wc,Bp,⟨z0',oK⟩,⟨TP,pc⟩,mB⟩:=EV.out.port (j:=pn) pD (by omega);have mB:=mB ((a : Int),(b : Int));have CZ:=zh mB;have Pg:=zh pD;have TA : pn < gv.length:=by omega
    have Wd : gr ≠ eb:=fun e => Oj.out (e ▸ Tz)
    clear mB pD;have t0:=ae EV.out.box.cells.1;have t4:=ae jN;have R0:=ae (RZ.cell 0 _ rfl).1;have R4:=ae (RZ.cell 1 _ rfl).1;obtain ⟨AP5,cP5,sC,-,-,We⟩:=HP.out w4 Lz.out;simp only [Value.slice.injEq] at sC;obtain ⟨sC,-,rfl⟩:=sC;obtain ⟨bp5,op5,Wf,LA⟩:=We k _ Hp.out
    obtain ⟨rfl,rfl⟩ : bp = bp5 ∧ op = op5:=by rw [Wf] at sC;simpa using sC
    have Wg:=ae LA
    have Zk : k < xs.length:=by rw [C4.out];exact hlt
    clear sC Wf We LA RZ;refine ec (w0:=w4) 11 [false,false,false,false,false,false,false,false,false,false,false] (by kernel_rfl) (by kernel_rfl) (ad _) ?_;simp only [d_,dO,zT]
    iterate 11 (apply bB rfl;(intro W hW;go_simp;with_reducible rfl);simp only [zA])
    simp only [k7,bA];obtain ⟨W,dr⟩ : ∃ W,W = World.drew w4:=⟨_,rfl⟩
    rw [← dr]
    have hW : aa w4 W:=by rw [dr];exact ak (ad _)
    go_upto_region 9 with (fail);obtain ⟨w5,LB⟩ : ∃ X,X = World.drew ((w4.setCell ⟨gr,pn * 2,none⟩ (.int .i64 (a : Int))).setCell ⟨gr,pn * 2 + 1,none⟩ (.int .i64 (b : Int))):=⟨_,rfl⟩
    rw [← LB]
    have R5 : Hid (Cp wa w5 bo g c1 n.ends.length (.slice AI n.ids.length cI) (.slice AN n.inputs.length cN) ({ N4 with ends:=N4.ends.set v (gv.set pn ((a : Int),(b : Int))) } : am) S):=by show Cp _ _ _ _ _ _ _ _ _ _;rw [LB];exact CZ.out.keep (ak (ad _))
    have R6:=zh (LD.out.put (j:=pn) Pg.out ((a : Int),(b : Int)));have R7:=zh (Px.out.put (j:=pn) Pg.out Ty.out);clear LB CZ jN oK pc Wc Bp t0 t4 R0 R4 Wg;go_wp2;go_roundw
    case rel => exact ⟨k + 1,_,by omega,by first | rfl | go_num,R5.out,R6.out,R7.out⟩
    case measure => simp [intOf];omega
  ·obtain rfl : k = xv.length:=by omega
   have iQ:=Mu.out wr lw.out;obtain ⟨d0,d1,d2,-,-,-⟩:=aaF.out.box.cells;obtain ⟨e0,e1,e2,f0,f1,f2⟩:=iQ.box.cells;have Hc:=zh Gh;clear iQ Gh;go_wp2;refine bodyPost_ret (v:=.agg #[.slice (some ⟨g,0,none⟩) n.ends.length c1,.slice AI n.ids.length cI,.slice AN n.inputs.length cN]) (by simp [results,Tryz.results208,go_sem, *]) rfl ?_;have Ys:=H4.out;refine ⟨N,Ly.out,Hal.out.wf Ly.out,_,_,_,S,rfl,((Hc.out.own.stable (fun j hj => ?_)).mono (show w.heap.size ≤ wa.heap.size by omega)),?_⟩
   ·have sD:=(Hc.out.own.range j hj).1;rw [Below.heap_setCell _ _ _ j (by simp;omega),Below.heap_setCell _ _ _ j (by simp;omega),Below.heap_setCell _ _ _ j (by simp;omega)]
   ·have mL : Below w.heap.size w wr:=Below.trans gG.out (lw.out.below.mono (by omega));exact ((mL.setCell (by simp) _).setCell (by simp) _).setCell (by simp) _
structure Jg (n N : am) : Prop where
 ids : N.ids.length = n.ids.length
 inputs : N.inputs.length = n.inputs.length
 len : N.ends.length = n.ends.length
 row : ∀ (k : Nat) (es : List (Int × Int)),n.ends[k]? = some es → ∃ fs,N.ends[k]? = some fs ∧ fs.length = es.length
theorem jg.shp {n N : am} (h : jg n N) : Jg n N:=⟨by rw [h.ids],by rw [h.inputs],h.len,h.row⟩
theorem Jg.refl (n : am) : Jg n n:=(jg.refl n).shp
theorem Jg.trans {a b c : am} (h : Jg a b) (h' : Jg b c) : Jg a c:=⟨h'.ids.trans h.ids,h'.inputs.trans h.inputs,h'.len.trans h.len,fun k es he => by
 obtain ⟨fs,h1,h2⟩:=h.row k es he;obtain ⟨gs,h3,h4⟩:=h'.row k fs h1
 exact ⟨gs,h3,by omega⟩⟩
structure Gd (R M : Nat) (n : am) : Prop where
 ends : n.ends.length ≤ M
 row : ∀ (k : Nat) (es : List (Int × Int)),n.ends[k]? = some es → es.length ≤ R
 ids : n.ids.length ≤ M
 inputs : n.inputs.length = n.ends.length
 wf : MF n
theorem LF {l : List (List (Int × Int))} {R : Nat} (h : ∀ es ∈ l,es.length ≤ R) : oZ l ≤ 2 * R * l.length:=by
 induction l with
 | nil => simp [oZ]
 | cons a l ih =>
  have h1:=ih (fun es he => h es (List.mem_cons_of_mem _ he))
  have h2:=h a (by simp);simp only [oZ,List.length_cons];have h3 : 2 * R * (l.length + 1) = 2 * R * l.length + 2 * R:=by rw [Nat.mul_add,Nat.mul_one]
  omega
theorem Gi (l : List (List (Int × Int))) : P9 l ≤ l.length + oZ l:=by
 unfold P9
 have : yP l ≤ oZ l:=by
  induction l with
  | nil => simp [yP,oZ]
  | cons a r ih => simp only [oZ,yP,List.map_cons,List.sum_cons] at *;omega
 omega
theorem Gd.small {R M : Nat} {n : am} (h : Gd R M n) (hR : R ≤ 100) (hM : M ≤ 100) : pT n:=by
 refine ⟨by have:=h.ends;omega,fun k es he => by have:=h.row k es he;omega,?_⟩
 have h1 : oZ n.ends ≤ 2 * R * n.ends.length:=LF (fun es he => by
  obtain ⟨k,hk⟩:=List.getElem?_of_mem he
  exact h.row k es hk)
 have h2:=Gi n.ends
 have h3 : 2 * R * n.ends.length ≤ 2 * 100 * 100:=Nat.mul_le_mul (by omega) (by have:=h.ends;omega)
 have:=h.ends
 have:=h.ids
 have:=h.inputs
 unfold f_;omega
theorem Gd.sh {R M : Nat} {n N : am} (h : Gd R M n) (hs : Jg n N) (hw : MF N) : Gd R M N:=by
 refine ⟨by rw [hs.len];exact h.ends,fun k fs hf => ?_,by rw [hs.ids];exact h.ids,by rw [hs.inputs,hs.len];exact h.inputs,hw⟩
 obtain ⟨es,he⟩:=aW n.ends k (by have:=aq hf;have:=hs.len;omega)
 obtain ⟨gs,hg,hl⟩:=hs.row k es he;rw [hf] at hg;cases hg
 have:=h.row k es he
 omega
structure Mb (cb B pb : Nat) (A : Option Addr) (L c P : Nat) (w W : World) (ve vi vn : Value) (N : am) (S : List Nat) : Prop where
 own : aA W B ve vi vn N S
 box : bH W pb ve vi vn
 nb : pb ∉ S
 cur : dQ W cb A L c P
 far : CB cb B w W
theorem bH.blk {W W' : World} {b : Nat} {x y z : Value} (h : bH W b x y z) (hb : W'.heap[b]? = W.heap[b]?) : bH W' b x y z:=by
 obtain ⟨r,hr⟩:=h;exact ⟨r,hb.trans hr⟩
theorem Mb.seen {cb B pb : Nat} {A : Option Addr} {L c P P' : Nat} {w W W' : World} {ve vi vn : Value} {N : am} {S : List Nat} (h : Mb cb B pb A L c P w W ve vi vn N S) (hs : gB cb W W') (EW : dQ W' cb A L c P') (hb : cb < B) (hp : B ≤ pb) (hB : B ≤ W.heap.size) : Mb cb B pb A L c P' w W' ve vi vn N S:=
 ⟨h.own.seen hs hb,h.box.blk (hs.block pb h.box.lt (by omega)),h.nb,EW,h.far.trans (CB.mono hs hB)⟩
theorem Mb.since {cb B pb : Nat} {A : Option Addr} {L c P : Nat} {w W W' : World} {ve vi vn : Value} {N : am} {S : List Nat} (h : Mb cb B pb A L c P w W ve vi vn N S) (hs : aa W W') (hb : cb < B) (hp : B ≤ pb) (hB : B ≤ W.heap.size) : Mb cb B pb A L c P w W' ve vi vn N S:=h.seen (CB.of hs) (h.cur.since hs) hb hp hB
def set3 (W : World) (b : Nat) (x y z : Value) : World:=((W.setCell ⟨b,0,none⟩ x).setCell ⟨b,1,none⟩ y).setCell ⟨b,2,none⟩ z
theorem eH (W : World) (b : Nat) (x y z : Value) : (set3 W b x y z).heap.size = W.heap.size:=by simp [set3,jv]
theorem ey (W : World) (b : Nat) (x y z : Value) {j : Nat} (h : j ≠ b) : (set3 W b x y z).heap[j]? = W.heap[j]?:=by
 unfold set3;rw [Below.heap_setCell _ _ _ j (by exact h),Below.heap_setCell _ _ _ j (by exact h),Below.heap_setCell _ _ _ j (by exact h)]
theorem bH.set3 {W : World} {b : Nat} {x y z : Value} (h : bH W b x y z) (x' y' z' : Value) : bH (set3 W b x' y' z') b x' y' z':=by
 unfold Go.Proofs.YtgmdpppljkmabaaGreat.set3;exact ((h.put0).put1).put2
theorem Mb.assign {cb B pb : Nat} {A : Option Addr} {L c P P' : Nat} {w W W1 : World} {ve vi vn a b d : Value} {N N' : am} {S S' : List Nat} {B' : Nat} (h : Mb cb B pb A L c P w W ve vi vn N S) (hs : gB cb W W1) (EW : dQ W1 cb A L c P') (ho : aA W1 B' a b d N' S') (hB' : pb < B') (hb : cb < B) (hp : B ≤ pb) (hB : B ≤ W.heap.size) :
  Mb cb B pb A L c P' w (set3 W1 pb a b d) a b d N' S':=by
 have hn : pb ∉ S':=fun hj => by have:=(ho.range _ hj).1;omega
 refine ⟨(ho.stable (fun k hk => ey W1 pb a b d (fun e => hn (e ▸ hk)))).mono (by omega),(h.box.blk (hs.block pb h.box.lt (by omega))).set3 _ _ _,hn,EW.keep (fun k hk => ey W1 pb a b d (by omega)),?_⟩
 exact (((h.far.trans (CB.mono hs hB)).setCell (p:=⟨pb,0,none⟩) (.inl hp) _).setCell (p:=⟨pb,1,none⟩) (.inl hp) _).setCell (p:=⟨pb,2,none⟩) (.inl hp) _
theorem aA.setIn {w : World} {base g c n : Nat} {ve vi : Value} {N : am} {S : List Nat} (h : aA w base ve vi (.slice (some ⟨g,0,none⟩) n c) N S) {k : Nat} (x : Int) (_ : k < N.inputs.length) :
  g ∈ S ∧ w.frozen? ⟨g,k,none⟩ = false ∧ aA (w.setCell ⟨g,k,none⟩ (.int .i64 x)) base ve vi (.slice (some ⟨g,0,none⟩) n c) { N with inputs:=N.inputs.set k x } S:=by
 obtain ⟨S1,S2,S3,h1,h2,h3,h4,h5⟩:=h
 have hg : g ∈ S3:=by rw [h3.2];simp [Value.ownBlock]
 have rV:=h5;rw [h4,List.nodup_append,List.nodup_append] at h5;have d1 : ∀ j ∈ S1,j ≠ g:=fun j hj e => h5.2.2 j hj g (List.mem_append_right _ hg) e
 have d2 : ∀ j ∈ S2,j ≠ g:=fun j hj e => h5.2.1.2.2 j hj g hg e
 exact ⟨by rw [h4];exact List.mem_append_right _ (List.mem_append_right _ hg),h3.1.free k,S1,S2,S3,kv.stable h1 (fun j hj => Below.heap_setCell _ _ _ _ (d1 j hj)),gQ.stable h2 (fun j hj => Below.heap_setCell _ _ _ _ (d2 j hj)),⟨h3.1.set x,h3.2⟩,h4,rV⟩
end Go.Proofs.YtgmdpppljkmabaaGreat
