/- Parts of the proof: walks of functions and plain laws. -/
import Derived.Test.YtgmdpppljkmabaaGreatP0
import Derived.Test.YtgmdpppljkmabaaGreatP25
import Derived.Test.YtgmdpppljkmabaaGreatP7
import Derived.Test.YtgmdpppljkmabaaGreatP12
import Derived.Test.YtgmdpppljkmabaaGreatP13
import Derived.Test.YtgmdpppljkmabaaGreatP17
set_option maxRecDepth 100000
set_option maxHeartbeats 16000000
namespace Go.Proofs.YtgmdpppljkmabaaGreat
open Go Go.RowKit
theorem tx (cb : Nat) (A : Option Addr) (L c P : Nat) (B g q m : Nat) (xs : List Int) (w : World) (hm : xs.length = m) (h : dQ w cb A L c P) (hP : P ≤ 4611686018427387000) (ho : Own w B (.slice (some ⟨g,0,none⟩) m q) xs) (hB : cb < B) (hx : 1 ≤ xs.length) (pw : xs.length ≤ 1048576) :
  Calls Tryz.prog 68 #[.pointer (some ⟨cb,0,none⟩),.slice (some ⟨g,0,none⟩) m q] w fun e w' => ∃ x,e = .returned (.int .i64 x) ∧ x ∈ xs ∧ dQ w' cb A L c (P + 2) ∧ CB cb w.heap.size w w':=by
 subst hm;exact oA cb A L c P B g q xs w h hP ho hB hx pw
section
variable {cb pb : Nat} {A : Option Addr} {L c P : Nat} {w W : World} {ve vi vn : Value} {N : am} {S : List Nat}
theorem Br.setIn {g m d k : Nat} (h : Br cb pb A L c P w W ve vi (.slice (some ⟨g,0,none⟩) m d) N S) (x : Int) (hk : k < N.inputs.length) :
  W.frozen? ⟨g,k,none⟩ = false ∧ (∃ z,W.cell? ⟨g,k,none⟩ = some z) ∧ Br cb pb A L c P w (W.setCell ⟨g,k,none⟩ (.int .i64 x)) ve vi (.slice (some ⟨g,0,none⟩) m d) { N with inputs:=N.inputs.set k x } S:=by
 obtain ⟨h1,h2,h3⟩:=h.mb.own.setIn x hk;exact ⟨h2,h.mb.own.inCell hk,h.own h3 (fun j hj => .inl hj) ((aU.refl _ _).setCell (.inl h1) _)⟩
theorem Br.setId {g m d k : Nat} (h : Br cb pb A L c P w W ve (.slice (some ⟨g,0,none⟩) m d) vn N S) (x : Int) (hk : k < N.ids.length) :
  W.frozen? ⟨g,k,none⟩ = false ∧ (∃ z,W.cell? ⟨g,k,none⟩ = some z) ∧ ∃ S',Br cb pb A L c P w (W.setCell ⟨g,k,none⟩ (.int .i64 x)) ve (.slice (some ⟨g,0,none⟩) m d) vn { N with ids:=N.ids.set k x } S':=by
 obtain ⟨⟨ho,-⟩,hs⟩:=h.mb.ownIds;obtain ⟨y,hy⟩:=aW N.ids k hk;have fm : aU (Value.slice (some ⟨g,0,none⟩) m d).ownBlock.toList W (W.setCell ⟨g,k,none⟩ (.int .i64 x)):=(aU.refl _ _).setCell (.inl (by simp [Value.ownBlock])) _;obtain ⟨S',h1,h2⟩:=h.mb.own.turnIds (vi':=.slice (some ⟨g,0,none⟩) m d) ⟨ho.set (k:=k) x,rfl⟩ fm (fun j hj => .inl hj)
 exact ⟨ho.free k,⟨_,ho.cell hy⟩,S',h.own h1 h2 (fm.mono hs)⟩
theorem Br.setEnd {g m d k : Nat} {xs : List (Int × Int)} (h : Br cb pb A L c P w W (.slice (some ⟨g,0,none⟩) m d) vi vn N S) (hx : N.ends[k]? = some xs) (h0 : 0 < xs.length) :
  ∃ gr cr,W.cell? ⟨g,k,none⟩ = some (.slice (some ⟨gr,0,none⟩) xs.length cr) ∧ W.frozen? ⟨gr,0,none⟩ = false ∧ W.frozen? ⟨gr,1,none⟩ = false ∧ (∃ z,W.cell? ⟨gr,0,none⟩ = some z) ∧ (∃ z,W.cell? ⟨gr,1,none⟩ = some z) ∧
   (∀ x : Int,∃ y,Br cb pb A L c P w (W.setCell ⟨gr,0,none⟩ (.int .i64 x)) (.slice (some ⟨g,0,none⟩) m d) vi vn { N with ends:=N.ends.set k (xs.set 0 y) } S) ∧
   (∀ x : Int,∃ y,Br cb pb A L c P w (W.setCell ⟨gr,1,none⟩ (.int .i64 x)) (.slice (some ⟨g,0,none⟩) m d) vi vn { N with ends:=N.ends.set k (xs.set 0 y) } S):=by
 obtain ⟨gr,cr,h1,h2,f0,f1,c0,c1,a,b⟩:=h.mb.own.setPort hx h0;refine ⟨gr,cr,h1,f0,f1,c0,c1,fun x => ?_,fun x => ?_⟩
 ·obtain ⟨y,hy⟩:=a x;exact ⟨y,h.own hy (fun j hj => .inl hj) ((aU.refl _ _).setCell (.inl h2) _)⟩
 ·obtain ⟨y,hy⟩:=b x;exact ⟨y,h.own hy (fun j hj => .inl hj) ((aU.refl _ _).setCell (.inl h2) _)⟩
end
theorem Bd.more {n : am} (h : Bd n) (h1 : n.ends.length ≤ 60) (h2 : n.inputs.length ≤ 60) : Bd { n with ends:=n.ends ++ [[]],inputs:=n.inputs ++ [0] }:=by
 refine ⟨by simp;omega,fun k es he => ?_,h.ids,by simp;omega⟩
 have he : (n.ends ++ [[]])[k]? = some es:=he;rw [List.getElem?_append] at he
 split at he
 ·exact h.row k es he
 ·have : es = []:=by
   have h3:=List.mem_of_getElem? he;simpa using h3
  rw [this];simp
def oD : Option Value → Nat
 | some (.slice _ n _) => n
 | _ => 0
theorem rg {w : World} {B : Nat} (xs : List Int) {v : Value} {o : Obj} (ho : o = .cells (xs.map (Value.int .i64)).toArray 3) (hv : v = .slice (some ⟨w.heap.size,0,none⟩) xs.length xs.length) (hl : xs.length ≤ 1000) (hB : B ≤ w.heap.size) : Own (w.alloc o) B v xs:=by
 subst ho hv
 exact (jk w xs (by unfold maxLen;omega)).mono hB
theorem wl (cb : Nat) (A : Option Addr) (L c P R M : Nat) (ve vi vn : Value) (n : am) (w : World) (hc : dQ w cb A L c P) (hP : P ≤ 4400000000000000000) (h : aT w ve vi vn n) (hg : Gd R M n) (SX : 0 < n.ends.length) (hR : R ≤ 100) (hM : M ≤ 40) :
  Calls Tryz.prog 129 #[.pointer (some ⟨cb,0,none⟩),.agg #[ve,vi,vn]] w (CA cb w.heap.size A L c (P + 3000) w Bd):=by
 have abx : n.ends.length ≤ 40:=Nat.le_trans hg.ends hM;have p9 : Hid (n.inputs.length = n.ends.length):=hg.inputs
 have Gk : ∀ (k : Nat) (es : List (Int × Int)),n.ends[k]? = some es → es.length ≤ 100:=fun k es he => by have:=hg.row k es he;omega
 have OC:=zh Gk;have HM:=zh hM;have iy:=zh (hg.bd (by omega) (by omega));have hM2 : M ≤ 100:=by omega
 clear Gk hM;have iw:=hc.lt;obtain ⟨A1,c1,rfl,-,k9,-⟩:=id h.1;obtain ⟨AI,cI,rfl,-,-,-⟩:=id h.2.1;obtain ⟨AN,cN,rfl,-,-,-⟩:=id h.2.2;obtain ⟨pb,fo⟩ : ∃ z,z = w.heap.size:=⟨_,rfl⟩
 obtain ⟨w0,ck⟩ : ∃ z,z = w.alloc (.cells #[.slice A1 n.ends.length c1,.slice AI n.ids.length cI,.slice AN n.inputs.length cN] 27):=⟨_,rfl⟩
 obtain ⟨wa,kH⟩ : ∃ z,z = w0.alloc (.cells #[.slice none 0 0,.slice none 0 0,.slice none 0 0] 27):=⟨_,rfl⟩
 have cX : aa w w0:=by rw [ck];exact ah _ (ad _)
 have dm : aa w0 wa:=by rw [kH];exact ah _ (ad _)
 have qc : w0.heap.size = w.heap.size + 1:=by rw [ck];simp
 have jL : bH w0 pb (.slice A1 n.ends.length c1) (.slice AI n.ids.length cI) (.slice AN n.inputs.length cN):=by rw [ck,fo];exact bH.new _ _ _ _ _
 have Oy:=jL.below dm (by rw [qc,fo];omega)
 have kq : bQ wa (pb + 1) (.slice none 0 0) (.slice none 0 0) (.slice none 0 0):=by
  rw [kH,fo,← qc];show (w0.heap.push _)[w0.heap.size]? = _
  rw [Array.getElem?_push_size]
 have iA : aa w wa:=cX.after dm
 have eA : Hid (cb < pb ∧ pb + 2 = wa.heap.size ∧ pb = w.heap.size):=⟨by omega,by rw [fo,kH];simp;omega,fo⟩
 have Ad:=zh iA;have nP:=zh kq;have WK:=zh Oy;have PL:=zh (hc.since iA);have HNa:=zh (h.keep iA.below);have Hg:=zh hg;have dh:=zh ck;have DW:=zh kH;have fO:=Oy.cells
 have Ol : n.ends.length ≤ 100:=by have:=hg.ends;omega
 clear hc h cX dm jL kq iA Oy hg ck kH fo qc
 go_enter Tryz.func129,Tryz.ntmps129
 go_upto_region 1 with (fail);rw [← dh.out,← DW.out,← eA.out.2.2];obtain ⟨x0,x1,x2,f0,f1,f2⟩:=fO;go_wp2_with fail
 refine (kp _ _ _ n wa HNa.out (by omega) (fun k es he => by have:=Hg.out.row k es he;omega) (Hg.out.small hR hM2).sz).mono ?_
 rintro e w1 ⟨ue,ui,un,S0,rfl,ho,bj⟩;have dm : aa wa w1:=bj;obtain ⟨E1,e1,rfl,-,-,-⟩:=id ho.read.1;obtain ⟨EI,eI,rfl,-,-,-⟩:=id ho.read.2.1;obtain ⟨EN,eN,rfl,-,-,-⟩:=id ho.read.2.2;clear x0 x1 x2 f0 f1 f2;have Fc:=WK.out.below dm WK.out.lt;obtain ⟨x0,x1,x2,f0,f1,f2⟩:=Fc.cells
 have MH : pb ∉ S0:=fun hj => by have h1:=(ho.range _ hj).1;have h2:=eA.out;omega
 have gH : Mb cb w.heap.size pb A L c P w (set3 w1 pb (.slice E1 n.ends.length e1) (.slice EI n.ids.length eI) (.slice EN n.inputs.length eN)) (.slice E1 n.ends.length e1) (.slice EI n.ids.length eI) (.slice EN n.inputs.length eN) n S0:=by
  have h0:=eA.out
  refine ⟨(ho.stable (fun k hk => ey _ _ _ _ _ (fun e => MH (by have e' : k = pb:=e;exact e' ▸ hk)))).mono (by omega),Fc.set3 _ _ _,MH,((PL.out.since dm).keep (fun k hk => ey _ _ _ _ _ (by omega))),?_⟩
  exact ((((CB.of (Ad.out.after dm).below).mono (Nat.le_refl _)).setCell (p:=⟨pb,0,none⟩) (.inl (by show _ ≤ pb;omega)) _).setCell (p:=⟨pb,1,none⟩) (.inl (by show _ ≤ pb;omega)) _).setCell (p:=⟨pb,2,none⟩) (.inl (by show _ ≤ pb;omega)) _
 have rZ : bQ (set3 w1 pb (.slice E1 n.ends.length e1) (.slice EI n.ids.length eI) (.slice EN n.inputs.length eN)) (pb + 1) (.slice none 0 0) (.slice none 0 0) (.slice none 0 0):=(ey _ _ _ _ _ (by omega)).trans (nP.out.since dm)
 have eF : wa.heap.size ≤ (set3 w1 pb (.slice E1 n.ends.length e1) (.slice EI n.ids.length eI) (.slice EN n.inputs.length eN)).heap.size:=by rw [eH];exact dm.below.size
 have mK : pb + 1 ∉ S0:=fun hj => by have h1:=(ho.range _ hj).1;have h2:=eA.out;omega
 have xl:=zh gH;have qM:=zh rZ;have A_:=zh eF;have tl:=zh mK;have Hfz:=zh (And.intro f0 (And.intro f1 f2));clear gH rZ eF mK ho bj dm Fc MH;go_upto_region 2 with (fail);obtain ⟨w2,dK⟩ : ∃ z,z = ((w1.setCell ⟨pb,0,none⟩ (.slice E1 n.ends.length e1)).setCell ⟨pb,1,none⟩ (.slice EI n.ids.length eI)).setCell ⟨pb,2,none⟩ (.slice EN n.inputs.length eN):=⟨_,rfl⟩
 rw [← dK]
 have je : Hid (Mb cb w.heap.size pb A L c P w w2 (.slice E1 n.ends.length e1) (.slice EI n.ids.length eI) (.slice EN n.inputs.length eN) n S0):=by show Mb _ _ _ _ _ _ _ _ _ _ _ _ _ _;rw [dK];exact xl.out
 have xf : Hid (bQ w2 (pb + 1) (.slice none 0 0) (.slice none 0 0) (.slice none 0 0)):=by show bQ _ _ _ _ _;rw [dK];exact qM.out
 have Fw : Hid (wa.heap.size ≤ w2.heap.size):=by show _ ≤ _;rw [dK];exact A_.out
 have tP : Hid (Br cb pb A L c P w w2 (.slice E1 n.ends.length e1) (.slice EI n.ids.length eI) (.slice EN n.inputs.length eN) n S0):=by show Br _ _ _ _ _ _ _ _ _ _ _ _ _;exact ⟨je.out,xf.out,tl.out,eA.out.2.2,eA.out.1⟩
 clear dK xl qM A_ Hfz x0 x1 x2 f0 f1 f2 je xf Fw;obtain ⟨g,rfl,-⟩:=tP.out.mb.own.head SX
 obtain ⟨gN,rfl⟩:=tP.out.mb.own.headIn (by have:=p9.out;omega)
 have it : pb ≠ cb:=by have:=eA.out;omega
 obtain ⟨k0,-,-,-,-,-⟩:=tP.out.mb.box.cells;go_wp2_with fail;refine (ew cb A L c P (n.ends.length : Int) w2 tP.out.mb.cur (by omega) (by omega)).mono ?_;rintro e w3 ⟨v,rfl,hv,rh,kP⟩;have hvl : v < n.ends.length:=by omega
 have hvi : v < n.inputs.length:=by have:=p9.out;omega
 have Po:=zh (tP.out.seen kP rh);clear rh kP hv k0;go_wp2_with fail;refine (ew cb A L c (P + 2) 40 w3 Po.out.mb.cur (by omega) (by omega)).mono ?_;rintro e w4 ⟨x,rfl,hx,wh,sl⟩;have kZ:=zh (Po.out.seen sl wh);clear wh sl hx;obtain ⟨xv,pV⟩ : ∃ x,x = cG n v:=⟨_,rfl⟩
 have qL:=cD hvl;rw [← pV] at qL;have Yx:=zh qL;have C5:=zh (OC.out _ _ qL)
 have Oq : g ≠ cb:=fun e => by
  obtain ⟨gr,Tr,-,-,-,-,-,Ax,-⟩:=kZ.out.mb.own.growRow qL;have h1:=(kZ.out.mb.own.range _ Ax).1;have h2:=eA.out;omega
 clear qL pV;rcases (show x = 0 ∨ x = 1 ∨ x = 2 ∨ x = 3 ∨ x = 4 ∨ x = 5 ∨ x = 6 ∨ x = 7 ∨ x = 8 ∨ 9 ≤ x by omega) with rfl | rfl | rfl | rfl | rfl | rfl | rfl | rfl | rfl | h9
 ·go_upto_region 5 with (fail);refine aI (fun W => W.cell? ⟨pb,2,none⟩ = some (.slice (some ⟨gN,0,none⟩) n.inputs.length eN)) 6 [false,false,false,false,true,true] (by kernel_rfl) (by kernel_rfl) (show (World.drew w4).cell? ⟨pb,2,none⟩ = some (.slice (some ⟨gN,0,none⟩) n.inputs.length eN) from kZ.out.mb.box.cells.2.2.1) ?_
  simp only [d_,dO,zT]
  iterate 4 (apply bY rfl;(intro W hW;(have k0:=hW);go_simp;with_reducible rfl);simp only [zA])
  obtain ⟨W,dr⟩ : ∃ W,W = World.drew w4:=⟨_,rfl⟩
  rw [← dr];have hW:=(show (World.drew w4).cell? ⟨pb,2,none⟩ = some (.slice (some ⟨gN,0,none⟩) n.inputs.length eN) from kZ.out.mb.box.cells.2.2.1);rw [← dr] at hW;have fV:=zh dr;clear dr
  refine dz (v:=?_) (ob:=?_) rfl ?_ ?_ ?_;rotate_left 2
  (go_simp;first | with_reducible rfl | (refine ⟨?_,?_⟩ <;> with_reducible rfl))
  exact bc (au _ _) hW;intro w5 oM uQ
  replace hW:=uQ
  clear uQ
  have ro : aa w4 w5:=(by rw [oM,fV.out];exact ah _ (ak (ad _)))
  have FQ:=zh ((kZ.out).since ro)
  have DN : Hid (Own w5 w4.heap.size (.slice (some ⟨w4.heap.size,0,none⟩) 3 3) [-1,9,10]):=(by show Own _ _ _ _;rw [oM,fV.out];exact rg [-1,9,10] rfl rfl (by simp) (Nat.le_refl _))
  have Si : cb < w4.heap.size:=(kZ.out).mb.cur.lt
  rw [show W.heap.size = w4.heap.size from by rw [fV.out];rfl]
  clear oM ro
  (try simp only [zA])
  refine Or.inl ⟨rfl,?_⟩
  go_simp
  (with_reducible refine (tx cb A L c (P + 4) w4.heap.size w4.heap.size 3 3 [-1,9,10] _ rfl FQ.out.mb.cur (by omega) DN.out Si (by simp) (by simp)).mono ?_)
  rintro e W' ⟨a,rfl,ha,iq,hC⟩;refine ⟨_,rfl,aD hW it _ hC,?_⟩
  replace hW:=aD hW it _ hC
  have Ji:=zh (FQ.out.seen hC iq);clear iq hC ha
  (try simp only [zA])
  simp only [bA]
  obtain ⟨f9,⟨z9,c9⟩,ri⟩:=Ji.out.setIn (k:=v) a (by have:=p9.out;omega)
  have kU:=zh ri;clear ri;go_upto_region 29 with (fail);obtain ⟨w7,nT⟩ : ∃ z,z = W'.setCell ⟨gN,v,none⟩ (.int .i64 a):=⟨_,rfl⟩
  rw [← nT];rw [← nT] at kU;clear nT hW c9 f9;obtain ⟨k0,k1,k2,-,-,-⟩:=(kU.out).mb.box.cells;obtain ⟨e0,IJ,e2,f0,f1,f2⟩:=(kU.out).rb.box.cells;have ez:=zh (kU.out).ret;go_wp2;refine bodyPost_ret (v:=.agg #[.slice (some ⟨g,0,none⟩) n.ends.length e1,.slice EI n.ids.length eI,.slice (some ⟨gN,0,none⟩) n.inputs.length eN]) (by simp [results,Tryz.results129,go_sem, *]) rfl ?_;obtain ⟨r1,r2,r3⟩:=ez.out
  exact ⟨_,_,_,_,_,rfl,r1,⟨iy.out.ends,iy.out.row,iy.out.ids,by show (List.set _ _ _).length ≤ _;rw [List.length_set];exact iy.out.inputs⟩,r2.mono (by omega),r3⟩
 ·have pg : aa w4 (w4.alloc (.cells #[.int .i64 0] 3)):=ah _ (ad _);have FQ:=zh (kZ.out.since pg);clear pg;obtain ⟨k0,k1,k2,f0,f1,f2⟩:=kZ.out.mb.box.cells
  go_upto_region 29 with (at_builtin;refine jh (base:=w.heap.size) rfl _ _ rfl rfl FQ.out.mb.ownIn.1.1 rfl (rf _ _) (by have:=iy.out.inputs;simp;omega) FQ.out.sz ?_;intro v' w6 T gX BJ WX;obtain ⟨V,mV,cV,rfl⟩:=gQ.one gX;obtain ⟨Fb,S6,ri⟩:=FQ.out.putIn gX BJ WX;clear k0 k1 k2 f0 f1 f2 gX BJ WX;obtain ⟨k0,k1,k2,f0,f1,f2⟩:=Fb.cells;have kU:=zh ri;clear Fb ri)
  obtain ⟨w7,nT⟩ : ∃ z,z = w6.setCell ⟨pb,2,none⟩ (.slice V mV cV):=⟨_,rfl⟩
  rw [← nT];rw [← nT] at kU;clear nT k0 k1 k2 f0 f1 f2;obtain ⟨k0,k1,k2,-,-,-⟩:=(kU.out).mb.box.cells;obtain ⟨e0,IJ,e2,f0,f1,f2⟩:=(kU.out).rb.box.cells;have ez:=zh (kU.out).ret;go_wp2;refine bodyPost_ret (v:=.agg #[.slice (some ⟨g,0,none⟩) n.ends.length e1,.slice EI n.ids.length eI,.slice V mV cV]) (by simp [results,Tryz.results129,go_sem, *]) rfl ?_;obtain ⟨r1,r2,r3⟩:=ez.out
  exact ⟨_,_,_,_,_,rfl,r1,⟨iy.out.ends,iy.out.row,iy.out.ids,by have:=p9.out;simp;omega⟩,r2.mono (by omega),r3⟩
 ·have hx:=Yx.out
  by_cases xW : 0 < xv.length
  ·obtain ⟨gr,cr,Dl,-,-,-,-,-,-⟩:=kZ.out.setEnd hx xW
   have e0 : ((0 : Int) < (xv.length : Int)) = True:=by simp;omega
   obtain ⟨k0,-,-,-,-,-⟩:=kZ.out.mb.box.cells;go_upto_region 10 with (fail);refine aI (fun W => W.cell? ⟨pb,0,none⟩ = some (.slice (some ⟨g,0,none⟩) n.ends.length e1) ∧ W.cell? ⟨g,v,none⟩ = some (.slice (some ⟨gr,0,none⟩) xv.length cr)) 8 [false,false,false,false,false,false,true,true] (by kernel_rfl) (by kernel_rfl) (show (World.drew w4).cell? ⟨pb,0,none⟩ = some (.slice (some ⟨g,0,none⟩) n.ends.length e1) ∧ (World.drew w4).cell? ⟨g,v,none⟩ = some (.slice (some ⟨gr,0,none⟩) xv.length cr) from ⟨kZ.out.mb.box.cells.1,Dl⟩) ?_
   simp only [d_,dO,zT]
   iterate 6 (apply bY rfl;(intro W hW;(obtain ⟨k0,k1⟩:=hW);go_simp;with_reducible rfl);simp only [zA])
   obtain ⟨W,dr⟩ : ∃ W,W = World.drew w4:=⟨_,rfl⟩
   rw [← dr];have hW:=(show (World.drew w4).cell? ⟨pb,0,none⟩ = some (.slice (some ⟨g,0,none⟩) n.ends.length e1) ∧ (World.drew w4).cell? ⟨g,v,none⟩ = some (.slice (some ⟨gr,0,none⟩) xv.length cr) from ⟨kZ.out.mb.box.cells.1,Dl⟩);rw [← dr] at hW;have fV:=zh dr;clear dr
   refine dz (v:=?_) (ob:=?_) rfl ?_ ?_ ?_;rotate_left 2
   (go_simp;first | with_reducible rfl | (refine ⟨?_,?_⟩ <;> with_reducible rfl))
   exact ⟨bc (au _ _) hW.1,bc (au _ _) hW.2⟩;intro w5 oM uQ
   replace hW:=uQ
   clear uQ
   have ro : aa w4 w5:=(by rw [oM,fV.out];exact ah _ (ak (ad _)))
   have FQ:=zh ((kZ.out).since ro)
   have DN : Hid (Own w5 w4.heap.size (.slice (some ⟨w4.heap.size,0,none⟩) 4 4) [-1,0,1,6]):=(by show Own _ _ _ _;rw [oM,fV.out];exact rg [-1,0,1,6] rfl rfl (by simp) (Nat.le_refl _))
   have Si : cb < w4.heap.size:=(kZ.out).mb.cur.lt
   rw [show W.heap.size = w4.heap.size from by rw [fV.out];rfl]
   clear oM ro
   (try simp only [zA])
   refine Or.inl ⟨rfl,?_⟩
   go_simp
   (with_reducible refine (tx cb A L c (P + 4) w4.heap.size w4.heap.size 4 4 [-1,0,1,6] _ rfl FQ.out.mb.cur (by omega) DN.out Si (by simp) (by simp)).mono ?_)
   rintro e W' ⟨a,rfl,ha,iq,hC⟩;refine ⟨_,rfl,And.intro (aD hW.1 it _ hC) (aD hW.2 Oq _ hC),?_⟩
   replace hW:=And.intro (aD hW.1 it _ hC) (aD hW.2 Oq _ hC)
   have Ji:=zh (FQ.out.seen hC iq);clear iq hC ha
   (try simp only [zA])
   simp only [bA];obtain ⟨gr2,cr2,h1,f0,f1,⟨z0,c0⟩,⟨z1,c1⟩,hA,hB⟩:=Ji.out.setEnd hx xW;rw [hW.2] at h1
   injection h1 with h1
   injection h1 with h1 h2 h3
   injection h1 with h1
   injection h1 with h1
   subst h1;obtain ⟨y,ri⟩:=hB a;have kU:=zh ri;clear hA hB ri k0;go_upto_region 29 with (fail);obtain ⟨w7,nT⟩ : ∃ z,z = W'.setCell ⟨gr,1,none⟩ (.int .i64 a):=⟨_,rfl⟩
   rw [← nT];rw [← nT] at kU;clear nT hW c0 c1 f0 f1 e0 Dl;obtain ⟨k0,k1,k2,-,-,-⟩:=(kU.out).mb.box.cells;obtain ⟨e0,IJ,e2,f0,f1,f2⟩:=(kU.out).rb.box.cells;have ez:=zh (kU.out).ret;go_wp2;refine bodyPost_ret (v:=.agg #[.slice (some ⟨g,0,none⟩) n.ends.length e1,.slice EI n.ids.length eI,.slice (some ⟨gN,0,none⟩) n.inputs.length eN]) (by simp [results,Tryz.results129,go_sem, *]) rfl ?_;obtain ⟨r1,r2,r3⟩:=ez.out
   exact ⟨_,_,_,_,_,rfl,r1,iy.out.setRow v (by rw [List.length_set];have:=C5.out;omega),r2.mono (by omega),r3⟩
  ·have WY : xv.length = 0:=by omega
   obtain ⟨u0,T0,Jf,-,PQ,-,-,-⟩:=kZ.out.mb.own.rowCell hx;obtain ⟨AU,cU,rfl,-,-,-⟩:=id PQ.read;have pV : xv = []:=List.eq_nil_of_length_eq_zero WY;rw [WY] at Jf;clear PQ;obtain ⟨k0,-,-,-,-,-⟩:=kZ.out.mb.box.cells;go_upto_region 29 with (fail);clear k0 Jf;obtain ⟨k0,k1,k2,-,-,-⟩:=(kZ.out).mb.box.cells;obtain ⟨e0,IJ,e2,f0,f1,f2⟩:=(kZ.out).rb.box.cells;have ez:=zh (kZ.out).ret;go_wp2;refine bodyPost_ret (v:=.agg #[.slice (some ⟨g,0,none⟩) n.ends.length e1,.slice EI n.ids.length eI,.slice (some ⟨gN,0,none⟩) n.inputs.length eN]) (by simp [results,Tryz.results129,go_sem, *]) rfl ?_;obtain ⟨r1,r2,r3⟩:=ez.out;exact ⟨_,_,_,_,_,rfl,r1,iy.out,r2.mono (by omega),r3⟩
 ·have hx:=Yx.out
  by_cases xW : 0 < xv.length
  ·obtain ⟨gr,cr,Dl,-,-,-,-,-,-⟩:=kZ.out.setEnd hx xW
   have e0 : ((0 : Int) < (xv.length : Int)) = True:=by simp;omega
   obtain ⟨k0,-,-,-,-,-⟩:=kZ.out.mb.box.cells;go_upto_region 13 with (fail);refine aI (fun W => W.cell? ⟨pb,0,none⟩ = some (.slice (some ⟨g,0,none⟩) n.ends.length e1) ∧ W.cell? ⟨g,v,none⟩ = some (.slice (some ⟨gr,0,none⟩) xv.length cr)) 11 [false,false,false,false,false,false,false,false,false,true,true] (by kernel_rfl) (by kernel_rfl) (show (World.drew w4).cell? ⟨pb,0,none⟩ = some (.slice (some ⟨g,0,none⟩) n.ends.length e1) ∧ (World.drew w4).cell? ⟨g,v,none⟩ = some (.slice (some ⟨gr,0,none⟩) xv.length cr) from ⟨kZ.out.mb.box.cells.1,Dl⟩) ?_
   simp only [d_,dO,zT]
   iterate 9 (apply bY rfl;(intro W hW;(obtain ⟨k0,k1⟩:=hW);go_simp;with_reducible rfl);simp only [zA])
   obtain ⟨W,dr⟩ : ∃ W,W = World.drew w4:=⟨_,rfl⟩
   rw [← dr];have hW:=(show (World.drew w4).cell? ⟨pb,0,none⟩ = some (.slice (some ⟨g,0,none⟩) n.ends.length e1) ∧ (World.drew w4).cell? ⟨g,v,none⟩ = some (.slice (some ⟨gr,0,none⟩) xv.length cr) from ⟨kZ.out.mb.box.cells.1,Dl⟩);rw [← dr] at hW;have fV:=zh dr;clear dr
   refine dz (v:=?_) (ob:=?_) rfl ?_ ?_ ?_;rotate_left 2
   (go_simp;first | with_reducible rfl | (refine ⟨?_,?_⟩ <;> with_reducible rfl))
   exact ⟨bc (au _ _) hW.1,bc (au _ _) hW.2⟩;intro w5 oM uQ
   replace hW:=uQ
   clear uQ
   have ro : aa w4 w5:=(by rw [oM,fV.out];exact ah _ (ak (ad _)))
   have FQ:=zh ((kZ.out).since ro)
   have DN : Hid (Own w5 w4.heap.size (.slice (some ⟨w4.heap.size,0,none⟩) 3 3) [-1,0,(n.ends.length : Int)]):=(by show Own _ _ _ _;rw [oM,fV.out];exact rg [-1,0,(n.ends.length : Int)] rfl rfl (by simp) (Nat.le_refl _))
   have Si : cb < w4.heap.size:=(kZ.out).mb.cur.lt
   rw [show W.heap.size = w4.heap.size from by rw [fV.out];rfl]
   clear oM ro
   (try simp only [zA])
   refine Or.inl ⟨rfl,?_⟩
   go_simp
   (with_reducible refine (tx cb A L c (P + 4) w4.heap.size w4.heap.size 3 3 [-1,0,(n.ends.length : Int)] _ rfl FQ.out.mb.cur (by omega) DN.out Si (by simp) (by simp)).mono ?_)
   rintro e W' ⟨a,rfl,ha,iq,hC⟩;refine ⟨_,rfl,And.intro (aD hW.1 it _ hC) (aD hW.2 Oq _ hC),?_⟩
   replace hW:=And.intro (aD hW.1 it _ hC) (aD hW.2 Oq _ hC)
   have Ji:=zh (FQ.out.seen hC iq);clear iq hC ha
   (try simp only [zA])
   simp only [bA];obtain ⟨gr2,cr2,h1,f0,f1,⟨z0,c0⟩,⟨z1,c1⟩,hA,hB⟩:=Ji.out.setEnd hx xW;rw [hW.2] at h1
   injection h1 with h1
   injection h1 with h1 h2 h3
   injection h1 with h1
   injection h1 with h1
   subst h1;obtain ⟨y,ri⟩:=hA a;have kU:=zh ri;clear hA hB ri k0;go_upto_region 29 with (fail);obtain ⟨w7,nT⟩ : ∃ z,z = W'.setCell ⟨gr,0,none⟩ (.int .i64 a):=⟨_,rfl⟩
   rw [← nT];rw [← nT] at kU;clear nT hW c0 c1 f0 f1 e0 Dl;obtain ⟨k0,k1,k2,-,-,-⟩:=(kU.out).mb.box.cells;obtain ⟨e0,IJ,e2,f0,f1,f2⟩:=(kU.out).rb.box.cells;have ez:=zh (kU.out).ret;go_wp2;refine bodyPost_ret (v:=.agg #[.slice (some ⟨g,0,none⟩) n.ends.length e1,.slice EI n.ids.length eI,.slice (some ⟨gN,0,none⟩) n.inputs.length eN]) (by simp [results,Tryz.results129,go_sem, *]) rfl ?_;obtain ⟨r1,r2,r3⟩:=ez.out
   exact ⟨_,_,_,_,_,rfl,r1,iy.out.setRow v (by rw [List.length_set];have:=C5.out;omega),r2.mono (by omega),r3⟩
  ·have WY : xv.length = 0:=by omega
   obtain ⟨u0,T0,Jf,-,PQ,-,-,-⟩:=kZ.out.mb.own.rowCell hx;obtain ⟨AU,cU,rfl,-,-,-⟩:=id PQ.read;have pV : xv = []:=List.eq_nil_of_length_eq_zero WY;rw [WY] at Jf;clear PQ;obtain ⟨k0,-,-,-,-,-⟩:=kZ.out.mb.box.cells;go_upto_region 29 with (fail);clear k0 Jf;obtain ⟨k0,k1,k2,-,-,-⟩:=(kZ.out).mb.box.cells;obtain ⟨e0,IJ,e2,f0,f1,f2⟩:=(kZ.out).rb.box.cells;have ez:=zh (kZ.out).ret;go_wp2;refine bodyPost_ret (v:=.agg #[.slice (some ⟨g,0,none⟩) n.ends.length e1,.slice EI n.ids.length eI,.slice (some ⟨gN,0,none⟩) n.inputs.length eN]) (by simp [results,Tryz.results129,go_sem, *]) rfl ?_;obtain ⟨r1,r2,r3⟩:=ez.out;exact ⟨_,_,_,_,_,rfl,r1,iy.out,r2.mono (by omega),r3⟩
 ·go_upto_region 15 with (fail)
  go_loopw [83] (fun _ wr => ∃ (N : am) (S : List Nat) (xs : List (Int × Int)),Br cb pb A L c (P + 4 + 2 * xs.length) w wr (.slice (some ⟨g,0,none⟩) n.ends.length e1) (.slice EI n.ids.length eI) (.slice (some ⟨gN,0,none⟩) n.inputs.length eN) N S ∧ N.ends.length = n.ends.length ∧ N.ends[v]? = some xs ∧ Bd N ∧ xs.length ≤ 200) (fun _ wr => 8 - oD (wr.cell? ⟨g,v,none⟩))
  case atStart => exact ⟨n,_,xv,kZ.out.up (by omega),rfl,Yx.out,iy.out,by have:=C5.out;omega⟩
  case round =>
   obtain ⟨N,S,xs,hb,mS,hxs,WZ,AG⟩:=hrel;obtain ⟨wo,rfl⟩ : ∃ z,z = wr:=⟨_,rfl⟩
   obtain ⟨u0,T0,Jf,-,PQ,-,-,-⟩:=hb.mb.own.rowCell hxs;obtain ⟨AU,cU,rfl,-,-,-⟩:=id PQ.read;have xB:=zh hb;have Hxs:=zh hxs;have PR:=zh WZ;have gx:=zh mS;have Hu0:=zh Jf;clear hb hxs WZ mS PQ Jf;go_upto_region 15 with (fail);refine aI (fun W => W.cell? ⟨pb,0,none⟩ = some (.slice (some ⟨g,0,none⟩) n.ends.length e1) ∧ W.cell? ⟨g,v,none⟩ = some (.slice AU xs.length cU)) 10 [false,false,false,false,false,false,false,true,true,true] (by kernel_rfl) (by kernel_rfl) (show (World.drew wo).cell? ⟨pb,0,none⟩ = some (.slice (some ⟨g,0,none⟩) n.ends.length e1) ∧ (World.drew wo).cell? ⟨g,v,none⟩ = some (.slice AU xs.length cU) from ⟨xB.out.mb.box.cells.1,Hu0.out⟩) ?_
   simp only [d_,dO,zT]
   iterate 7 (apply bY rfl;(intro W hW;(obtain ⟨k0,k1⟩:=hW);go_simp;with_reducible rfl);simp only [zA])
   obtain ⟨W,dr⟩ : ∃ W,W = World.drew wo:=⟨_,rfl⟩
   rw [← dr];have hW:=(show (World.drew wo).cell? ⟨pb,0,none⟩ = some (.slice (some ⟨g,0,none⟩) n.ends.length e1) ∧ (World.drew wo).cell? ⟨g,v,none⟩ = some (.slice AU xs.length cU) from ⟨xB.out.mb.box.cells.1,Hu0.out⟩);rw [← dr] at hW;have fV:=zh dr;clear dr;refine Or.inl ⟨rfl,?_⟩
   go_simp
   (with_reducible refine (ew cb A L c (P + 4 + 2 * xs.length) 2 W (by rw [fV.out];exact xB.out.mb.cur.since (ak (ad _))) (by omega) (by omega)).mono ?_)
   rintro e W' ⟨b,rfl,hb,iq,hC⟩;refine ⟨_,rfl,And.intro (aD hW.1 it _ hC) (aD hW.2 Oq _ hC),?_⟩
   replace hW:=And.intro (aD hW.1 it _ hC) (aD hW.2 Oq _ hC)
   have oL : aa wo W:=(by rw [fV.out];exact ak (ad _))
   have kU:=zh (xB.out.seen (((gB.refl cb wo).after oL).trans hC) iq);have b_ : b < 2:=(by omega);have m1 : IntKind.i64.wrap (6 + (b : Int)) = 6 + (b : Int):=aL _ (by omega) (by omega);clear hC iq oL hb
   (try simp only [zA])
   refine dA (v:=?_) rfl ?_ hW ?_;rotate_left;(go_simp;with_reducible rfl)
   simp only [zA]
   refine dA (v:=?_) rfl ?_ hW ?_;rotate_left;(go_simp;with_reducible rfl)
   simp only [zA];simp only [bA];obtain ⟨w7,rfl⟩ : ∃ z,z = W':=⟨_,rfl⟩
   have Nc:=zh hW;clear hW
   by_cases hlt : xs.length < 6 + b
   ·have e0 : ((xs.length : Int) < 6 + (b : Int)) = True:=by simp;omega
    obtain ⟨u2,T2,wU,FG,Ae,pW,vY,q_,kS⟩:=kU.out.mb.own.growRow Hxs.out;have OD:=wU;rw [Nc.out.2] at OD;have OD:=Option.some.inj OD;subst OD;have EL:=zh Ae;have pX:=zh kS;have EM:=zh vY;have EO:=zh q_;have EP:=zh pW;have RK:=zh FG;have EQ : Hid (pb ∉ T2):=fun h => kU.out.mb.nb (pW _ h)
    have Tt : Hid (xs.length + 1 ≤ 1000000):=by show _ ≤ _;omega
    have vX : Hid (w.heap.size ≤ w7.heap.size):=kU.out.sz;clear wU FG Ae pW vY q_ kS;go_upto_region 16 with (fail);refine aI (fun W => W.cell? ⟨pb,0,none⟩ = some (.slice (some ⟨g,0,none⟩) n.ends.length e1) ∧ W.cell? ⟨g,v,none⟩ = some (.slice AU xs.length cU)) 18 [false,false,false,false,false,false,false,false,false,false,false,false,false,false,false,false,true,true] (by kernel_rfl) (by kernel_rfl) (show (World.drew w7).cell? ⟨pb,0,none⟩ = some (.slice (some ⟨g,0,none⟩) n.ends.length e1) ∧ (World.drew w7).cell? ⟨g,v,none⟩ = some (.slice AU xs.length cU) from ⟨Nc.out.1,Nc.out.2⟩) ?_
    simp only [d_,dO,zT]
    iterate 16 (apply bY rfl;(intro W hW;(obtain ⟨k0,k1⟩:=hW);go_simp;with_reducible rfl);simp only [zA])
    obtain ⟨W,dr⟩ : ∃ W,W = World.drew w7:=⟨_,rfl⟩
    rw [← dr];have hW:=(show (World.drew w7).cell? ⟨pb,0,none⟩ = some (.slice (some ⟨g,0,none⟩) n.ends.length e1) ∧ (World.drew w7).cell? ⟨g,v,none⟩ = some (.slice AU xs.length cU) from ⟨Nc.out.1,Nc.out.2⟩);rw [← dr] at hW;have fV:=zh dr;clear dr
    refine dz (v:=?_) (ob:=?_) rfl ?_ ?_ ?_;rotate_left 2
    (go_simp;first | with_reducible rfl | (refine ⟨?_,?_⟩ <;> with_reducible rfl))
    exact ⟨bc (au _ _) hW.1,bc (au _ _) hW.2⟩;intro w8 lE md
    replace hW:=md
    clear md
    have Ct : Hid (w8 = (World.drew w7).alloc (.cells #[.int .i64 (v : Int),.int .i64 (xs.length : Int)] 83)):=by show _ = _;rw [lE,fV.out]
    have k_ : Hid (aa w7 w8):=by show aa _ _;rw [Ct.out];exact ah _ (ak (ad _))
    have rY : Hid (eU w8 w.heap.size (.slice AU xs.length cU) xs T2):=jA.keep EL.out k_.out.below
    have Cu : Hid (w8.cell? ⟨w7.heap.size,0,none⟩ = some (.int .i64 (v : Int)) ∧ w8.cell? ⟨w7.heap.size,1,none⟩ = some (.int .i64 (xs.length : Int))):=by show _ ∧ _;rw [Ct.out];exact ma (World.drew w7) _ _ _
    rw [show W.heap.size = w7.heap.size from by rw [fV.out];rfl]
    clear lE fV
    (try simp only [zA])
    refine dP (fun Q' HQ => ?_)
    (refine kN (base:=w.heap.size) (v:=.slice AU xs.length cU) (xs:=xs) rfl _ _ rfl rfl rY.out w7.heap.size ((v : Int),(xs.length : Int)) rfl Cu.out.1 Cu.out.2 Tt.out (Nat.le_trans vX.out k_.out.below.size) ?_);intro g9 Je w9 ix rr xr;have fQ:=aU.of_grown rr;have vZ : (Value.slice AU xs.length cU).ownBlock.toList = T2:=(EL.out.2).symm;have mK : (⟨pb,0,none⟩ : Addr).block ∉ (Value.slice AU xs.length cU).ownBlock.toList:=(by rw [vZ];exact EQ.out);have lh : (⟨g,v,none⟩ : Addr).block ∉ (Value.slice AU xs.length cU).ownBlock.toList:=(by rw [vZ];exact EM.out);have j_:=fQ.cell mK hW.1;have mL:=fQ.cell lh hW.2;have IY:=fQ.fz lh hW.2 (bf k_.out.below Nc.out.2 RK.out);refine HQ _ _ ⟨j_,mL⟩ ?_;have pY:=zh (oB pX.out EL.out k_.out ix rr xr EP.out EO.out);clear ix rr xr mK lh fQ vZ hW
    (try simp only [zA])
    simp only [bA];obtain ⟨S5,eF,eD,wK⟩:=pY.out;have Ag:=zh (kU.out.own eF eD wK)
    have IX : (N.ends.set v (xs ++ [((v : Int),(xs.length : Int))]))[v]? = some (xs ++ [((v : Int),(xs.length : Int))]):=by rw [List.getElem?_set_self (by have:=gx.out;omega)]
    have Hro:=zh IX
    have Hcm:=zh (show oD ((w9.setCell ⟨g,v,none⟩ (.slice (some ⟨g9,0,none⟩) (xs.length + 1) Je)).cell? ⟨g,v,none⟩) = xs.length + 1 from by
     obtain ⟨u9,T9,hu9,-,hR9,-,-,-⟩:=Ag.out.mb.own.rowCell IX;obtain ⟨A9,c9',rfl,-,-,-⟩:=id hR9.read;rw [hu9]
     simp [oD])
    clear eF eD wK IX pY;go_wp2;go_roundw
    case rel => exact ⟨_,S5,_,Ag.out.up (by simp;omega),by show (List.set _ _ _).length = _;rw [List.length_set];exact gx.out,Hro.out,PR.out.setRow v (by simp;omega),by simp;omega⟩
    case measure => rw [Hcm.out];have h7:=Hu0.out;simp only [h7,oD];omega
   ·have e0 : ((xs.length : Int) < 6 + (b : Int)) = False:=by simp;omega
    go_upto_region 29 with (fail);clear e0;obtain ⟨k0,k1,k2,-,-,-⟩:=(kU.out).mb.box.cells;obtain ⟨e0,IJ,e2,f0,f1,f2⟩:=(kU.out).rb.box.cells;have ez:=zh (kU.out).ret;go_wp2;refine bodyPost_ret (v:=.agg #[.slice (some ⟨g,0,none⟩) n.ends.length e1,.slice EI n.ids.length eI,.slice (some ⟨gN,0,none⟩) n.inputs.length eN]) (by simp [results,Tryz.results129,go_sem, *]) rfl ?_;obtain ⟨r1,r2,r3⟩:=ez.out;exact ⟨_,_,_,_,_,rfl,r1,PR.out,r2.mono (by omega),r3⟩
 ·obtain ⟨k0,k1,k2,-,-,-⟩:=kZ.out.mb.box.cells;go_wp2_with fail;refine (yJ cb A L c (P + 4) R M _ _ _ n w4 kZ.out.mb.cur (by omega) kZ.out.mb.own.read Hg.out hR hM2).mono ?_;rintro e w5 ⟨ve5,vi5,vn5,N5,S5,rfl,Jc,⟨o_,SS,hq3⟩,mY,tu⟩;obtain ⟨D0,d0,rfl,-,-,-⟩:=id Jc.read.1;obtain ⟨D1,d1,rfl,-,-,-⟩:=id Jc.read.2.1;obtain ⟨D2,d2,rfl,-,-,-⟩:=id Jc.read.2.2;have Fb:=kZ.out.assign tu mY Jc;have fO:=kZ.out.seen tu mY;have h0i : 0 < N5.ids.length:=by omega
  have aY:=Fb.mb.ownIds.1.1
  obtain ⟨gI,rfl⟩ : ∃ gI,D1 = some ⟨gI,0,none⟩:=by
   rcases aY.cases with ⟨h1,h2⟩ | ⟨gq,cq,h1,-,-⟩
   ·rw [h2] at h0i;simp at h0i
   ·cases h1;exact ⟨gq,rfl⟩
  clear k0 k1 k2;obtain ⟨k0,k1,k2,f0,f1,f2⟩:=fO.mb.box.cells;have W8:=zh Fb;have Hq:=zh (And.intro o_ (And.intro SS hq3));clear Fb fO Jc mY tu aY o_ SS hq3;go_upto_region 19 with (fail);obtain ⟨w6,zL⟩ : ∃ z,z = ((w5.setCell ⟨pb,0,none⟩ (.slice D0 N5.ends.length d0)).setCell ⟨pb,1,none⟩ (.slice (some ⟨gI,0,none⟩) N5.ids.length d1)).setCell ⟨pb,2,none⟩ (.slice D2 N5.inputs.length d2):=⟨_,rfl⟩
  rw [← zL]
  have Ji : Hid (Br cb pb A L c (P + 4 + 1000) w w6 (.slice D0 N5.ends.length d0) (.slice (some ⟨gI,0,none⟩) N5.ids.length d1) (.slice D2 N5.inputs.length d2) N5 S5):=by show Br _ _ _ _ _ _ _ _ _ _ _ _ _;rw [zL];exact W8.out
  clear zL W8 k0 k1 k2 f0 f1 f2;obtain ⟨z0,kg⟩:=aW N5.ids 0 h0i
  have aby : v < N5.ids.length:=by have:=Hq.out.2.2;omega
  have hci:=Ji.out.mb.ownIds.1.1.cell kg
  have hgi : gI ≠ cb:=fun e => by
   have h1:=(World.ownsRow.lt Ji.out.mb.ownIds.1.1 gI (by simp [Value.ownBlock])).1;have h2:=eA.out;omega
  go_upto_region 19 with (fail);refine aI (fun W => W.cell? ⟨pb,1,none⟩ = some (.slice (some ⟨gI,0,none⟩) N5.ids.length d1) ∧ W.cell? ⟨gI,0,none⟩ = some (.int .i64 z0)) 10 [false,false,false,false,false,false,false,false,true,true] (by kernel_rfl) (by kernel_rfl) (show (World.drew w6).cell? ⟨pb,1,none⟩ = some (.slice (some ⟨gI,0,none⟩) N5.ids.length d1) ∧ (World.drew w6).cell? ⟨gI,0,none⟩ = some (.int .i64 z0) from ⟨Ji.out.mb.box.cells.2.1,hci⟩) ?_
  simp only [d_,dO,zT]
  iterate 8 (apply bY rfl;(intro W hW;(obtain ⟨k0,k1⟩:=hW);go_simp;with_reducible rfl);simp only [zA])
  obtain ⟨W,dr⟩ : ∃ W,W = World.drew w6:=⟨_,rfl⟩
  rw [← dr];have hW:=(show (World.drew w6).cell? ⟨pb,1,none⟩ = some (.slice (some ⟨gI,0,none⟩) N5.ids.length d1) ∧ (World.drew w6).cell? ⟨gI,0,none⟩ = some (.int .i64 z0) from ⟨Ji.out.mb.box.cells.2.1,hci⟩);rw [← dr] at hW;have fV:=zh dr;clear dr
  refine dz (v:=?_) (ob:=?_) rfl ?_ ?_ ?_;rotate_left 2
  (go_simp;first | with_reducible rfl | (refine ⟨?_,?_⟩ <;> with_reducible rfl))
  exact ⟨bc (au _ _) hW.1,bc (au _ _) hW.2⟩;intro w7 Sj W_
  replace hW:=W_
  clear W_
  have ND : aa w6 w7:=(by rw [Sj,fV.out];exact ah _ (ak (ad _)))
  have kU:=zh ((Ji.out).since ND)
  have U4 : Hid (Own w7 w6.heap.size (.slice (some ⟨w6.heap.size,0,none⟩) 5 5) [0,1,999999,1000000,z0]):=(by show Own _ _ _ _;rw [Sj,fV.out];exact rg [0,1,999999,1000000,z0] rfl rfl (by simp) (Nat.le_refl _))
  have Si : cb < w6.heap.size:=(Ji.out).mb.cur.lt
  rw [show W.heap.size = w6.heap.size from by rw [fV.out];rfl]
  clear Sj ND
  (try simp only [zA])
  refine Or.inl ⟨rfl,?_⟩
  go_simp
  (with_reducible refine (tx cb A L c (P + 4 + 1000) w6.heap.size w6.heap.size 5 5 [0,1,999999,1000000,z0] _ rfl kU.out.mb.cur (by omega) U4.out Si (by simp) (by simp)).mono ?_)
  rintro e W' ⟨a,rfl,ha,iq,hC⟩;refine ⟨_,rfl,And.intro (aD hW.1 it _ hC) (aD hW.2 hgi _ hC),?_⟩
  replace hW:=And.intro (aD hW.1 it _ hC) (aD hW.2 hgi _ hC)
  have TF:=zh (kU.out.seen hC iq);clear iq hC ha
  (try simp only [zA])
  simp only [bA]
  obtain ⟨f9,⟨z9,c9⟩,S9,ne⟩:=TF.out.setId (k:=v) a (by have:=Hq.out.2.2;omega)
  have Ag:=zh ne;clear ne;go_upto_region 29 with (fail);obtain ⟨w9,Aa⟩ : ∃ z,z = W'.setCell ⟨gI,v,none⟩ (.int .i64 a):=⟨_,rfl⟩
  rw [← Aa];rw [← Aa] at Ag;clear Aa hW c9 f9;obtain ⟨k0,k1,k2,-,-,-⟩:=(Ag.out).mb.box.cells;obtain ⟨e0,IJ,e2,f0,f1,f2⟩:=(Ag.out).rb.box.cells;have ez:=zh (Ag.out).ret;go_wp2;refine bodyPost_ret (v:=.agg #[.slice D0 N5.ends.length d0,.slice (some ⟨gI,0,none⟩) N5.ids.length d1,.slice D2 N5.inputs.length d2]) (by simp [results,Tryz.results129,go_sem, *]) rfl ?_;obtain ⟨r1,r2,r3⟩:=ez.out
  exact ⟨_,_,_,_,_,rfl,r1,⟨by show N5.ends.length ≤ _;rw [Hq.out.1];exact iy.out.ends,fun k es he => iy.out.row k es (by rw [← Hq.out.1];exact he),by show (List.set _ _ _).length ≤ _;rw [List.length_set];have:=Hq.out.2.2;omega,by show N5.inputs.length ≤ _;rw [Hq.out.2.1];exact iy.out.inputs⟩,r2.mono (by omega),r3⟩
 ·obtain ⟨jT,S5,ri⟩:=kZ.out.putIds (W':=w4.alloc (.cells #[.int .i64 5] 3)) (v':=.slice (some ⟨w4.heap.size,0,none⟩) 1 1) (ids':=[5]) ⟨rg [5] rfl rfl (by simp) kZ.out.sz,rfl⟩ ((aU.refl _ _).alloc _) (fun j hj => .inr (by simp [Value.ownBlock] at hj;omega))
  obtain ⟨k0,k1,k2,f0,f1,f2⟩:=jT.cells;have kU:=zh ri;clear jT ri;go_upto_region 29 with (fail);obtain ⟨w7,nT⟩ : ∃ z,z = (w4.alloc (.cells #[.int .i64 5] 3)).setCell ⟨pb,1,none⟩ (.slice (some ⟨w4.heap.size,0,none⟩) 1 1):=⟨_,rfl⟩
  rw [← nT];rw [← nT] at kU;clear nT k0 k1 k2 f0 f1 f2;obtain ⟨k0,k1,k2,-,-,-⟩:=(kU.out).mb.box.cells;obtain ⟨e0,IJ,e2,f0,f1,f2⟩:=(kU.out).rb.box.cells;have ez:=zh (kU.out).ret;go_wp2;refine bodyPost_ret (v:=.agg #[.slice (some ⟨g,0,none⟩) n.ends.length e1,.slice (some ⟨w4.heap.size,0,none⟩) 1 1,.slice (some ⟨gN,0,none⟩) n.inputs.length eN]) (by simp [results,Tryz.results129,go_sem, *]) rfl ?_;obtain ⟨r1,r2,r3⟩:=ez.out;exact ⟨_,_,_,_,_,rfl,r1,⟨iy.out.ends,iy.out.row,by simp,iy.out.inputs⟩,r2.mono (by omega),r3⟩
 ·go_upto_region 23 with (fail)
  go_loopw [131] (fun _ wr => ∃ (ve vn : Value) (N : am) (S : List Nat),Br cb pb A L c (P + 4 + 2 * N.ends.length) w wr ve (.slice EI n.ids.length eI) vn N S ∧ N.ends.length ≤ 41 ∧ N.inputs.length = N.ends.length ∧ N.ids = n.ids ∧ Bd N) (fun _ wr => 42 - oD (wr.cell? ⟨pb,0,none⟩))
  case atStart => exact ⟨_,_,n,_,kZ.out.up (by omega),by omega,p9.out,rfl,iy.out⟩
  case round =>
   obtain ⟨ve,vn,N,S,hb,mS,PM,hid,WZ⟩:=hrel;obtain ⟨wo,rfl⟩ : ∃ z,z = wr:=⟨_,rfl⟩
   obtain ⟨Q0,q0,rfl,-,-,-⟩:=id hb.mb.own.read.1;obtain ⟨Q2,q2,rfl,-,-,-⟩:=id hb.mb.own.read.2.2;have xB:=zh hb;have PR:=zh WZ;have xc:=zh hid;have XV:=zh PM;clear hb WZ hid PM;go_upto_region 23 with (fail);refine aI (fun W => W.cell? ⟨pb,0,none⟩ = some (.slice Q0 N.ends.length q0)) 7 [false,false,false,false,true,true,true] (by kernel_rfl) (by kernel_rfl) (show (World.drew wo).cell? ⟨pb,0,none⟩ = some (.slice Q0 N.ends.length q0) from xB.out.mb.box.cells.1) ?_
   simp only [d_,dO,zT]
   iterate 4 (apply bY rfl;(intro W hW;(have k0:=hW);go_simp;with_reducible rfl);simp only [zA])
   obtain ⟨W,dr⟩ : ∃ W,W = World.drew wo:=⟨_,rfl⟩
   rw [← dr];have hW:=(show (World.drew wo).cell? ⟨pb,0,none⟩ = some (.slice Q0 N.ends.length q0) from xB.out.mb.box.cells.1);rw [← dr] at hW;have fV:=zh dr;clear dr;refine Or.inl ⟨rfl,?_⟩
   go_simp
   (with_reducible refine (ew cb A L c (P + 4 + 2 * N.ends.length) 2 W (by rw [fV.out];exact xB.out.mb.cur.since (ak (ad _))) (by omega) (by omega)).mono ?_)
   rintro e W' ⟨b,rfl,hb,iq,hC⟩;refine ⟨_,rfl,aD hW it _ hC,?_⟩
   replace hW:=aD hW it _ hC
   have oL : aa wo W:=(by rw [fV.out];exact ak (ad _))
   have kU:=zh (xB.out.seen (((gB.refl cb wo).after oL).trans hC) iq);have b_ : b < 2:=(by omega);have m1 : IntKind.i64.wrap (40 + (b : Int)) = 40 + (b : Int):=aL _ (by omega) (by omega);clear hC iq oL hb
   (try simp only [zA])
   refine dA (v:=?_) rfl ?_ hW ?_;rotate_left;(go_simp;with_reducible rfl)
   simp only [zA]
   refine dA (v:=?_) rfl ?_ hW ?_;rotate_left;(go_simp;with_reducible rfl)
   simp only [zA];simp only [bA];obtain ⟨w7,rfl⟩ : ∃ z,z = W':=⟨_,rfl⟩
   clear hW
   by_cases hlt : N.ends.length < 40 + b
   ·have e0 : ((N.ends.length : Int) < 40 + (b : Int)) = True:=by simp;omega
    have pg : aa w7 (w7.alloc (.cells #[.slice none 0 0] 81)):=ah _ (ad _);have TF:=zh (kU.out.since pg);obtain ⟨k0,k1,k2,f0,f1,f2⟩:=kU.out.mb.box.cells
    have Hl8 : Hid (N.ends.length + 1 ≤ 1000000):=by show _ ≤ _;omega
    have XZ : Hid (∀ q,(Value.slice Q0 N.ends.length q0).ownBlock = some q → (lW w7 w.heap.size).heap.size ≤ q):=fun q hq => by
     obtain ⟨S1,S2,S3,⟨vs,Ss,h1,-⟩,-,-,-,-⟩:=id TF.out.mb.own;have h9:=(World.ownsRow.lt h1 q hq).1;simp [lW]
     omega
    have Hwq : Hid (aa (lW w7 w.heap.size) (w7.alloc (.cells #[.slice none 0 0] 81))):=aa.after (sg w7 kU.out.sz) pg;clear pg
    go_upto_region 25 with (at_builtin;refine uN (wT:=lW w7 w.heap.size) (base:=w.heap.size) (v:=.slice Q0 N.ends.length q0) (u:=.slice none 0 0) (T:=[]) (es:=[]) rfl _ _ rfl rfl TF.out.mb.own w7.heap.size rfl (by simp) (tT _ _) (fun j hj => by simp at hj) Hl8.out Hwq.out TF.out.sz XZ.out ?_;intro v8 w8 S8 hv8 Sb Sc LV oP;obtain ⟨A8,c8,hq8,-,-,-⟩:=id Sb.read.1;have Pr : v8 = .slice A8 (N.ends.length + 1) c8:=(by rw [hq8];simp);clear hq8;subst Pr;obtain ⟨yH,ne⟩:=TF.out.put0 Sb (fun j hj => by rcases Sc j hj with h | h | h;exact .inl h;simp at h;right;omega) LV;clear k0 k1 k2 f0 f1 f2 hv8 Sc LV oP;obtain ⟨k0,k1,k2,f0,f1,f2⟩:=yH.cells;have Ag:=zh ne;clear yH ne Sb)
    obtain ⟨w9,Aa⟩ : ∃ z,z = w8.setCell ⟨pb,0,none⟩ (.slice A8 (N.ends.length + 1) c8):=⟨_,rfl⟩
    rw [← Aa];rw [← Aa] at Ag;clear Aa k0 k1 k2 f0 f1 f2;have pg : aa w9 (w9.alloc (.cells #[.int .i64 0] 3)):=ah _ (ad _);have Sk:=zh (Ag.out.since pg)
    have aaT : Hid (N.inputs.length + [(0 : Int)].length ≤ 17592186044416):=by show _ ≤ _;have:=PR.out.inputs;simp;omega
    clear pg;obtain ⟨k0,k1,k2,f0,f1,f2⟩:=Ag.out.mb.box.cells
    go_wp2_with (at_builtin;refine jh (base:=w.heap.size) rfl _ _ rfl rfl Sk.out.mb.ownIn.1.1 rfl (rf _ _) aaT.out Sk.out.sz ?_;intro v' Tp T gX BJ WX;obtain ⟨V,mV,cV,rfl⟩:=gQ.one gX;obtain ⟨Fb,S6,ri⟩:=Sk.out.putIn gX BJ WX;clear k0 k1 k2 f0 f1 f2 gX BJ WX;obtain ⟨k0,k1,k2,f0,f1,f2⟩:=Fb.cells;have Xa:=zh ri;clear Fb ri)
    go_roundw
    case rel => exact ⟨_,_,_,S6,Xa.out.up (by simp;omega),by simp;omega,by have:=XV.out;simp;omega,xc.out,PR.out.more (by omega) (by have:=XV.out;omega)⟩
    case measure => rw [Xa.out.mb.box.cells.1,xB.out.mb.box.cells.1];simp [oD];omega
   ·have e0 : ((N.ends.length : Int) < 40 + (b : Int)) = False:=by simp;omega
    have k0:=kU.out.mb.box.cells.1;obtain ⟨yH,S8,ne⟩:=kU.out.putIds (v':=.slice none 0 0) (ids':=[]) (kw _ _) (aU.refl _ _) (fun j hj => by simp at hj)
    clear k0;obtain ⟨k0,k1,k2,f0,f1,f2⟩:=yH.cells;have Ag:=zh ne;clear yH ne;go_upto_region 29 with (fail);obtain ⟨w9,Aa⟩ : ∃ z,z = w7.setCell ⟨pb,1,none⟩ (.slice none 0 0):=⟨_,rfl⟩
    rw [← Aa];rw [← Aa] at Ag;clear Aa e0 k0 k1 k2 f0 f1 f2;obtain ⟨k0,k1,k2,-,-,-⟩:=(Ag.out).mb.box.cells;obtain ⟨e0,IJ,e2,f0,f1,f2⟩:=(Ag.out).rb.box.cells;have ez:=zh (Ag.out).ret;go_wp2;refine bodyPost_ret (v:=.agg #[.slice Q0 N.ends.length q0,.slice none 0 0,.slice Q2 N.inputs.length q2]) (by simp [results,Tryz.results129,go_sem, *]) rfl ?_;obtain ⟨r1,r2,r3⟩:=ez.out;exact ⟨_,_,_,_,_,rfl,r1,⟨PR.out.ends,PR.out.row,by simp,PR.out.inputs⟩,r2.mono (by omega),r3⟩
 ·obtain ⟨e0,IJ,e2,f0,f1,f2⟩:=kZ.out.rb.box.cells;go_wp2;refine bodyPost_ret (v:=.agg #[.slice none 0 0,.slice none 0 0,.slice none 0 0]) (by simp [results,Tryz.results129,go_sem, *]) rfl ?_;have hpp:=eA.out;refine ⟨_,_,_,⟨[],[],[]⟩,[],rfl,De _ _,⟨by simp,fun k es he => by simp at he,by simp,by simp⟩,(kZ.out.mb.cur.keep (fun k hk => ey w4 (pb + 1) _ _ _ (by omega))).mono (by omega),?_⟩
  exact ((kZ.out.mb.far.setCell (p:=⟨pb + 1,0,none⟩) (.inl (by show _ ≤ pb + 1;omega)) _).setCell (p:=⟨pb + 1,1,none⟩) (.inl (by show _ ≤ pb + 1;omega)) _).setCell (p:=⟨pb + 1,2,none⟩) (.inl (by show _ ≤ pb + 1;omega)) _
 ·have t0 : ((x : Int) == 0) = false:=by simp;omega
  have t1 : ((x : Int) == 1) = false:=by simp;omega
  have t2 : ((x : Int) == 2) = false:=by simp;omega
  have t3 : ((x : Int) == 3) = false:=by simp;omega
  have t4 : ((x : Int) == 4) = false:=by simp;omega
  have t5 : ((x : Int) == 5) = false:=by simp;omega
  have t6 : ((x : Int) == 6) = false:=by simp;omega
  have t7 : ((x : Int) == 7) = false:=by simp;omega
  have t8 : ((x : Int) == 8) = false:=by simp;omega
  go_upto_region 29 with (fail);clear t0 t1 t2 t3 t4 t5 t6 t7 t8;obtain ⟨k0,k1,k2,-,-,-⟩:=(kZ.out).mb.box.cells;obtain ⟨e0,IJ,e2,f0,f1,f2⟩:=(kZ.out).rb.box.cells;have ez:=zh (kZ.out).ret;go_wp2;refine bodyPost_ret (v:=.agg #[.slice (some ⟨g,0,none⟩) n.ends.length e1,.slice EI n.ids.length eI,.slice (some ⟨gN,0,none⟩) n.inputs.length eN]) (by simp [results,Tryz.results129,go_sem, *]) rfl ?_;obtain ⟨r1,r2,r3⟩:=ez.out;exact ⟨_,_,_,_,_,rfl,r1,iy.out,r2.mono (by omega),r3⟩
theorem Gd.newIds {R M : Nat} {n N : am} (h : Gd R M n) (he : N.ends = n.ends) (hi : N.inputs = n.inputs) (hl : N.ids.length = n.ends.length) : Gd R M N:=
 ⟨by rw [he];exact h.ends,by rw [he];exact h.row,by rw [hl];exact h.ends,by rw [hi,he];exact h.inputs,fun k es hk e hm => by
  obtain ⟨a,b,fs,h1,h2,h3⟩:=h.wf k es (by rw [← he];exact hk) e hm
  exact ⟨a,b,fs,h1,by rw [he];exact h2,h3⟩⟩
theorem L4 (cb : Nat) (A : Option Addr) (L c P most M : Nat) (w : World) (hc : dQ w cb A L c P) (hP : P ≤ 3900000000000000000) (tg : 1 ≤ most) (xt : most ≤ M) (hM : M ≤ 38) :
  Calls Tryz.prog 96 #[.pointer (some ⟨cb,0,none⟩),.int .i64 most] w (CA cb w.heap.size A L c (P + 210000000000000000) w Bd):=by
 have iw:=hc.lt;obtain ⟨B,wb⟩ : ∃ z,z = w.heap.size + 1:=⟨_,rfl⟩
 obtain ⟨w0,ck⟩ : ∃ z,z = w.alloc (.cells #[.slice none 0 0,.slice none 0 0,.slice none 0 0] 27):=⟨_,rfl⟩
 have cX : aa w w0:=by rw [ck];exact ah _ (ad _)
 have kg : w0.heap.size = B:=by rw [ck,wb];simp
 have kq : bQ w0 w.heap.size (.slice none 0 0) (.slice none 0 0) (.slice none 0 0):=by
  rw [ck];show (w.heap.push _)[w.heap.size]? = _
  rw [Array.getElem?_push_size]
 have nP:=zh kq;have pK:=zh cX;have dh:=zh ck;have iy:=zh wb;have vS:=zh kg;have LK:=zh (hc.since cX);clear kq cX ck hc wb kg
 go_enter Tryz.func96,Tryz.ntmps96
 go_upto_region 1 with (fail);rw [← dh.out];go_wp2_with fail;refine (PJ cb A L c P most M w0 LK.out (by omega) tg xt hM).mono ?_;rintro e w1 ⟨Wr,Ws,Wt,N0,S0,rfl,ho,⟨Xb,zM⟩,nX,lJ⟩;have EX : Gd 100 40 N0:=Xb.mono (Nat.le_refl _) (by omega);obtain ⟨A1,c1,rfl,-,k9,-⟩:=id ho.read.1;obtain ⟨AI,cI,rfl,-,-,-⟩:=id ho.read.2.1;obtain ⟨AN,cN,rfl,-,-,-⟩:=id ho.read.2.2;obtain ⟨m,mS⟩ : ∃ m,N0.ends.length = m:=⟨_,rfl⟩
 obtain ⟨w2,dK⟩ : ∃ z,z = w1.alloc (.cells #[.slice A1 N0.ends.length c1,.slice AI N0.ids.length cI,.slice AN N0.inputs.length cN] 27):=⟨_,rfl⟩
 obtain ⟨pb,fo⟩ : ∃ z,z = w1.heap.size:=⟨_,rfl⟩
 have jZ : aa w1 w2:=by rw [dK];exact ah _ (ad _)
 have j6 : B ≤ w1.heap.size:=by rw [← vS.out];exact lJ.size
 have lF : cb < B:=by have:=iy.out;omega
 have hmb : Mb cb B pb A L c (P + 200000000000000000) w0 w2 (.slice A1 N0.ends.length c1) (.slice AI N0.ids.length cI) (.slice AN N0.inputs.length cN) N0 S0:=
  ⟨(ho.keep jZ.below).mono (by rw [vS.out];exact Nat.le_refl _),by rw [dK,fo];exact bH.new _ _ _ _ _,fun hj => by have:=(ho.range _ hj).2;omega,nX.since jZ,(lJ.mono (by rw [vS.out];exact Nat.le_refl _)).trans (CB.of (jZ.below.mono j6))⟩
 have qe:=zh hmb
 have eA : Hid (B ≤ pb ∧ pb < w2.heap.size):=⟨by rw [fo];exact j6,by rw [dK,fo];simp⟩
 have xC : Hid (B ≤ w2.heap.size):=Nat.le_trans j6 jZ.below.size;have j7:=zh dK;have nY:=zh fo;have EY:=zh (And.intro EX zM);have gx:=zh mS;have fO:=hmb.box.cells.1;clear hmb dK fo EX Xb zM ho nX lJ jZ j6 fO;rw [mS] at qe j7;clear mS;go_upto_region 2 with (fail);rw [gx.out,← j7.out,← nY.out];go_wp2_with fail;refine (nR cb A L c _ 3 w2 qe.out.cur (by omega) (by omega)).mono ?_;rintro e w3 ⟨bb,rfl,rh,kP⟩;have ph:=zh (qe.out.seen kP rh lF eA.out.1 xC.out);have zN : Hid (B ≤ w3.heap.size):=Nat.le_trans xC.out kP.size;clear rh kP;cases bb
 ·clear qe;have MA:=EY;obtain ⟨k0,k1,k2,-,-,-⟩:=ph.out.box.cells;have L5:=ph.out.cur;have Sl:=zh L5;have Xc:=zh ph.out.own.read;clear L5;go_wp2_with fail;refine (wl cb A L c (P + 200000000000000000 + 2) 100 40 _ _ _ N0 w3 Sl.out (by omega) Xc.out MA.out.1 MA.out.2 (by omega) (by omega)).mono ?_;rintro e w9 ⟨ve9,vi9,vn9,N9,S9,rfl,ix,CL,wm,Gl⟩;obtain ⟨X0,x0,rfl,-,-,-⟩:=id ix.read.1;obtain ⟨X1,x1,rfl,-,-,-⟩:=id ix.read.2.1;obtain ⟨X2,x2,rfl,-,-,-⟩:=id ix.read.2.2;have co:=ph.out.far.trans (Gl.mono zN.out)
  have iQ:=co.blkN nP.out (by have:=iy.out;omega) (by omega)
  obtain ⟨e0,e1,e2,f0,f1,f2⟩:=iQ.box.cells;have aY:=ix.mono zN.out;rw [iy.out] at aY co;have ez:=zh (gC pK.out aY wm co iw);have L6:=zh CL;clear co iQ aY CL wm Gl ix k0 k1 k2;go_wp2;refine bodyPost_ret (v:=.agg #[.slice X0 N9.ends.length x0,.slice X1 N9.ids.length x1,.slice X2 N9.inputs.length x2]) (by simp [results,Tryz.results96,go_sem, *]) rfl ?_;obtain ⟨r1,r2,r3⟩:=ez.out;exact ⟨_,_,_,N9,S9,rfl,r1,L6.out,r2.mono (by omega),r3⟩
 ·obtain ⟨k0,k1,k2,-,-,-⟩:=ph.out.box.cells;have HN3:=zh ph.out.own.read;go_wp2_with fail;refine (yJ cb A L c _ 100 40 _ _ _ N0 w3 ph.out.cur (by omega) HN3.out EY.out.1 (by omega) (by omega)).mono ?_;rintro e w4 ⟨ve4,vi4,vn4,N4,S4,rfl,mf,⟨he4,Y0,Vc⟩,wh,sl⟩;obtain ⟨D0,d0,rfl,-,-,-⟩:=id mf.read.1;obtain ⟨D1,d1,rfl,-,-,-⟩:=id mf.read.2.1;obtain ⟨D2,d2,rfl,-,-,-⟩:=id mf.read.2.2;have hm5:=ph.out.assign sl wh mf ph.out.box.lt lF eA.out.1 zN.out
  obtain ⟨f0,f1,f2,g0,g1,g2⟩:=(ph.out.box.blk (sl.block pb ph.out.box.lt (by have:=eA.out;omega))).cells
  have fP:=zh hm5
  have nZ : Hid (B ≤ (set3 w4 pb (.slice D0 N4.ends.length d0) (.slice D1 N4.ids.length d1) (.slice D2 N4.inputs.length d2)).heap.size):=by show _ ≤ _;rw [eH];exact Nat.le_trans zN.out sl.size
  have Ra : Hid (Gd 100 40 N4 ∧ 0 < N4.ends.length):=⟨EY.out.1.newIds he4 Y0 Vc,by rw [he4];exact EY.out.2⟩
  clear hm5 mf he4 Y0 Vc wh sl k0 k1 k2;go_upto_region 4 with (fail);obtain ⟨w5,LB⟩ : ∃ z,z = set3 w4 pb (.slice D0 N4.ends.length d0) (.slice D1 N4.ids.length d1) (.slice D2 N4.inputs.length d2):=⟨_,rfl⟩
  have Xd : ((w4.setCell ⟨pb,0,none⟩ (.slice D0 N4.ends.length d0)).setCell ⟨pb,1,none⟩ (.slice D1 N4.ids.length d1)).setCell ⟨pb,2,none⟩ (.slice D2 N4.inputs.length d2) = w5:=LB.symm;rw [Xd];rw [← LB] at fP nZ;clear LB Xd f0 f1 f2 g0 g1 g2;obtain ⟨k0,k1,k2,-,-,-⟩:=fP.out.box.cells;have L5:=fP.out.cur;have Sl:=zh L5;have Xc:=zh fP.out.own.read;clear L5;go_wp2_with fail;refine (wl cb A L c (P + 200000000000000000 + 2 + 1000) 100 40 _ _ _ N4 w5 Sl.out (by omega) Xc.out Ra.out.1 Ra.out.2 (by omega) (by omega)).mono ?_;rintro e w9 ⟨ve9,vi9,vn9,N9,S9,rfl,ix,CL,wm,Gl⟩;obtain ⟨X0,x0,rfl,-,-,-⟩:=id ix.read.1;obtain ⟨X1,x1,rfl,-,-,-⟩:=id ix.read.2.1;obtain ⟨X2,x2,rfl,-,-,-⟩:=id ix.read.2.2;have co:=fP.out.far.trans (Gl.mono nZ.out)
  have iQ:=co.blkN nP.out (by have:=iy.out;omega) (by omega)
  obtain ⟨e0,e1,e2,f0,f1,f2⟩:=iQ.box.cells;have aY:=ix.mono nZ.out;rw [iy.out] at aY co;have ez:=zh (gC pK.out aY wm co iw);have L6:=zh CL;clear co iQ aY CL wm Gl ix k0 k1 k2;go_wp2;refine bodyPost_ret (v:=.agg #[.slice X0 N9.ends.length x0,.slice X1 N9.ids.length x1,.slice X2 N9.inputs.length x2]) (by simp [results,Tryz.results96,go_sem, *]) rfl ?_;obtain ⟨r1,r2,r3⟩:=ez.out;exact ⟨_,_,_,N9,S9,rfl,r1,L6.out,r2.mono (by omega),r3⟩
def jj (k v : Nat) : List (Int × Int):=[((((v + 1) % k : Nat) : Int),1),((((v + k - 1) % k : Nat) : Int),0)]
def iP (k : Nat) : List (List (Int × Int)):=(List.range k).map (jj k)
def hZ (k : Nat) : am:={ ends:=iP k,ids:=[],inputs:=List.replicate k 0 }
def n6 (k v : Nat) : am:={ ends:=(iP k).take v ++ List.replicate (k - v) [],ids:=[],inputs:=List.replicate k 0 }
theorem tz {k v : Nat} (h : v < k) : (iP k)[v]? = some (jj k v):=by simp [iP,h]
theorem oG (k : Nat) : (iP k).length = k:=by simp [iP]
theorem IK {k v : Nat} (h : v < k) : { n6 k v with ends:=(n6 k v).ends.set v (jj k v) } = n6 k (v + 1):=by
 simp only [n6];congr 1
 have:=Ah [] (iP k) v (jj k v) (tz h)
 rwa [oG] at this
theorem IL {k v : Nat} (h : v < k) : (n6 k v).ends[v]? = some []:=by
 simp only [n6]
 rw [List.getElem?_append_right (by simp [oG];omega)]
 rw [List.getElem?_replicate,if_pos (by simp [oG];omega)]
theorem IM (k : Nat) : n6 k k = hZ k:=by
 have : (iP k).take k = iP k:=List.take_of_length_le (by rw [oG];exact Nat.le_refl _)
 simp [n6,hZ,this]
theorem ss (k : Nat) (zS : 1 ≤ k) (hk : k ≤ 1000000) (w : World) : Calls Tryz.prog 95 #[.int .i64 k] w (pu w (hZ k)):=by
 go_enter Tryz.func95,Tryz.ntmps95
 go_wp2_with fail;refine (lj k hk _).mono ?_;rintro e w1 ⟨ve,vi,vn,S,rfl,ho,hb⟩;have lT:=((bH.new w (.slice none 0 0) (.slice none 0 0) (.slice none 0 0) 27).below hb (by simp))
 have ed : w.heap.size + 1 ≤ w1.heap.size:=by have:=hb.size;simpa using this
 have hr:=ho.read;obtain ⟨⟨A1,c1,XS,_,k9,_⟩,⟨A2,c2,hvi,_,f6,_⟩,⟨A3,c3,hvn,_,gF,_⟩⟩:=hr
 obtain ⟨g,rfl⟩ : ∃ g,A1 = some ⟨g,0,none⟩:=by
  obtain ⟨S1,S2,S3,⟨vs,Ss,h1,_⟩,_⟩:=ho;rcases eT h1 with ⟨rfl,h0⟩ | ⟨g,c,rfl,_⟩
  ·simp [dl] at h0;omega
  ·cases XS;exact ⟨g,rfl⟩
 subst XS hvi hvn;simp only [dl,List.length_replicate,List.length_nil] at ho ⊢
 unfold maxLen at k9;have jL : Below w1.heap.size w1 (w1.alloc (.cells #[.slice (some ⟨g,0,none⟩) k c1,.slice A2 0 c2,.slice A3 k c3] 27)):=au _ _;have Ho:=zh (ho.keep jL);have xN:=zh (((au w _).trans (hb.mono (by simp))).trans (jL.mono (by omega)));have i8 : Hid (∀ j ∈ S,j < w1.heap.size):=fun j hj => (ho.range j hj).2
 have aaU:=zh (lT.alloc (.cells #[.slice (some ⟨g,0,none⟩) k c1,.slice A2 0 c2,.slice A3 k c3] 27));clear ho hb jL lT;go_wp2
 go_loopw [10] (fun i wr => ∃ v S,v ≤ k ∧ i = .int .i64 v ∧ aA wr (w.heap.size + 1) (.slice (some ⟨g,0,none⟩) k c1) (.slice A2 0 c2) (.slice A3 k c3) (n6 k v) S ∧ w1.heap.size ∉ S ∧ bH wr w1.heap.size (.slice (some ⟨g,0,none⟩) k c1) (.slice A2 0 c2) (.slice A3 k c3) ∧ bH wr w.heap.size (.slice none 0 0) (.slice none 0 0) (.slice none 0 0) ∧ Below w.heap.size w wr) (fun i _ => k - (intOf i).toNat)
 case atStart =>
  refine ⟨0,S,Nat.zero_le _,rfl,?_,fun hj => by have:=i8.out _ hj;omega,bH.new _ _ _ _ _,aaU.out,xN.out⟩
  have:=Ho.out
  simpa [n6] using this
 case round =>
  obtain ⟨v,S',hv,rfl,ho,hnS,L7,lT,xM⟩:=hrel;obtain ⟨IV,eS,lm,_⟩:=L7.cells
  by_cases hlt : v < k
  ·obtain ⟨u0,T0,Jf,hf0,_,ib,oH,Ax⟩:=ho.rowCell (IL hlt);have Mm : g ≠ w1.heap.size:=fun h => hnS (h ▸ Ax)
   have Z8:=L7.lt;obtain ⟨p,hp⟩ : ∃ p,p = (v + 1) % k:=⟨_,rfl⟩
   obtain ⟨q,hq⟩ : ∃ q,q = (v + k - 1) % k:=⟨_,rfl⟩
   have e1 : ((v : Int) + 1).tmod k = (p : Int):=by rw [hp,Int.tmod_eq_emod_of_nonneg (by omega)];simp
   have e2 : ((v : Int) + k - 1).tmod k = (q : Int):=by
    rw [hq,Int.tmod_eq_emod_of_nonneg (by omega),Int.natCast_emod];congr 1;omega
   have h1 : p < k:=hp ▸ Nat.mod_lt _ (by omega);have h2 : q < k:=hq ▸ Nat.mod_lt _ (by omega);have dG : jj k v = [((p : Int),1),((q : Int),0)]:=by rw [jj,← hp,← hq]
   have fA : Hid (∃ TG,aA ((wr.setCell ⟨g,v,none⟩ (.slice (some ⟨wr.heap.size,0,none⟩) 2 2)).alloc (.cells #[.int .i64 p,.int .i64 1,.int .i64 q,.int .i64 0] 83)).drew (w.heap.size + 1) (.slice (some ⟨g,0,none⟩) k c1) (.slice A2 0 c2) (.slice A3 k c3) (n6 k (v + 1)) TG ∧ w1.heap.size ∉ TG):=by
    have o1:=(ho.keep (au wr (.cells #[.int .i64 p,.int .i64 1,.int .i64 q,.int .i64 0] 83))).storeRow v (jA.mono (Gu wr p 1 q 0) (by omega)) (fun j hj hS => by simp at hj;have:=(ho.range j hS).2;omega)
    obtain ⟨TG,o2,hs⟩:=o1;rw [World.setCell_alloc_past _ _ _ _ oH,← dG,IK hlt] at o2;refine ⟨TG,o2.drew,fun hj => ?_⟩
    rcases hs _ hj with h | h
    ·exact hnS h
    ·simp at h;omega
   have Hb:=zh ((xM.setCell (p:=⟨g,v,none⟩) (by show _ ≤ g;omega) (.slice (some ⟨wr.heap.size,0,none⟩) 2 2)).alloc (by simpa using xM.size) (.cells #[.int .i64 p,.int .i64 1,.int .i64 q,.int .i64 0] 83))
   have Hx:=zh ((L7.set (a:=⟨g,v,none⟩) (u:=.slice (some ⟨wr.heap.size,0,none⟩) 2 2) Mm).alloc (.cells #[.int .i64 p,.int .i64 1,.int .i64 q,.int .i64 0] 83))
   have Hr:=zh ((lT.set (a:=⟨g,v,none⟩) (u:=.slice (some ⟨wr.heap.size,0,none⟩) 2 2) (by show g ≠ _;omega)).alloc (.cells #[.int .i64 p,.int .i64 1,.int .i64 q,.int .i64 0] 83))
   clear ho xM lT hnS L7 hp hq dG;go_wp2
   go_region
   go_wp2;go_roundw
   case rel => exact fA.out.elim fun TG h => ⟨v + 1,TG,by omega,by simp,h.1,h.2,Hx.out,Hr.out,Hb.out.drew⟩
   case measure => simp [intOf];omega
  ·obtain rfl : v = k:=by omega
   rw [IM] at ho;obtain ⟨M8,rZ,mN,hf0,hf1,FG⟩:=lT.cells
   have fA : Hid (∀ x y z,aA (((wr.setCell ⟨w.heap.size,0,none⟩ x).setCell ⟨w.heap.size,1,none⟩ y).setCell ⟨w.heap.size,2,none⟩ z) w.heap.size (.slice (some ⟨g,0,none⟩) v c1) (.slice A2 0 c2) (.slice A3 v c3) (hZ v) S' ∧ Below w.heap.size w (((wr.setCell ⟨w.heap.size,0,none⟩ x).setCell ⟨w.heap.size,1,none⟩ y).setCell ⟨w.heap.size,2,none⟩ z)):=fun x y z => by
    refine ⟨(ho.stable fun j hj => ?_).mono (by omega),((xM.setCell (Nat.le_refl _) _).setCell (Nat.le_refl _) _).setCell (Nat.le_refl _) _⟩
    have:=(ho.range j hj).1
    rw [Below.heap_setCell _ _ _ _ (by show j ≠ w.heap.size;omega),Below.heap_setCell _ _ _ _ (by show j ≠ w.heap.size;omega),Below.heap_setCell _ _ _ _ (by show j ≠ w.heap.size;omega)]
   clear ho xM lT L7;go_wp2;refine bodyPost_ret (v:=.agg #[.slice (some ⟨g,0,none⟩) v c1,.slice A2 0 c2,.slice A3 v c3]) (by simp [results,Tryz.results95,go_sem, *]) rfl ?_;exact ⟨_,_,_,S',rfl,(fA.out _ _ _).1,(fA.out _ _ _).2⟩
theorem L8 (k : Nat) (h1 : 1 ≤ k) (h2 : k ≤ 40) : Gd 100 40 (hZ k):=by
 have h0 : (hZ k).ends.length = k:=by simp [hZ,oG]
 refine ⟨by omega,fun j es he => ?_,by simp [hZ],by rw [h0];simp [hZ],fun j es he e hm => ?_⟩
 ·have hj : j < k:=by rw [← h0];exact aq he
  have e2 : es = jj k j:=by
   have:=tz hj
   rw [show (hZ k).ends = iP k from rfl,this] at he;exact (Option.some.inj he).symm
  rw [e2];simp [jj]
 ·have hj : j < k:=by rw [← h0];exact aq he
  have e2 : es = jj k j:=by
   have:=tz hj
   rw [show (hZ k).ends = iP k from rfl,this] at he;exact (Option.some.inj he).symm
  have a1:=Nat.mod_lt (j + 1) (show 0 < k by omega)
  have a2:=Nat.mod_lt (j + k - 1) (show 0 < k by omega)
  rw [e2] at hm;unfold jj at hm;simp only [List.mem_cons,List.not_mem_nil,or_false] at hm;have row : ∀ q,q < k → (hZ k).ends[q]? = some (jj k q):=fun q hq => tz hq
  rcases hm with rfl | rfl
  ·exact ⟨_,1,_,rfl,row _ a1,by simp [jj]⟩
  ·exact ⟨_,0,_,rfl,row _ a2,by simp [jj]⟩
section
variable {P : Program} {ops : Array Oper}
end
structure Ob (bo : Nat) (wa W : World) (ve vi vn : Value) (N : am) (S : List Nat) : Prop where
 own : aA W wa.heap.size ve vi vn N S
 box : bH W bo ve vi vn
 nb : bo ∉ S
 bb : wa.heap.size ≤ bo
 since : aa wa W
section
variable {bo : Nat} {wa W : World} {ve vi vn : Value} {N : am} {S : List Nat}
end
structure abf (n : am) (t : Nat) (N : am) : Prop where
 ends : N.ends.length = 2 * n.ends.length
 inputs : N.inputs.length = 2 * n.ends.length
 ids : N.ids.length = 0
 row : ∀ (j : Nat) (fs : List (Int × Int)),N.ends[j]? = some fs → fs.length ≤ 100 ∧ (j < t → fs.length = (cG n (j / 2)).length)
def PS (w : World) (v : Value) (L : Nat) : Prop:=∃ A c,v = .slice A L c ∧ L ≤ c ∧ c ≤ maxLen ∧ ∀ k,k < L → ∃ b off x,A = some ⟨b,off,none⟩ ∧ w.cell? ⟨b,off + k,none⟩ = some (.int .u8 x) ∧ 0 ≤ x ∧ x < 256
theorem PS.keep {w w' : World} {v : Value} {L : Nat} (h : PS w v L) (hb : Below w.heap.size w w') : PS w' v L:=by
 obtain ⟨A,c,h1,h2,h3,h4⟩:=h;refine ⟨A,c,h1,h2,h3,fun k hk => ?_⟩
 obtain ⟨b,off,x,e1,e2,e3,e4⟩:=h4 k hk;exact ⟨b,off,x,e1,bc hb e2,e3,e4⟩
theorem Gm {w w2 : World} {A : Option Addr} {L c cb : Nat} {t : TypeId} (hb : ∀ k,k < L → ∃ b off x,A = some ⟨b,off,none⟩ ∧ w.cell? ⟨b,off + k,none⟩ = some (.int .u8 x) ∧ 0 ≤ x ∧ x < 256) (hs : aa w w2) (iw : w.heap.size ≤ cb) (hc : w2.heap[cb]? = some (.cells #[.slice A L c,.int .i64 0,.int .u64 0] t)) (hL : L ≤ 1048576) (Xe : L ≤ c) : dQ w2 cb A L c 0:=by
 refine ⟨0,0,⟨⟨_,hc⟩,fun k hk => ?_,hL,Xe,by omega⟩,Nat.le_refl _⟩
 obtain ⟨b,off,x,e1,e2,e3,e4⟩:=hb k hk
 have:=tn e2
 exact ⟨b,off,x,e1,by simp at this;omega,bc hs e2,e3,e4⟩
end Go.Proofs.YtgmdpppljkmabaaGreat
