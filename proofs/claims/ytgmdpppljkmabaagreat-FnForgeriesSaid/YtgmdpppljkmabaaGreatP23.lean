/- Parts of the proof: walks of functions and plain laws. -/
import Derived.Test.YtgmdpppljkmabaaGreatP0
import Derived.Test.YtgmdpppljkmabaaGreatP22
set_option maxRecDepth 100000
set_option maxHeartbeats 16000000
namespace Go.Proofs.YtgmdpppljkmabaaGreat
open Go Go.RowKit
def CA (cb B : Nat) (A : Option Addr) (L c P : Nat) (w : World) (T : am → Prop) (e : Ending) (w' : World) : Prop:=
 ∃ ve vi vn N S,e = .returned (.agg #[ve,vi,vn]) ∧ aA w' B ve vi vn N S ∧ T N ∧ dQ w' cb A L c P ∧ CB cb B w w'
theorem aA.headIn {w : World} {base k c : Nat} {A : Option Addr} {ve vi : Value} {N : am} {S : List Nat} (h : aA w base ve vi (.slice A k c) N S) (h0 : 0 < N.inputs.length) : ∃ g,A = some ⟨g,0,none⟩:=by
 obtain ⟨S1,S2,S3,_,_,h3,_⟩:=h;rcases h3.1.cases with ⟨-,h2⟩ | ⟨g,c',hv,_⟩
 ·rw [h2] at h0;simp at h0
 ·cases hv;exact ⟨g,rfl⟩
theorem aA.inCell {w : World} {base g k c j : Nat} {ve vi : Value} {N : am} {S : List Nat} (h : aA w base ve vi (.slice (some ⟨g,0,none⟩) k c) N S) (hj : j < N.inputs.length) : ∃ z,w.cell? ⟨g,j,none⟩ = some z:=by
 obtain ⟨S1,S2,S3,_,_,h3,_⟩:=h;obtain ⟨x,hx⟩:=aW N.inputs j hj;exact ⟨_,h3.1.cell hx⟩
theorem tr (cb : Nat) (A : Option Addr) (L c P B R M : Nat) (ve vi vn : Value) (n : am) (S : List Nat) (w : World) (hc : dQ w cb A L c P) (hP : P ≤ 4611686018426000000) (h : aA w B ve vi vn n S) (iw : cb < B) (hBw : B ≤ w.heap.size) (hg : Gd R M n) (hR : R ≤ 100) (hM : M ≤ 100) (SX : 0 < n.ends.length) :
  Calls Tryz.prog 156 #[.pointer (some ⟨cb,0,none⟩),.agg #[ve,vi,vn]] w (CA cb B A L c (P + 100000) w (fun N => Jg n N ∧ Gd R M N)):=by
 obtain ⟨A1,c1,rfl,-,k9,-⟩:=id h.read.1;obtain ⟨AI,cI,rfl,-,-,-⟩:=id h.read.2.1;obtain ⟨AN,cN,rfl,-,-,-⟩:=id h.read.2.2;obtain ⟨pb,fo⟩ : ∃ z,z = w.heap.size:=⟨_,rfl⟩
 obtain ⟨w0,ck⟩ : ∃ z,z = w.alloc (.cells #[.slice A1 n.ends.length c1,.slice AI n.ids.length cI,.slice AN n.inputs.length cN] 27):=⟨_,rfl⟩
 obtain ⟨wa,kH⟩ : ∃ z,z = w0.alloc (.cells #[.slice none 0 0,.slice none 0 0,.slice none 0 0] 27):=⟨_,rfl⟩
 have cX : aa w w0:=by rw [ck];exact ah _ (ad _)
 have dm : aa w0 wa:=by rw [kH];exact ah _ (ad _)
 have qc : w0.heap.size = w.heap.size + 1:=by rw [ck];simp
 have jL : bH w0 pb (.slice A1 n.ends.length c1) (.slice AI n.ids.length cI) (.slice AN n.inputs.length cN):=by rw [ck,fo];exact bH.new _ _ _ _ _
 have kq : bQ wa (w.heap.size + 1) (.slice none 0 0) (.slice none 0 0) (.slice none 0 0):=by
  rw [kH,← qc];show (w0.heap.push _)[w0.heap.size]? = _
  rw [Array.getElem?_push_size]
 have iA : aa w wa:=cX.after dm
 have hmb : Mb cb B pb A L c P w wa (.slice A1 n.ends.length c1) (.slice AI n.ids.length cI) (.slice AN n.inputs.length cN) n S:=
  ⟨h.keep iA.below,jL.below dm (by rw [qc,fo];omega),fun hj => by have:=(h.range _ hj).2;omega,hc.since iA,CB.mono (CB.of iA) hBw⟩
 have eA : Hid (B ≤ pb ∧ pb + 2 = wa.heap.size ∧ pb = w.heap.size):=⟨by omega,by rw [fo,kH];simp;omega,fo⟩
 have HSp : Hid (∀ j ∈ S,j < pb):=fun j hj => by have:=(h.range j hj).2;omega
 have nP:=zh kq;have qe:=zh hmb;have Hg:=zh hg;have dh:=zh ck;have DW:=zh kH;have fO:=hmb.box.cells
 have Ol : n.ends.length ≤ 100:=by have:=hg.ends;omega
 clear hc h cX dm jL kq iA hmb hg ck kH fo qc
 go_enter Tryz.func156,Tryz.ntmps156
 go_upto_region 1 with (fail);rw [← dh.out,← DW.out,← eA.out.2.2];obtain ⟨x0,x1,x2,-,-,-⟩:=fO;clear hBw;go_wp2
 go_loopw [10] (fun i wr => ∃ (k : Nat) (ve vi vn : Value) (N : am) (S : List Nat),k ≤ n.ends.length ∧ i = .int .i64 k ∧ Mb cb B pb A L c (P + 202 * k) w wr ve vi vn N S ∧ Jg n N ∧ Gd R M N ∧ bQ wr (pb + 1) (.slice none 0 0) (.slice none 0 0) (.slice none 0 0) ∧ pb + 1 ∉ S ∧ wa.heap.size ≤ wr.heap.size) (fun i _ => n.ends.length - (intOf i).toNat)
 case atStart => exact ⟨0,_,_,_,n,S,Nat.zero_le _,rfl,by simpa using qe.out,Jg.refl _,Hg.out,by rw [eA.out.2.2];exact nP.out,fun hj => by have:=HSp.out _ hj;omega,Nat.le_refl _⟩
 case round =>
  obtain ⟨k,ve,vi,vn,N,S2,hk,rfl,hm,Tw,iS,kq,hrn,ed⟩:=hrel;clear x0 x1 x2;obtain ⟨Fo,jN,rfl,-,qt,-⟩:=id hm.own.read.1;obtain ⟨oS,oU,rfl,-,-,-⟩:=id hm.own.read.2.1;obtain ⟨wM,pZ,rfl,-,-,-⟩:=id hm.own.read.2.2;have mS:=Tw.len;obtain ⟨g,rfl,-⟩:=hm.own.head (by omega);have Hm:=zh hm;have Ly:=zh Tw;have i_:=zh iS;have Om:=zh kq;have Yw:=zh hrn;have lH:=zh ed;have gx:=zh mS
  have Th : Hid (B ≤ wr.heap.size):=by show _ ≤ _;have:=eA.out;omega
  have Pn:=hm.cur;clear hm Tw iS kq hrn ed mS
  by_cases hlt : k < n.ends.length
  ·have m4 : IntKind.i64.wrap ((k : Int) + 1) = (k : Int) + 1:=aL _ (by omega) (by omega);have On:=zh Pn;clear Pn;go_wp2_with fail;refine (nR cb A L c (P + 202 * k) 2 wr On.out (by omega) (by omega)).mono ?_;rintro e w2 ⟨b,rfl,sO,vJ⟩;have je:=zh (Hm.out.seen vJ sO iw eA.out.1 Th.out)
   have IE : Hid (bQ w2 (pb + 1) (.slice none 0 0) (.slice none 0 0) (.slice none 0 0)):=(vJ.block _ Om.out.lt (by have:=eA.out;omega)).trans Om.out
   have pJ : Hid (wa.heap.size ≤ w2.heap.size):=Nat.le_trans lH.out vJ.size;have Oo:=zh sO;clear sO vJ;cases b
   ·go_wp2;go_roundw
    case rel => exact ⟨k + 1,_,_,_,N,S2,by omega,by first | rfl | go_num,⟨je.out.own,je.out.box,je.out.nb,Oo.out.mono (by omega),je.out.far⟩,Ly.out,i_.out,IE.out,Yw.out,pJ.out⟩
    case measure => simp [intOf];omega
   ·obtain ⟨xv,pV⟩ : ∃ z,z = cG N k:=⟨_,rfl⟩
    have qL:=cD (n:=N) (v:=k) (by have:=gx.out;omega)
    rw [← pV] at qL;have ID:=zh pV
    have C5 : Hid (xv.length ≤ 100):=by show _ ≤ _;have:=i_.out.row _ _ qL;omega
    obtain ⟨u,T,hu,-,hR,-,-,Ax⟩:=je.out.own.rowCell qL;obtain ⟨AU,cU,rfl,-,-,-⟩:=id hR.read
    have Oq : g ≠ cb:=fun e => by have:=(je.out.own.range g Ax).1;omega
    have it : pb ≠ cb:=by have:=eA.out;omega
    have Yx:=zh qL;obtain ⟨b0,b1,b2,-,-,-⟩:=je.out.box.cells;have ot:=zh (And.intro b0 (And.intro b1 (And.intro b2 hu)))
    have HkN : Hid (k < N.ends.length):=by show _ < _;have:=gx.out;omega
    clear pV qL hR Ax b0 b1 b2 hu;go_upto_region 5 with (fail);have hkN:=HkN.out;refine aI (fun W => W.cell? ⟨pb,0,none⟩ = some (.slice (some ⟨g,0,none⟩) N.ends.length jN) ∧ W.cell? ⟨pb,1,none⟩ = some (.slice oS N.ids.length oU) ∧ W.cell? ⟨pb,2,none⟩ = some (.slice wM N.inputs.length pZ) ∧ W.cell? ⟨g,k,none⟩ = some (.slice AU xv.length cU)) 11 [false,false,false,false,false,false,false,false,false,true,true] (by kernel_rfl) (by kernel_rfl) (show (World.drew w2).cell? ⟨pb,0,none⟩ = some (.slice (some ⟨g,0,none⟩) N.ends.length jN) ∧ (World.drew w2).cell? ⟨pb,1,none⟩ = some (.slice oS N.ids.length oU) ∧ (World.drew w2).cell? ⟨pb,2,none⟩ = some (.slice wM N.inputs.length pZ) ∧ (World.drew w2).cell? ⟨g,k,none⟩ = some (.slice AU xv.length cU) from ot.out) ?_
    simp only [d_,dO,zT]
    iterate 9 (apply bY rfl;(intro W hW;(obtain ⟨k0,k1,k2,k3⟩:=hW);go_simp;with_reducible rfl);simp only [zA])
    obtain ⟨W,dr⟩ : ∃ W,W = World.drew w2:=⟨_,rfl⟩
    rw [← dr];have hW:=(show (World.drew w2).cell? ⟨pb,0,none⟩ = some (.slice (some ⟨g,0,none⟩) N.ends.length jN) ∧ (World.drew w2).cell? ⟨pb,1,none⟩ = some (.slice oS N.ids.length oU) ∧ (World.drew w2).cell? ⟨pb,2,none⟩ = some (.slice wM N.inputs.length pZ) ∧ (World.drew w2).cell? ⟨g,k,none⟩ = some (.slice AU xv.length cU) from ot.out);rw [← dr] at hW;have fV:=zh dr;clear dr;refine Or.inl ⟨rfl,?_⟩
    go_simp
    (with_reducible refine (EH cb A L c (P + 202 * k + 2) xv.length W (by rw [fV.out];exact Oo.out.since (ak (ad _))) (by omega) C5.out).mono ?_)
    rintro e W' ⟨gp,xs,rfl,wt,fo,iq,hC⟩;refine ⟨_,rfl,And.intro (aD hW.1 it _ hC) (And.intro (aD hW.2.1 it _ hC) (And.intro (aD hW.2.2.1 it _ hC) (aD hW.2.2.2 Oq _ hC))),?_⟩
    replace hW:=And.intro (aD hW.1 it _ hC) (And.intro (aD hW.2.1 it _ hC) (And.intro (aD hW.2.2.1 it _ hC) (aD hW.2.2.2 Oq _ hC)))
    have oL : aa w2 W:=(by rw [fV.out];exact ak (ad _))
    have vJ : gB cb w2 W':=((gB.refl cb w2).after oL).trans hC;have TB:=zh wt;have Wi:=zh fo;have LG:=zh iq;have vH:=zh vJ;clear wt fo iq hC vJ oL;obtain ⟨wp,rfl⟩ : ∃ z,z = W':=⟨_,rfl⟩
    (try simp only [zA])
    refine Or.inl ⟨rfl,?_⟩
    go_simp
    (with_reducible refine (Cz _ _ _ _ N k xs _ (je.out.own.seen vH.out iw).read HkN.out (i_.out.small hR hM) i_.out.wf TB.out.ints (by rw [← ID.out];exact TB.out.len) (by rw [← ID.out];exact Wi.out)).mono ?_)
    rintro e W' ⟨N2,dE,dK,Wj,Wk,Wl,S3,rfl,dL,b_⟩;refine ⟨_,rfl,And.intro (bc b_ hW.1) (And.intro (bc b_ hW.2.1) (And.intro (bc b_ hW.2.2.1) (bc b_ hW.2.2.2))),?_⟩
    replace hW:=And.intro (bc b_ hW.1) (And.intro (bc b_ hW.2.1) (And.intro (bc b_ hW.2.2.1) (bc b_ hW.2.2.2)))
    skip
    (try simp only [zA])
    simp only [bA];obtain ⟨D0,d0,rfl,-,-,-⟩:=id dL.read.1;obtain ⟨D1,d1,rfl,-,-,-⟩:=id dL.read.2.1;obtain ⟨D2,d2,rfl,-,-,-⟩:=id dL.read.2.2;have sl : gB cb w2 W':=vH.out.after b_;have za : pb < wp.heap.size:=Nat.lt_of_lt_of_le je.out.box.lt vH.out.size
    have CC:=je.out.assign sl (LG.out.since b_) dL za iw eA.out.1 (by have h1:=pJ.out;have h2:=eA.out;omega)
    have rq : bH W' pb (.slice (some ⟨g,0,none⟩) N.ends.length jN) (.slice oS N.ids.length oU) (.slice wM N.inputs.length pZ):=je.out.box.blk (sl.block pb je.out.box.lt it)
    have Wm : bQ (set3 W' pb (.slice D0 N2.ends.length d0) (.slice D1 N2.ids.length d1) (.slice D2 N2.inputs.length d2)) (pb + 1) (.slice none 0 0) (.slice none 0 0) (.slice none 0 0):=(ey W' pb _ _ _ (by omega)).trans ((sl.block _ IE.out.lt (by have:=eA.out;omega)).trans IE.out)
    have Wn : pb + 1 ∉ S3:=fun hj => by have h1:=(dL.range _ hj).1;have h2:=vH.out.size;have h3:=pJ.out;have h4:=eA.out;omega
    have nV : wa.heap.size ≤ (set3 W' pb (.slice D0 N2.ends.length d0) (.slice D1 N2.ids.length d1) (.slice D2 N2.inputs.length d2)).heap.size:=by rw [eH];exact Nat.le_trans pJ.out sl.size
    obtain ⟨-,-,-,f0,f1,f2⟩:=rq.cells;obtain ⟨k0,k1,k2,k3⟩:=hW;have p7:=zh CC;have aaJ:=zh Wm;have aaK:=zh Wn;have v_:=zh nV;have cw:=zh (Ly.out.trans dE.shp);have xo:=zh (i_.out.sh dE.shp dK);clear CC rq Wm Wn nV sl dL b_ dE dK hkN za;go_wp2;go_roundw
    case rel => exact ⟨k + 1,_,_,_,N2,S3,by omega,by first | rfl | go_num,⟨p7.out.own,p7.out.box,p7.out.nb,p7.out.cur.mono (by omega),p7.out.far⟩,cw.out,xo.out,aaJ.out,aaK.out,v_.out⟩
    case measure => simp [intOf];omega
  ·obtain rfl : k = n.ends.length:=by omega
   have On:=zh Pn;clear Pn;obtain ⟨wo,rfl⟩ : ∃ z,z = wr:=⟨_,rfl⟩
   go_wp2_with fail;refine (nR cb A L c (P + 202 * n.ends.length) 3 wo On.out (by omega) (by omega)).mono ?_;rintro e w2 ⟨b,rfl,sO,vJ⟩;have je:=zh (Hm.out.seen vJ sO iw eA.out.1 Th.out)
   have IE : Hid (bQ w2 (pb + 1) (.slice none 0 0) (.slice none 0 0) (.slice none 0 0)):=(vJ.block _ Om.out.lt (by have:=eA.out;omega)).trans Om.out
   have pJ : Hid (wa.heap.size ≤ w2.heap.size):=Nat.le_trans lH.out vJ.size;clear sO vJ;cases b
   ·have IF:=je;have Hrz:=IE;have LH:=Ly;have Q6:=i_;obtain ⟨NZ,TC⟩ : ∃ z,z = N:=⟨_,rfl⟩
    rw [← TC] at LH Q6
    have Wo : Hid (Mb cb B pb A L c (P + 202 * n.ends.length + 2) w w2 (.slice (some ⟨g,0,none⟩) N.ends.length jN) (.slice oS N.ids.length oU) (.slice wM N.inputs.length pZ) NZ S2):=by rw [TC];exact IF
    clear IF TC;have IF:=Wo;clear Wo;have rq:=IF.out.box.cells;obtain ⟨k0,k1,k2,-,-,-⟩:=rq;have hrr:=Hrz.out.box.cells;obtain ⟨e0,e1,e2,f0,f1,f2⟩:=hrr;go_wp2;refine bodyPost_ret (v:=.agg #[.slice (some ⟨g,0,none⟩) N.ends.length jN,.slice oS N.ids.length oU,.slice wM N.inputs.length pZ]) (by simp [results,Tryz.results156,go_sem, *]) rfl ?_;refine ⟨_,_,_,NZ,S2,rfl,IF.out.own.stable (fun q hq => ?_),⟨LH.out,Q6.out⟩,IF.out.cur.mono (by omega) |>.keep (fun q hq => ?_),?_⟩
    ·have o_ : q ≠ pb + 1:=fun e => Yw.out (e ▸ hq)
     rw [Below.heap_setCell _ _ _ q (by exact o_),Below.heap_setCell _ _ _ q (by exact o_),Below.heap_setCell _ _ _ q (by exact o_)]
    ·have o_ : q ≠ pb + 1:=by have:=eA.out;omega
     rw [Below.heap_setCell _ _ _ q (by exact o_),Below.heap_setCell _ _ _ q (by exact o_),Below.heap_setCell _ _ _ q (by exact o_)]
    ·have j6 : B ≤ pb + 1:=by have:=eA.out;omega
     exact ((IF.out.far.setCell (p:=⟨pb + 1,0,none⟩) (.inl j6) _).setCell (p:=⟨pb + 1,1,none⟩) (.inl j6) _).setCell (p:=⟨pb + 1,2,none⟩) (.inl j6) _
   ·have it : pb ≠ cb:=by have:=eA.out;omega
    have rq:=je.out.box.cells;have k2:=rq.2.2.1
    have DV : Hid (N.inputs.length ≤ 100):=by show _ ≤ _;have:=i_.out.inputs;have:=i_.out.ends;omega
    clear rq;go_upto_region 9 with (fail);clear k2;obtain ⟨Q,hQ⟩ : ∃ z,z = P + 202 * n.ends.length + 2:=⟨_,rfl⟩
    have HQ1:=zh hQ;rw [← hQ] at je;clear hQ
    go_loopw [32] (fun i wr => ∃ (j : Nat) (ys : List Int),j ≤ N.inputs.length ∧ i = .int .i64 j ∧ ys.length = N.inputs.length ∧ Mb cb B pb A L c (Q + 2 * j) w wr (.slice (some ⟨g,0,none⟩) N.ends.length jN) (.slice oS N.ids.length oU) (.slice wM N.inputs.length pZ) { N with inputs:=ys } S2 ∧ bQ wr (pb + 1) (.slice none 0 0) (.slice none 0 0) (.slice none 0 0) ∧ wa.heap.size ≤ wr.heap.size) (fun i _ => N.inputs.length - (intOf i).toNat)
    case atStart => exact ⟨0,N.inputs,Nat.zero_le _,rfl,rfl,je.out,IE.out,pJ.out⟩
    case round =>
     obtain ⟨j,ys,hj,rfl,IT,hm,kq,ed⟩:=hrel;have Rq:=zh hm;have R8:=zh kq;have Wp:=zh ed;have Dq:=zh IT;clear hm kq ed IT
     have HBj : Hid (B ≤ wr.heap.size):=by show _ ≤ _;have h1:=Wp.out;have h2:=eA.out;omega
     by_cases wG : j < N.inputs.length
     ·obtain ⟨gi,rfl⟩:=Rq.out.own.headIn (by show 0 < ys.length;have:=Dq.out;omega)
      have k2:=Rq.out.box.cells.2.2.1;have HK2:=zh k2
      have m5 : IntKind.i64.wrap ((j : Int) + 1) = (j : Int) + 1:=aL _ (by omega) (by have:=DV.out;omega)
      clear k2;go_upto_region 11 with (fail);refine aI (fun W => W.cell? ⟨pb,2,none⟩ = some (.slice (some ⟨gi,0,none⟩) N.inputs.length pZ)) 5 [false,false,false,false,true] (by kernel_rfl) (by kernel_rfl) (show (World.drew wr).cell? ⟨pb,2,none⟩ = some (.slice (some ⟨gi,0,none⟩) N.inputs.length pZ) from HK2.out) ?_
      simp only [d_,dO,zT]
      iterate 4 (apply bY rfl;(intro W hW;(have k2:=hW);go_simp;with_reducible rfl);simp only [zA])
      obtain ⟨W,dr⟩ : ∃ W,W = World.drew wr:=⟨_,rfl⟩
      rw [← dr];have hW:=(show (World.drew wr).cell? ⟨pb,2,none⟩ = some (.slice (some ⟨gi,0,none⟩) N.inputs.length pZ) from HK2.out);rw [← dr] at hW;have fV:=zh dr;clear dr;refine Or.inl ⟨rfl,?_⟩
      go_simp
      (with_reducible refine (ew cb A L c (Q + 2 * j) 3 W (by rw [fV.out];exact Rq.out.cur.since (ak (ad _))) (by have:=HQ1.out;have:=DV.out;omega) (by omega)).mono ?_)
      rintro e W' ⟨x,rfl,hx,iq,hC⟩;refine ⟨_,rfl,aD hW it _ hC,?_⟩
      replace hW:=aD hW it _ hC
      have oL : aa wr W:=(by rw [fV.out];exact ak (ad _))
      have kP : gB cb wr W':=((gB.refl cb wr).after oL).trans hC;have Py:=zh (Rq.out.seen kP iq iw eA.out.1 HBj.out)
      have Hrw : Hid (bQ W' (pb + 1) (.slice none 0 0) (.slice none 0 0) (.slice none 0 0)):=(kP.block _ R8.out.lt (by have:=eA.out;omega)).trans R8.out
      have Ad : Hid (wa.heap.size ≤ W'.heap.size):=Nat.le_trans Wp.out kP.size;clear hC iq kP oL
      (try simp only [zA])
      simp only [bA]
      obtain ⟨q1,q2,q3⟩:=Py.out.own.setIn (k:=j) (x : Int) (by show j < ys.length;have:=Dq.out;omega)
      obtain ⟨z0,q4⟩:=Py.out.own.inCell (j:=j) (by show j < ys.length;have:=Dq.out;omega)
      have hgp : gi ≠ pb:=fun e => Py.out.nb (e ▸ q1)
      have zQ : gi ≠ pb + 1:=fun e => Yw.out (e ▸ q1)
      have I5:=(Py.out.own.range gi q1).1
      have XT : Mb cb B pb A L c (Q + 2 * (j + 1)) w (W'.setCell ⟨gi,j,none⟩ (.int .i64 (x : Int))) (.slice (some ⟨g,0,none⟩) N.ends.length jN) (.slice oS N.ids.length oU) (.slice (some ⟨gi,0,none⟩) N.inputs.length pZ) { N with inputs:=ys.set j (x : Int) } S2:=
       ⟨q3,Py.out.box.set hgp,Py.out.nb,(Py.out.cur.mono (by omega)).keep (fun q hq => Below.heap_setCell _ _ _ _ (by show q ≠ gi;omega)),Py.out.far.setCell (p:=⟨gi,j,none⟩) (.inl I5) _⟩
      have Hmf:=zh XT;have Hrf : Hid (bQ (W'.setCell ⟨gi,j,none⟩ (.int .i64 (x : Int))) (pb + 1) (.slice none 0 0) (.slice none 0 0) (.slice none 0 0)):=Hrw.out.other (Ne.symm zQ)
      have Hsf : Hid (wa.heap.size ≤ (W'.setCell ⟨gi,j,none⟩ (.int .i64 (x : Int))).heap.size):=by show _ ≤ _;rw [jv];exact Ad.out
      clear q1 q3 hgp zQ I5 XT hx;go_wp2;go_roundw
      case rel => exact ⟨j + 1,_,by omega,by first | rfl | go_num,by rw [List.length_set];exact Dq.out,Hmf.out,Hrf.out,Hsf.out⟩
      case measure => simp [intOf];omega
     ·obtain rfl : j = N.inputs.length:=by omega
      have IF:=Rq;have Hrz:=R8;have Yy:=HQ1.out;have R9 : Jg N { N with inputs:=ys }:=⟨rfl,Dq.out,rfl,fun k es he => ⟨es,he,rfl⟩⟩
      have LH:=zh (Ly.out.trans R9)
      have Q6:=zh (i_.out.sh R9 (fun k es he e hm => by
       obtain ⟨a,b,fs,h1,h2,h3⟩:=i_.out.wf k es he e hm
       exact ⟨a,b,fs,h1,h2,h3⟩))
      obtain ⟨NZ,TC⟩ : ∃ z,z = ({ N with inputs:=ys } : am):=⟨_,rfl⟩
      rw [← TC] at LH Q6 IF;have abt:=zh DV.out;clear TC R9 Rq wG hj
      have HQ3 : Hid (Q + 2 * N.inputs.length ≤ P + 100000):=by show _ ≤ _;have:=DV.out;omega
      clear Yy;have rq:=IF.out.box.cells;obtain ⟨k0,k1,k2,-,-,-⟩:=rq;have hrr:=Hrz.out.box.cells;obtain ⟨e0,e1,e2,f0,f1,f2⟩:=hrr;go_wp2;refine bodyPost_ret (v:=.agg #[.slice (some ⟨g,0,none⟩) N.ends.length jN,.slice oS N.ids.length oU,.slice wM N.inputs.length pZ]) (by simp [results,Tryz.results156,go_sem, *]) rfl ?_;refine ⟨_,_,_,NZ,S2,rfl,IF.out.own.stable (fun q hq => ?_),⟨LH.out,Q6.out⟩,IF.out.cur.mono HQ3.out |>.keep (fun q hq => ?_),?_⟩
      ·have o_ : q ≠ pb + 1:=fun e => Yw.out (e ▸ hq)
       rw [Below.heap_setCell _ _ _ q (by exact o_),Below.heap_setCell _ _ _ q (by exact o_),Below.heap_setCell _ _ _ q (by exact o_)]
      ·have o_ : q ≠ pb + 1:=by have:=eA.out;omega
       rw [Below.heap_setCell _ _ _ q (by exact o_),Below.heap_setCell _ _ _ q (by exact o_),Below.heap_setCell _ _ _ q (by exact o_)]
      ·have j6 : B ≤ pb + 1:=by have:=eA.out;omega
       exact ((IF.out.far.setCell (p:=⟨pb + 1,0,none⟩) (.inl j6) _).setCell (p:=⟨pb + 1,1,none⟩) (.inl j6) _).setCell (p:=⟨pb + 1,2,none⟩) (.inl j6) _
theorem jw {n : am} {v : Nat} (hv : v < n.ends.length) (e : Int × Int) (k : Nat) : cG (pU n v e) k = if k = v then cG n v ++ [e] else cG n k:=by
 unfold cG pU
 simp only [zDd]
 by_cases h : k = v
 ·subst h;rw [if_pos rfl,List.getElem?_set_self hv];rfl
 ·rw [if_neg h,List.getElem?_set_ne (Ne.symm h)]
theorem nW {n : am} {k : Nat} {es : List (Int × Int)} (h : n.ends[k]? = some es) : cG n k = es:=by
 unfold cG;rw [zDd,h];rfl
theorem EU.add {n : am} {v : Nat} (hv : v < n.ends.length) (e : Int × Int) {x : Int × Int} (h : EU n x) : EU (pU n v e) x:=by
 obtain ⟨a,b,fs,h1,h2,h3⟩:=h
 have ha : a < (pU n v e).ends.length:=by rw [gW];exact aq h2
 refine ⟨a,b,_,h1,cD ha,?_⟩;rw [jw hv,nW h2]
 split
 ·rename_i h;subst h;rw [nW h2,List.length_append];omega
 ·exact h3
theorem nU.add {m n : am} {v : Nat} (h : nU m n) (hv : v < n.ends.length) {e : Int × Int} (he : EU m e) : nU m (pU n v e):=fun k es hk x hx => by
 have h1:=nW hk;rw [jw hv] at h1
 have lq : k < n.ends.length:=by have:=aq hk;rwa [gW] at this
 split at h1
 ·rw [← h1] at hx;rcases List.mem_append.1 hx with h2 | h2
  ·exact h v _ (cD hv) x h2
  ·rw [List.mem_singleton.1 h2];exact he
 ·rw [← h1] at hx;exact h k _ (cD lq) x hx
theorem ts {n : am} {v u : Nat} (h : MF n) (hv : v < n.ends.length) (hu : u < n.ends.length) : MF (dq n v u):=by
 have Wq : u < (pU n v ((u : Int),if v = u then ((cG n u).length : Int) + 1 else ((cG n u).length : Int))).ends.length:=by rw [gW];exact hu
 have hl : (dq n v u).ends.length = n.ends.length:=by unfold dq;rw [gW,gW]
 have dG : ∀ k,cG (dq n v u) k = if k = u then (if u = v then cG n v ++ [((u : Int),if v = u then ((cG n u).length : Int) + 1 else ((cG n u).length : Int))] else cG n u) ++ [((v : Int),((cG n v).length : Int))] else if k = v then cG n v ++ [((u : Int),if v = u then ((cG n u).length : Int) + 1 else ((cG n u).length : Int))] else cG n k:=fun k => by
  unfold dq;rw [jw Wq,jw hv,jw hv]
 have h0 : nU (dq n v u) n:=fun k es hk x hx => ((h k es hk x hx).add hv _).add Wq _
 have e1 : EU (dq n v u) ((v : Int),((cG n v).length : Int)):=by
  refine ⟨v,(cG n v).length,_,rfl,cD (by omega),?_⟩;rw [dG]
  by_cases e : v = u
  ·subst e;simp
  ·rw [if_neg e,if_pos rfl];simp
 have e2 : EU (dq n v u) ((u : Int),if v = u then ((cG n u).length : Int) + 1 else ((cG n u).length : Int)):=by
  by_cases e : v = u
  ·subst e;refine ⟨v,(cG n v).length + 1,_,by simp,cD (by omega),?_⟩
   rw [dG];simp
  ·refine ⟨u,(cG n u).length,_,by rw [if_neg e],cD (by omega),?_⟩
   rw [dG,if_pos rfl,if_neg (Ne.symm e)];simp
 exact (h0.add hv e2).add Wq e1
theorem kT {n : am} {v u : Nat} (hv : v < n.ends.length) (hu : u < n.ends.length) (k : Nat) : (cG (dq n v u) k).length = (cG n k).length + (if k = u then 1 else 0) + (if k = v then 1 else 0):=by
 have Wq : u < (pU n v ((u : Int),if v = u then ((cG n u).length : Int) + 1 else ((cG n u).length : Int))).ends.length:=by rw [gW];exact hu
 unfold dq;rw [jw Wq,jw hv,jw hv]
 by_cases a : k = u
 ·subst a
  by_cases b : k = v
  ·subst b;simp
  ·simp [b]
 ·by_cases b : k = v
  ·subst b;simp [a]
  ·simp [a,b]
theorem d8 (n : am) (v u : Nat) : (dq n v u).ends.length = n.ends.length:=by unfold dq;rw [gW,gW]
theorem Gd.join {R M : Nat} {n : am} {v u : Nat} (h : Gd R M n) (hv : v < n.ends.length) (hu : u < n.ends.length) : Gd (R + 2) M (dq n v u):=by
 refine ⟨by rw [d8];exact h.ends,fun k es hk => ?_,h.ids,by rw [d8];exact h.inputs,ts h.wf hv hu⟩
 have h1:=nW hk
 have lq : k < n.ends.length:=by have:=aq hk;rwa [d8] at this
 rw [← h1,kT hv hu]
 have:=h.row k _ (cD lq)
 split <;> split <;> omega
theorem Gd.mono {R R' M M' : Nat} {n : am} (h : Gd R M n) (hR : R ≤ R') (hM : M ≤ M') : Gd R' M' n:=⟨by have:=h.ends;omega,fun k es hk => by have:=h.row k es hk;omega,by have:=h.ids;omega,h.inputs,h.wf⟩
theorem Gd.empty {M m : Nat} (hm : m ≤ M) : Gd 0 M (dl m):=⟨by simp [dl];omega,fun k es hk => by
 have:=List.mem_of_getElem? hk
 simp [dl] at this
 rw [this.2];simp,by simp [dl],by simp [dl],fun k es hk e he => by
 have:=List.mem_of_getElem? hk
 simp [dl] at this
 rw [this.2] at he
 simp at he⟩
theorem Ot {n : am} {v : Nat} (h : MF n) (hv : v < n.ends.length) : MF (kR n v):=by
 have h0 : nU (kR n v) n:=fun k es hk x hx => (h k es hk x hx).add hv _
 have hl : (kR n v).ends.length = n.ends.length:=gW _ _ _;refine h0.add hv ⟨v,(cG n v).length,_,rfl,cD (by omega),?_⟩;unfold kR;rw [jw hv,if_pos rfl];simp
theorem LI {n : am} {v : Nat} (hv : v < n.ends.length) (k : Nat) : (cG (kR n v) k).length = (cG n k).length + (if k = v then 1 else 0):=by
 unfold kR;rw [jw hv]
 by_cases b : k = v
 ·subst b;simp
 ·simp [b]
theorem ra (n : am) (v : Nat) : (kR n v).ends.length = n.ends.length:=gW _ _ _
theorem CB.blkN {cb B b : Nat} {w w' : World} {x y z : Value} (h : CB cb B w w') (hx : bQ w b x y z) (hb : b < B) (hn : b ≠ cb) : bQ w' b x y z:=(h.block b hb hn).trans hx
theorem gC {cb P : Nat} {A : Option Addr} {L c : Nat} {w w0 W : World} {ve vi vn : Value} {N : am} {S : List Nat} (h0 : aa w w0) (ho : aA W (w.heap.size + 1) ve vi vn N S) (hc : dQ W cb A L c P) (hf : CB cb (w.heap.size + 1) w0 W) (iw : cb < w.heap.size) :
  aA (set3 W w.heap.size ve vi vn) w.heap.size ve vi vn N S ∧ dQ (set3 W w.heap.size ve vi vn) cb A L c P ∧ CB cb w.heap.size w (set3 W w.heap.size ve vi vn):=by
 refine ⟨(ho.stable (fun k hk => ey _ _ _ _ _ (by have:=(ho.range k hk).1;omega))).mono (by omega),hc.keep (fun k hk => ey _ _ _ _ _ (by omega)),?_⟩
 have h1 : CB cb w.heap.size w W:=(CB.of h0.below).trans (hf.mono (by omega));exact ((h1.setCell (p:=⟨w.heap.size,0,none⟩) (.inl (Nat.le_refl _)) _).setCell (p:=⟨w.heap.size,1,none⟩) (.inl (Nat.le_refl _)) _).setCell (p:=⟨w.heap.size,2,none⟩) (.inl (Nat.le_refl _)) _
def TN (R M : Nat) (N : am) : Prop:=Gd R M N ∧ 0 < N.ends.length
theorem LJ (cb : Nat) (A : Option Addr) (L c P most M : Nat) (w : World) (hc : dQ w cb A L c P) (hP : P ≤ 4611686018425000000) (tg : 1 ≤ most) (xt : most ≤ M) (hM : M ≤ 40) :
  Calls Tryz.prog 190 #[.pointer (some ⟨cb,0,none⟩),.int .i64 most] w (CA cb w.heap.size A L c (P + 200000) w (TN 100 M)):=by
 have iw:=hc.lt;obtain ⟨B,wb⟩ : ∃ z,z = w.heap.size + 1:=⟨_,rfl⟩
 obtain ⟨w0,ck⟩ : ∃ z,z = w.alloc (.cells #[.slice none 0 0,.slice none 0 0,.slice none 0 0] 27):=⟨_,rfl⟩
 have cX : aa w w0:=by rw [ck];exact ah _ (ad _)
 have kg : w0.heap.size = B:=by rw [ck,wb];simp
 have kq : bQ w0 w.heap.size (.slice none 0 0) (.slice none 0 0) (.slice none 0 0):=by
  rw [ck];show (w.heap.push _)[w.heap.size]? = _
  rw [Array.getElem?_push_size]
 have nP:=zh kq;have pK:=zh cX;have dh:=zh ck;have iy:=zh wb;have vS:=zh kg;have LK:=zh (hc.since cX);clear kq cX ck hc wb kg
 go_enter Tryz.func190,Tryz.ntmps190
 go_upto_region 1 with (fail);rw [← dh.out];go_wp2_with fail;refine (ew cb A L c P most w0 LK.out (by omega) (by omega)).mono ?_;rintro e w1 ⟨x,rfl,hx,nX,lJ⟩;obtain ⟨m,hm⟩ : ∃ m : Nat,m = x + 1:=⟨_,rfl⟩
 have m1 : IntKind.i64.wrap (1 + (x : Int)) = (m : Int):=by rw [aL _ (by omega) (by omega)];omega
 have TD : m ≤ M:=by omega
 have kW : 0 < m:=by omega
 have xx:=zh nX;have IG:=zh lJ;clear nX lJ hx;have Hm:=zh hm;clear hm;go_wp2_with fail;refine (lj m (by omega) w1).mono ?_;rintro e w2 ⟨Wr,Ws,Wt,S0,rfl,ho,b_⟩;obtain ⟨N0,zM⟩ : ∃ z,z = dl m:=⟨_,rfl⟩
 rw [← zM] at ho
 have mS : N0.ends.length = m:=by rw [zM];simp [dl]
 have EX : Gd 0 M N0:=by rw [zM];exact Gd.empty TD
 obtain ⟨A1,c1,rfl,-,k9,-⟩:=id ho.read.1;obtain ⟨AI,cI,rfl,-,-,-⟩:=id ho.read.2.1;obtain ⟨AN,cN,rfl,-,-,-⟩:=id ho.read.2.2;obtain ⟨w3,gY⟩ : ∃ z,z = w2.alloc (.cells #[.slice A1 N0.ends.length c1,.slice AI N0.ids.length cI,.slice AN N0.inputs.length cN] 27):=⟨_,rfl⟩
 obtain ⟨pb,fo⟩ : ∃ z,z = w2.heap.size:=⟨_,rfl⟩
 have mO : aa w2 w3:=by rw [gY];exact ah _ (ad _)
 have j6 : B ≤ w1.heap.size:=by rw [← vS.out];exact IG.out.size
 have hmb : Mb cb B pb A L c (P + 2) w0 w3 (.slice A1 N0.ends.length c1) (.slice AI N0.ids.length cI) (.slice AN N0.inputs.length cN) N0 S0:=
  ⟨(ho.keep mO.below).mono j6,by rw [gY,fo];exact bH.new _ _ _ _ _,fun hj => by have:=(ho.range _ hj).2;omega,(xx.out.since b_).since mO,(IG.out.mono (by have:=vS.out;omega)).trans ((CB.of (Below.trans b_ (mO.below.mono b_.size))).mono j6)⟩
 have qe:=zh hmb
 have eA : Hid (B ≤ pb ∧ pb < w3.heap.size):=⟨by rw [fo];exact Nat.le_trans j6 b_.size,by rw [gY,fo];simp⟩
 have sG:=zh gY;have nY:=zh fo;have EY:=zh EX;have gx:=zh mS;have fO:=hmb.box.cells.1
 have lF : cb < B:=by have:=iy.out;omega
 clear hmb gY fo EX mS ho b_ mO zM j6;go_upto_region 2 with (fail);rw [← sG.out,← nY.out];rw [gx.out] at fO;have aaL:=gx.out;go_wp2;clear fO aaL
 go_loopw [15] (fun i wr => ∃ (k : Nat) (ve vi vn : Value) (N : am) (S : List Nat),k ≤ m ∧ i = .int .i64 k ∧ Mb cb B pb A L c (P + 2) w0 wr ve vi vn N S ∧ Gd (2 * k) M N ∧ N.ends.length = m ∧ B ≤ wr.heap.size) (fun i _ => m - (intOf i).toNat)
 case atStart => exact ⟨0,_,_,_,N0,S0,Nat.zero_le _,rfl,qe.out,EY.out,gx.out,by have:=eA.out;omega⟩
 case round =>
  obtain ⟨k,ve,vi,vn,N,S2,hk,rfl,hm,iS,mS,ed⟩:=hrel;obtain ⟨Fo,jN,rfl,-,qt,-⟩:=id hm.own.read.1;obtain ⟨oS,oU,rfl,-,-,-⟩:=id hm.own.read.2.1;obtain ⟨wM,pZ,rfl,-,-,-⟩:=id hm.own.read.2.2;have Hm:=zh hm;have i_:=zh iS;have gx:=zh mS;have lH:=zh ed;clear hm iS mS ed
  by_cases hlt : k < m
  ·have m4 : IntKind.i64.wrap ((k : Int) + 1) = (k : Int) + 1:=aL _ (by omega) (by omega);obtain ⟨q,hq⟩ : ∃ q : Nat,q = (k + 1) % m:=⟨_,rfl⟩
   have hqm : q < m:=by rw [hq];exact Nat.mod_lt _ kW
   have m5 : ((k : Int) + 1).tmod (m : Int) = (q : Int):=by rw [hq,Int.tmod_eq_emod_of_nonneg (by omega)];simp
   have m6 : ((k : Int) + 1) % (m : Int) = (q : Int):=by rw [hq];simp
   have m7 : IntKind.i64.wrap (q : Int) = (q : Int):=aL _ (by omega) (by omega)
   have m8 : ((m : Int) = 0) = False:=by simp;omega
   have m9 : (m = 0) = False:=by simp;omega
   have it : pb ≠ cb:=by have:=eA.out;omega
   have ot:=zh (show wr.cell? ⟨pb,0,none⟩ = some (.slice Fo m jN) ∧ wr.cell? ⟨pb,1,none⟩ = some (.slice oS N.ids.length oU) ∧ wr.cell? ⟨pb,2,none⟩ = some (.slice wM N.inputs.length pZ) from by obtain ⟨a,b,d,-⟩:=Hm.out.box.cells;rw [gx.out] at a;exact ⟨a,b,d⟩)
   clear hq;go_upto_region 5 with (fail);refine aI (fun W => W.cell? ⟨pb,0,none⟩ = some (.slice Fo m jN) ∧ W.cell? ⟨pb,1,none⟩ = some (.slice oS N.ids.length oU) ∧ W.cell? ⟨pb,2,none⟩ = some (.slice wM N.inputs.length pZ)) 9 [false,false,false,false,false,false,false,false,true] (by kernel_rfl) (by kernel_rfl) (show (World.drew wr).cell? ⟨pb,0,none⟩ = some (.slice Fo m jN) ∧ (World.drew wr).cell? ⟨pb,1,none⟩ = some (.slice oS N.ids.length oU) ∧ (World.drew wr).cell? ⟨pb,2,none⟩ = some (.slice wM N.inputs.length pZ) from ot.out) ?_
   simp only [d_,dO,zT]
   iterate 8 (apply bY rfl;(intro W hW;(obtain ⟨k0,k1,k2⟩:=hW);go_simp;with_reducible rfl);simp only [zA])
   obtain ⟨W,dr⟩ : ∃ W,W = World.drew wr:=⟨_,rfl⟩
   rw [← dr];have hW:=(show (World.drew wr).cell? ⟨pb,0,none⟩ = some (.slice Fo m jN) ∧ (World.drew wr).cell? ⟨pb,1,none⟩ = some (.slice oS N.ids.length oU) ∧ (World.drew wr).cell? ⟨pb,2,none⟩ = some (.slice wM N.inputs.length pZ) from ot.out);rw [← dr] at hW;have fV:=zh dr;clear dr;refine Or.inl ⟨rfl,?_⟩
   go_simp
   (with_reducible refine (mI _ _ _ N k q W (by rw [fV.out];have h9:=(Hm.out.own.keep (ak (ad _)).below).read;rw [gx.out] at h9;exact h9) (by rw [gx.out];exact hlt) (by rw [gx.out];exact hqm) ((i_.out.mono (R':=80) (M':=40) (by omega) hM).small (by omega) (by omega))).mono ?_)
   rintro e W' ⟨Wj,Wk,Wl,S3,rfl,dL,b_⟩;refine ⟨_,rfl,And.intro (bc b_ hW.1) (And.intro (bc b_ hW.2.1) (bc b_ hW.2.2)),?_⟩
   replace hW:=And.intro (bc b_ hW.1) (And.intro (bc b_ hW.2.1) (bc b_ hW.2.2))
   have oL : aa wr W:=(by rw [fV.out];exact ak (ad _))
   have Pz:=oL.after b_;have Hlw : Hid (pb < W.heap.size):=Nat.lt_of_lt_of_le Hm.out.box.lt oL.below.size;clear oL
   (try simp only [zA])
   simp only [bA];obtain ⟨D0,d0,rfl,-,-,-⟩:=id dL.read.1;obtain ⟨D1,d1,rfl,-,-,-⟩:=id dL.read.2.1;obtain ⟨D2,d2,rfl,-,-,-⟩:=id dL.read.2.2;have CC:=Hm.out.assign (CB.of Pz) (Hm.out.cur.since Pz) dL Hlw.out lF eA.out.1 lH.out;obtain ⟨-,-,-,f0,f1,f2⟩:=(Hm.out.box.below Pz Hm.out.box.lt).cells;obtain ⟨k0,k1,k2⟩:=hW;have p7:=zh CC
   have nV : B ≤ (set3 W' pb (.slice D0 (dq N k q).ends.length d0) (.slice D1 (dq N k q).ids.length d1) (.slice D2 (dq N k q).inputs.length d2)).heap.size:=by rw [eH];exact Nat.le_trans lH.out Pz.below.size
   have v_:=zh nV
   have xo:=zh (i_.out.join (v:=k) (u:=q) (by rw [gx.out];exact hlt) (by rw [gx.out];exact hqm))
   have Cb:=zh ((d8 N k q).trans gx.out);clear CC dL b_ Pz nV;go_wp2;go_roundw
   case rel => exact ⟨k + 1,_,_,_,dq N k q,S3,by omega,by first | rfl | go_num,p7.out,xo.out.mono (by omega) (Nat.le_refl _),Cb.out,v_.out⟩
   case measure => simp [intOf];omega
  ·obtain rfl : k = m:=by omega
   obtain ⟨wo,rfl⟩ : ∃ z,z = wr:=⟨_,rfl⟩
   have iq:=Hm.out.cur;have On:=zh iq;clear iq;go_wp2_with fail;refine (nR cb A L c (P + 2) 2 wo On.out (by omega) (by omega)).mono ?_;rintro e w5 ⟨b,rfl,sO,vJ⟩;have je:=zh (Hm.out.seen vJ sO lF eA.out.1 lH.out);have pJ : Hid (B ≤ w5.heap.size):=Nat.le_trans lH.out vJ.size;have IH : Hid (Gd 80 M N):=i_.out.mono (by omega) (Nat.le_refl _);clear sO vJ;obtain ⟨k0,k1,k2,-,-,-⟩:=je.out.box.cells
   have iQ:=je.out.far.blkN nP.out (by have:=iy.out;omega) (by omega)
   obtain ⟨-,-,-,f0,f1,f2⟩:=iQ.box.cells;obtain ⟨e0,e1,e2,-,-,-⟩:=iQ.box.cells;clear iQ;cases b
   ·clear f0 f1 f2 e0 e1 e2;go_wp2_with fail
    refine (tr cb A L c (P + 2 + 2) B 80 M _ _ _ N S2 w5 je.out.cur (by omega) je.out.own lF pJ.out IH.out (by omega) (by omega) (by have:=gx.out;omega)).mono ?_
    rintro e w6 ⟨PA,PB,PC,N6,S6,rfl,gX,⟨wd,sq⟩,gn,lK⟩;obtain ⟨D0,d0,rfl,-,-,-⟩:=id gX.read.1;obtain ⟨D1,d1,rfl,-,-,-⟩:=id gX.read.2.1;obtain ⟨D2,d2,rfl,-,-,-⟩:=id gX.read.2.2;have co:=(je.out.far.mono (Nat.le_refl B)).trans lK
    have iQ:=co.blkN nP.out (by have:=iy.out;omega) (by omega)
    obtain ⟨e0,e1,e2,f0,f1,f2⟩:=iQ.box.cells;have aY:=gX;rw [iy.out] at aY co;have ez:=zh (gC pK.out aY gn co iw);have EZ:=zh wd;have Af:=zh sq;clear co iQ aY wd sq gn lK gX k0 k1 k2;go_wp2;refine bodyPost_ret (v:=.agg #[.slice D0 N6.ends.length d0,.slice D1 N6.ids.length d1,.slice D2 N6.inputs.length d2]) (by simp [results,Tryz.results190,go_sem, *]) rfl ?_;obtain ⟨r1,r2,r3⟩:=ez.out
    exact ⟨_,_,_,N6,S6,rfl,r1,⟨Af.out.mono (by omega) (Nat.le_refl _),by have:=gx.out;have:=EZ.out.len;omega⟩,r2.mono (by omega),r3⟩
   ·go_wp2;refine bodyPost_ret (v:=.agg #[.slice Fo N.ends.length jN,.slice oS N.ids.length oU,.slice wM N.inputs.length pZ]) (by simp [results,Tryz.results190,go_sem, *]) rfl ?_;have aY:=je.out.own;rw [iy.out] at aY;have co:=je.out.far;rw [iy.out] at co;obtain ⟨r1,r2,r3⟩:=gC pK.out aY je.out.cur co iw
    exact ⟨_,_,_,N,S2,rfl,r1,⟨IH.out.mono (by omega) (Nat.le_refl _),by have:=gx.out;omega⟩,r2.mono (by omega),r3⟩
theorem LL (f : Nat → Nat) (x : Nat) : Ab f 0 x = x:=rfl
theorem CD (Q : Nat → Prop) : ∀ t,Q t → ∃ m,Q m ∧ m ≤ t ∧ ∀ k,k < m → ¬ Q k
 | t,h => by
  rcases Classical.em (∃ k,k < t ∧ Q k) with ⟨k,hk,hq⟩ | hn
  ·obtain ⟨m,h1,h2,h3⟩:=CD Q k hq;exact ⟨m,h1,by omega,h3⟩
  ·exact ⟨t,h,Nat.le_refl _,fun k hk hq => hn ⟨k,hk,hq⟩⟩
termination_by t => t
open Classical in
noncomputable def LM (Q : Nat → Prop) : Nat:=if h : ∃ m,Q m ∧ ∀ k,k < m → ¬ Q k then Classical.choose h else 0
theorem rc {Q : Nat → Prop} {t : Nat} (h : Q t) : Q (LM Q) ∧ LM Q ≤ t:=by
 obtain ⟨m,h1,h2,h3⟩:=CD Q t h;have he : ∃ m,Q m ∧ ∀ k,k < m → ¬ Q k:=⟨m,h1,h3⟩;unfold LM;rw [dif_pos he];obtain ⟨h4,h5⟩:=Classical.choose_spec he;refine ⟨h4,?_⟩;rcases Nat.lt_or_ge t (Classical.choose he) with hl | hl
 ·exact absurd h (h5 t hl)
 ·exact hl
def re (v t0 s t : Nat) : Prop:=byteOf (Ab (fun s => nx s 0) t (nx s 0)) % v = t0
open Classical in
noncomputable def sr (L v t0 p s : Nat) : Nat:=if p < L then (L - p) + 281474976710656 + 1 else LM (re v t0 s)
theorem LN {v t0 s : Nat} (h : re v t0 s 0) : byteOf (nx s 0) % v = t0:=by
 unfold re at h;rw [LL] at h;exact h
theorem fuel_lt {L v t0 p s : Nat} (h : p < L) : sr L v t0 p s = (L - p) + 281474976710656 + 1:=if_pos h
theorem tt {L v t0 p s : Nat} (h : L ≤ p) : sr L v t0 p s = LM (re v t0 s):=if_neg (by omega)
theorem E8 {v t0 : Nat} (s : Nat) (hv : v ≤ 200) (ht : t0 < v) : ∃ t,t < 281474976710656 ∧ re v t0 s t:=by
 obtain ⟨t,h1,h2⟩:=K9 (nx s 0) t0 (Ge _ _) (by omega)
 exact ⟨t,h1,by unfold re;rw [h2,Nat.mod_eq_of_lt ht]⟩
theorem Ou {L v t0 : Nat} (p s : Nat) (hL : L ≤ 1048576) (hv : v ≤ 200) (ht : t0 < v) : sr L v t0 p s ≤ 281474977759233:=by
 rcases Nat.lt_or_ge p L with hp | hp
 ·rw [fuel_lt hp];omega
 ·rw [tt hp];obtain ⟨t,h1,h2⟩:=E8 s hv ht;have h3:=(rc h2).2
  generalize LM (re v t0 s) = m at *
  omega
theorem yI {L v t0 p s s' x : Nat} (hL : L ≤ 1048576) (hv : v ≤ 200) (ht : t0 < v) (hx : x ≠ t0) (h : L ≤ p → s' = nx s 0 ∧ x = byteOf s' % v) : sr L v t0 (p + 1) s' < sr L v t0 p s:=by
 have n9 : LM (re v t0 s') < 281474976710656:=by
  obtain ⟨t,h1,h2⟩:=E8 s' hv ht;have h3:=(rc h2).2
  generalize LM (re v t0 s') = m at *
  omega
 rcases Nat.lt_or_ge p L with hp | hp
 ·rw [fuel_lt hp];rcases Nat.lt_or_ge (p + 1) L with h2 | h2
  ·rw [fuel_lt h2];omega
  ·rw [tt h2]
   generalize LM (re v t0 s') = m at *
   omega
 ·rw [tt hp,tt (by omega)];obtain ⟨hs,pV⟩:=h hp;rw [hs] at pV n9 ⊢;clear hs;obtain ⟨t,h1,h2⟩:=E8 s hv ht;obtain ⟨h3,h4⟩:=rc h2
  generalize LM (re v t0 s) = m at *
  cases m with
  | zero =>
   exfalso
   exact hx (pV.trans (LN h3))
  | succ m =>
   have h5 : re v t0 (nx s 0) m:=by
    unfold re at h3 ⊢
    rw [vG] at h3;exact h3
   have h6:=(rc h5).2
   generalize LM (re v t0 (nx s 0)) = q at *
   omega
def pj (N : am) : Nat → Nat
 | 0 => 0
 | k + 1 => pj N k + (cG N k).length
theorem LO {N : am} : ∀ v,pj N v < 4 * v → ∃ t,t < v ∧ (cG N t).length < 4
 | 0,h => by simp at h
 | v + 1,h => by
  by_cases h1 : (cG N v).length < 4
  ·exact ⟨v,by omega,h1⟩
  ·obtain ⟨t,h2,h3⟩:=LO (N:=N) v (by simp only [pj] at h;omega)
   exact ⟨t,by omega,h3⟩
theorem CE {N : am} {u v : Nat} (hu : u < N.ends.length) (hv : v < N.ends.length) : ∀ k,k ≤ v → pj (dq N u v) k = pj N k + (if u < k then 1 else 0)
 | 0,_ => by simp [pj]
 | k + 1,hk => by
  simp only [pj];rw [CE hu hv k (by omega),kT hu hv];have h1 : k ≠ v:=by omega
  rw [if_neg h1]
  by_cases h2 : k = u
  ·subst h2;simp;omega
  ·rw [if_neg h2]
   by_cases h3 : u < k
   ·rw [if_pos h3,if_pos (by omega)];omega
   ·rw [if_neg h3,if_neg (by omega)];omega
structure xy (M v : Nat) (N : am) : Prop where
 gd : Gd 4 M N
 tot : pj N v + 2 = 2 * v
 zero : ∀ k,v ≤ k → (cG N k).length = 0
theorem xy.low {M v : Nat} {N : am} (h : xy M v N) (hv : 1 ≤ v) : ∃ t,t < v ∧ (cG N t).length < 4:=LO v (by have:=h.tot;omega)
theorem xy.step {M v u : Nat} {N : am} (h : xy M v N) (hu : u < v) (hv : v < N.ends.length) (hr : (cG N u).length < 4) : xy M (v + 1) (dq N u v):=by
 have hul : u < N.ends.length:=by omega
 refine ⟨⟨by rw [d8];exact h.gd.ends,fun k es hk => ?_,h.gd.ids,by rw [d8];exact h.gd.inputs,ts h.gd.wf hul hv⟩,?_,fun k hk => ?_⟩
 ·have h1:=nW hk
  have lq : k < N.ends.length:=by have:=aq hk;rwa [d8] at this
  rw [← h1,kT hul hv];have h2:=h.gd.row k _ (cD lq)
  by_cases a : k = v
  ·subst a
   have:=h.zero k (Nat.le_refl _)
   rw [if_pos rfl,if_neg (by omega)];omega
  ·rw [if_neg a]
   by_cases b : k = u
   ·subst b;rw [if_pos rfl];omega
   ·rw [if_neg b];omega
 ·simp only [pj];rw [CE hul hv v (Nat.le_refl _),if_pos hu,kT hul hv,if_pos rfl,if_neg (by omega),h.zero v (Nat.le_refl _)]
  have:=h.tot
  omega
 ·rw [kT hul hv,if_neg (by omega),if_neg (by omega),h.zero k (by omega)]
theorem xy.empty {M m : Nat} (hm : m ≤ M) : xy M 1 (dl m):=by
 have hz : ∀ k,(cG (dl m) k).length = 0:=fun k => by
  unfold cG dl
  simp only [zDd,List.getElem?_replicate]
  split <;> simp
 exact ⟨(Gd.empty hm).mono (by omega) (Nat.le_refl _),by simp [pj,hz],fun k _ => hz k⟩
def pOf (cb : Nat) (W : World) : Nat:=(intOf ((W.cell? ⟨cb,1,none⟩).getD undef)).toNat
def Yz (cb : Nat) (W : World) : Nat:=(intOf ((W.cell? ⟨cb,2,none⟩).getD undef)).toNat
theorem Ac.pOf {W : World} {cb : Nat} {A : Option Addr} {L c p s : Nat} (h : Ac W cb A L c p s) : pOf cb W = p ∧ Yz cb W = s:=by
 obtain ⟨-,h1,h2⟩:=h.cellsOf
 unfold Go.Proofs.YtgmdpppljkmabaaGreat.pOf Yz
 rw [h1,h2];simp [intOf]
open Classical in
noncomputable def LP (L v t0 cb : Nat) (x : Value) (W : World) : Nat:=if intOf x = (t0 : Int) then 0 else 1 + sr L v t0 (pOf cb W) (Yz cb W)
theorem LQ {L v t0 cb : Nat} {x : Value} {W : World} (h : intOf x = (t0 : Int)) : LP L v t0 cb x W = 0:=if_pos h
theorem CF {L v t0 cb : Nat} {x : Value} {W : World} (h : ¬ intOf x = (t0 : Int)) : LP L v t0 cb x W = 1 + sr L v t0 (pOf cb W) (Yz cb W):=if_neg h
theorem E9 (cb : Nat) (A : Option Addr) (L c P most M : Nat) (w : World) (hc : dQ w cb A L c P) (hP : P ≤ 4400000000000000000) (tg : 1 ≤ most) (xt : most ≤ M) (hM : M ≤ 40) :
  Calls Tryz.prog 93 #[.pointer (some ⟨cb,0,none⟩),.int .i64 most] w (CA cb w.heap.size A L c (P + 72057594037927936) w (TN 100 M)):=by
 have iw:=hc.lt;obtain ⟨B,wb⟩ : ∃ z,z = w.heap.size + 1:=⟨_,rfl⟩
 obtain ⟨w0,ck⟩ : ∃ z,z = w.alloc (.cells #[.slice none 0 0,.slice none 0 0,.slice none 0 0] 27):=⟨_,rfl⟩
 have cX : aa w w0:=by rw [ck];exact ah _ (ad _)
 have kg : w0.heap.size = B:=by rw [ck,wb];simp
 have kq : bQ w0 w.heap.size (.slice none 0 0) (.slice none 0 0) (.slice none 0 0):=by
  rw [ck];show (w.heap.push _)[w.heap.size]? = _
  rw [Array.getElem?_push_size]
 have nP:=zh kq;have pK:=zh cX;have dh:=zh ck;have iy:=zh wb;have vS:=zh kg;have LK:=zh (hc.since cX);clear kq cX ck hc wb kg
 go_enter Tryz.func93,Tryz.ntmps93
 go_upto_region 1 with (fail);rw [← dh.out];go_wp2_with fail;refine (ew cb A L c P most w0 LK.out (by omega) (by omega)).mono ?_;rintro e w1 ⟨x,rfl,hx,nX,lJ⟩;obtain ⟨m,hm⟩ : ∃ m : Nat,m = x + 1:=⟨_,rfl⟩
 have m1 : IntKind.i64.wrap (1 + (x : Int)) = (m : Int):=by rw [aL _ (by omega) (by omega)];omega
 have TD : m ≤ M:=by omega
 have kW : 0 < m:=by omega
 have xx:=zh nX;have IG:=zh lJ;clear nX lJ hx;clear hm;go_wp2_with fail;refine (lj m (by omega) w1).mono ?_;rintro e w2 ⟨Wr,Ws,Wt,S0,rfl,ho,b_⟩;obtain ⟨N0,zM⟩ : ∃ z,z = dl m:=⟨_,rfl⟩
 rw [← zM] at ho
 have mS : N0.ends.length = m:=by rw [zM];simp [dl]
 have EX : xy M 1 N0:=by rw [zM];exact xy.empty TD
 obtain ⟨A1,c1,rfl,-,k9,-⟩:=id ho.read.1;obtain ⟨AI,cI,rfl,-,-,-⟩:=id ho.read.2.1;obtain ⟨AN,cN,rfl,-,-,-⟩:=id ho.read.2.2;obtain ⟨w3,gY⟩ : ∃ z,z = w2.alloc (.cells #[.slice A1 N0.ends.length c1,.slice AI N0.ids.length cI,.slice AN N0.inputs.length cN] 27):=⟨_,rfl⟩
 obtain ⟨pb,fo⟩ : ∃ z,z = w2.heap.size:=⟨_,rfl⟩
 have mO : aa w2 w3:=by rw [gY];exact ah _ (ad _)
 have j6 : B ≤ w1.heap.size:=by rw [← vS.out];exact IG.out.size
 have hmb : Mb cb B pb A L c (P + 2) w0 w3 (.slice A1 N0.ends.length c1) (.slice AI N0.ids.length cI) (.slice AN N0.inputs.length cN) N0 S0:=
  ⟨(ho.keep mO.below).mono j6,by rw [gY,fo];exact bH.new _ _ _ _ _,fun hj => by have:=(ho.range _ hj).2;omega,(xx.out.since b_).since mO,(IG.out.mono (by have:=vS.out;omega)).trans ((CB.of (Below.trans b_ (mO.below.mono b_.size))).mono j6)⟩
 have qe:=zh hmb
 have eA : Hid (B ≤ pb ∧ pb < w3.heap.size):=⟨by rw [fo];exact Nat.le_trans j6 b_.size,by rw [gY,fo];simp⟩
 have sG:=zh gY;have nY:=zh fo;have EY:=zh EX;have gx:=zh mS;have fO:=hmb.box.cells.1
 have lF : cb < B:=by have:=iy.out;omega
 clear hmb gY fo EX mS ho b_ mO zM j6;go_upto_region 3 with (fail);rw [← sG.out,← nY.out];clear fO
 go_loopw [6] (fun i wr => ∃ (v : Nat) (ve vi vn : Value) (N : am) (S : List Nat),1 ≤ v ∧ v ≤ m ∧ i = .int .i64 v ∧ Mb cb B pb A L c (P + 2 + v * 1125899906842624) w0 wr ve vi vn N S ∧ xy M v N ∧ N.ends.length = m ∧ B ≤ wr.heap.size) (fun i _ => m - (intOf i).toNat)
 case atStart => exact ⟨1,_,_,_,N0,S0,Nat.le_refl _,kW,rfl,⟨qe.out.own,qe.out.box,qe.out.nb,qe.out.cur.mono (by omega),qe.out.far⟩,EY.out,gx.out,by have:=eA.out;omega⟩
 case round =>
  obtain ⟨v,ve,vi,vn,N,S2,SF,hk,rfl,hm,iS,mS,ed⟩:=hrel;obtain ⟨Fo,jN,rfl,-,qt,-⟩:=id hm.own.read.1;obtain ⟨oS,oU,rfl,-,-,-⟩:=id hm.own.read.2.1;obtain ⟨wM,pZ,rfl,-,-,-⟩:=id hm.own.read.2.2;obtain ⟨g,rfl,-⟩:=hm.own.head (by omega);have Hm:=zh hm;have i_:=zh iS;have gx:=zh mS;have lH:=zh ed
  have it : pb ≠ cb:=by have:=eA.out;omega
  have xW : wr.cell? ⟨pb,0,none⟩ = some (.slice (some ⟨g,0,none⟩) m jN):=by have:=Hm.out.box.cells.1;rwa [gx.out] at this
  clear hm iS mS ed;obtain ⟨wo,rfl⟩ : ∃ z,z = wr:=⟨_,rfl⟩
  by_cases hlt : v < m
  ·have m4 : IntKind.i64.wrap ((v : Int) + 1) = (v : Int) + 1:=aL _ (by omega) (by omega);obtain ⟨t0,ht0,htr⟩:=i_.out.low SF;have Htr:=zh htr;clear htr;obtain ⟨Q,hQ⟩ : ∃ z,z = P + 2 + v * 1125899906842624:=⟨_,rfl⟩
   have HQ : Hid (Q = P + 2 + v * 1125899906842624):=hQ
   have Yy : Hid (Q ≤ 4500000000000000000):=by show _ ≤ _;omega
   rw [← hQ] at Hm;clear hQ;obtain ⟨p0,s0,IV,Yu⟩:=Hm.out.cur;have Hc9:=zh IV;have Hp0:=zh Yu;have hLs:=IV.len;clear IV Yu;go_wp2_with fail
   refine (vI cb A L c p0 s0 v wo Hc9.out (by have:=Yy.out;have:=Hp0.out;omega) (by omega)).mono ?_
   rintro e w5 ⟨u0,p1,s1,rfl,Jf,yE,qr,eS,-,lJ⟩;have tW:=aD xW it w5 lJ
   have fP:=zh (Hm.out.seen (P':=Q + 2) lJ ⟨p1,s1,eS,by have:=Hp0.out;omega⟩ lF eA.out.1 lH.out)
   have xz : Hid (B ≤ w5.heap.size):=Nat.le_trans lH.out lJ.size;have Pp:=zh eS
   have Hp1 : Hid (p1 ≤ Q + 2):=by show _ ≤ _;have:=Hp0.out;omega
   clear lJ eS xW yE qr;go_upto_region 6 with (fail);clear tW
   go_loopw [7] (fun x wr => ∃ (u p s : Nat),x = .int .i64 u ∧ u < v ∧ Ac wr cb A L c p s ∧ p ≤ Q + 281474977759236 ∧ (u ≠ t0 → p + sr L v t0 p s ≤ Q + 281474977759235) ∧ Mb cb B pb A L c (Q + 281474977759236) w0 wr (.slice (some ⟨g,0,none⟩) N.ends.length jN) (.slice oS N.ids.length oU) (.slice wM N.inputs.length pZ) N S2 ∧ B ≤ wr.heap.size) (fun x wr => LP L v t0 cb x wr)
   case atStart =>
    refine ⟨u0,p1,s1,rfl,by omega,Pp.out,by have:=Hp1.out;omega,fun _ => ?_,⟨fP.out.own,fP.out.box,fP.out.nb,fP.out.cur.mono (by omega),fP.out.far⟩,xz.out⟩
    have h1:=Ou (L:=L) (v:=v) (t0:=t0) p1 s1 hLs (by omega) ht0;have h2:=Hp1.out;omega
   case round =>
    obtain ⟨u,p,s,rfl,huv,hcq,xj,hfu,YA,Jb⟩:=hrel;have C3:=zh xj;clear xj;have Hcq:=zh hcq;have Hfu:=zh hfu;have PD:=zh YA;have vo:=zh Jb;clear hcq hfu Jb;obtain ⟨xu,pV⟩ : ∃ z,z = cG N u:=⟨_,rfl⟩
    have Pw:=cD (n:=N) (v:=u) (by have:=gx.out;omega)
    rw [← pV] at Pw;obtain ⟨uu,T,iq,-,hR,-,-,Ax⟩:=YA.own.rowCell Pw;obtain ⟨AU,cU,rfl,-,-,-⟩:=id hR.read
    have tW : wr.cell? ⟨pb,0,none⟩ = some (.slice (some ⟨g,0,none⟩) m jN):=by have:=YA.box.cells.1;rwa [gx.out] at this
    have ID:=zh pV;have hum : u < m:=by omega
    clear YA hR pV Pw Ax
    by_cases h4 : 4 ≤ xu.length
    ·have hut : u ≠ t0:=fun e => by have h5:=Htr.out;rw [← e,← ID.out] at h5;omega
     have Vr : 2 ≤ v:=by omega
     have e4 : ((4 : Int) ≤ (xu.length : Int)) = True:=by simp;omega
     go_wp2_with fail
     refine (vI cb A L c p s v wr Hcq.out (by have:=Yy.out;have:=C3.out;omega) (by omega)).mono ?_
     rintro e w6 ⟨x,p',s',rfl,hx,abu,abv,OM,hl6,lK⟩;obtain ⟨rfl,hl7⟩:=hl6 Vr (by omega);have Hl7:=zh hl7;have Hc6:=zh OM;have PE:=zh lK;clear hl6 hl7 OM lK tW iq;go_wp2;go_roundw
     case rel =>
      have h3:=Hfu.out hut;have h4 : p + 1 ≤ Q + 281474977759236:=by omega
      refine ⟨x,p + 1,s',rfl,by omega,Hc6.out,h4,fun hxt => ?_,PD.out.seen PE.out ⟨p + 1,s',Hc6.out,h4⟩ lF eA.out.1 vo.out,Nat.le_trans vo.out PE.out.size⟩
      have h2:=yI (L:=L) (v:=v) (t0:=t0) (p:=p) (s:=s) (s':=s') (x:=x) hLs (by omega) ht0 hxt Hl7.out;omega
     case measure =>
      obtain ⟨q1,q2⟩:=Hcq.out.pOf;obtain ⟨q3,q4⟩:=Hc6.out.pOf;rw [CF (x:=.int .i64 (u : Int)) (show ¬ ((u : Int) = (t0 : Int)) by omega),q1,q2]
      by_cases hxt : x = t0
      ·rw [LQ (x:=.int .i64 (x : Int)) (show (x : Int) = (t0 : Int) by omega)];omega
      ·rw [CF (x:=.int .i64 (x : Int)) (show ¬ ((x : Int) = (t0 : Int)) by omega),q3,q4]
       have h2:=yI (L:=L) (v:=v) (t0:=t0) (p:=p) (s:=s) (s':=s') (x:=x) hLs (by omega) ht0 hxt Hl7.out;omega
    ·have e4 : ((4 : Int) ≤ (xu.length : Int)) = False:=by simp;omega
     have aaM : Hid ((cG N u).length < 4):=by show _ < _;rw [← ID.out];omega
     go_upto_region 8 with (fail);clear tW iq;obtain ⟨k0,k1,k2,f0,f1,f2⟩:=PD.out.box.cells;obtain ⟨wq,rfl⟩ : ∃ z,z = wr:=⟨_,rfl⟩
     clear f0 f1 f2;go_wp2_with fail
     refine (mI _ _ _ N u v wq PD.out.own.read (by rw [gx.out];exact hum) (by rw [gx.out];exact hlt) ((i_.out.gd.mono (R':=80) (M':=40) (by omega) hM).small (by omega) (by omega))).mono ?_
     rintro e w8 ⟨Wj,Wk,Wl,S3,rfl,dL,b_⟩;have oP : aa wq w8:=b_;obtain ⟨D0,d0,rfl,-,-,-⟩:=id dL.read.1;obtain ⟨D1,d1,rfl,-,-,-⟩:=id dL.read.2.1;obtain ⟨D2,d2,rfl,-,-,-⟩:=id dL.read.2.2;have CC:=PD.out.assign (CB.of oP) (PD.out.cur.since oP) dL PD.out.box.lt lF eA.out.1 vo.out;obtain ⟨k0,k1,k2,f0,f1,f2⟩:=(PD.out.box.below oP PD.out.box.lt).cells;have p7:=zh CC
     have nV : B ≤ (set3 w8 pb (.slice D0 (dq N u v).ends.length d0) (.slice D1 (dq N u v).ids.length d1) (.slice D2 (dq N u v).inputs.length d2)).heap.size:=by rw [eH];exact Nat.le_trans vo.out oP.below.size
     have v_:=zh nV
     have xo:=zh (i_.out.step huv (by rw [gx.out];exact hlt) aaM.out)
     have Cb:=zh ((d8 N u v).trans gx.out);clear CC dL b_ oP nV;go_wp2;go_roundw
     case rel => exact ⟨v + 1,_,_,_,dq N u v,S3,by omega,by omega,by first | rfl | go_num,⟨p7.out.own,p7.out.box,p7.out.nb,p7.out.cur.mono (by have:=HQ.out;omega),p7.out.far⟩,xo.out,Cb.out,v_.out⟩
     case measure => simp [intOf];omega
  ·obtain rfl : v = m:=by omega
   clear xW;obtain ⟨k0,k1,k2,-,-,-⟩:=Hm.out.box.cells;have hNN : (N.ends.length : Int) = (v : Int):=by rw [gx.out]
   have IH : Hid (Gd 80 M N):=i_.out.gd.mono (by omega) (Nat.le_refl _);have je:=Hm;have pJ:=lH;obtain ⟨w5,rfl⟩ : ∃ z,z = wo:=⟨_,rfl⟩
   go_upto_region 9 with (fail);clear hNN;go_wp2_with fail
   refine (tr cb A L c _ B 80 M _ _ _ N S2 w5 je.out.cur (by omega) je.out.own lF pJ.out IH.out (by omega) (by omega) (by have:=gx.out;omega)).mono ?_
   rintro e w6 ⟨PA,PB,PC,N6,S6,rfl,gX,⟨wd,sq⟩,gn,lK⟩;obtain ⟨D0,d0,rfl,-,-,-⟩:=id gX.read.1;obtain ⟨D1,d1,rfl,-,-,-⟩:=id gX.read.2.1;obtain ⟨D2,d2,rfl,-,-,-⟩:=id gX.read.2.2;have co:=(je.out.far.mono (Nat.le_refl B)).trans lK
   have iQ:=co.blkN nP.out (by have:=iy.out;omega) (by omega)
   obtain ⟨e0,e1,e2,f0,f1,f2⟩:=iQ.box.cells;have aY:=gX;rw [iy.out] at aY co;have ez:=zh (gC pK.out aY gn co iw);have EZ:=zh wd;have Af:=zh sq;clear co iQ aY wd sq gn lK gX k0 k1 k2;go_wp2;refine bodyPost_ret (v:=.agg #[.slice D0 N6.ends.length d0,.slice D1 N6.ids.length d1,.slice D2 N6.inputs.length d2]) (by simp [results,Tryz.results93,go_sem, *]) rfl ?_;obtain ⟨r1,r2,r3⟩:=ez.out
   exact ⟨_,_,_,N6,S6,rfl,r1,⟨Af.out.mono (by omega) (Nat.le_refl _),by have:=gx.out;have:=EZ.out.len;omega⟩,r2.mono (by omega),r3⟩
end Go.Proofs.YtgmdpppljkmabaaGreat
