/- Parts of the proof: walks of functions and plain laws. -/
import Derived.Test.YtgmdpppljkmabaaGreatP0
import Derived.Test.YtgmdpppljkmabaaGreatP24
set_option maxRecDepth 100000
set_option maxHeartbeats 16000000
namespace Go.Proofs.YtgmdpppljkmabaaGreat
open Go Go.RowKit
theorem Mb.putIds {cb B pb : Nat} {A : Option Addr} {L c P : Nat} {w W W1 : World} {ve vi vn v' : Value} {N : am} {S T : List Nat} {ids' : List Int} (h : Mb cb B pb A L c P w W ve vi vn N S) (ho : nj W1 B v' ids' T) (fm : aU vi.ownBlock.toList W W1) (hT : ∀ j ∈ T,j ∈ vi.ownBlock.toList ∨ W.heap.size ≤ j) (hb : cb < B) (hp : B ≤ pb) (hB : B ≤ W.heap.size) :
  bH W1 pb ve vi vn ∧ ∃ S',Mb cb B pb A L c P w (W1.setCell ⟨pb,1,none⟩ v') ve v' vn { N with ids:=ids' } S' ∧ ∀ j ∈ S',j ∈ S ∨ W.heap.size ≤ j:=by
 obtain ⟨S1,S2,S3,-,h2,-,h4,-⟩:=id h.own
 have hS : ∀ j ∈ vi.ownBlock.toList,j ∈ S:=fun j hj => by rw [h4,h2.2];exact List.mem_append_right _ (List.mem_append_left _ hj)
 have qy:=h.box.lt;have hnI : pb ∉ vi.ownBlock.toList:=fun hm => h.nb (hS _ hm)
 have fO : bH W1 pb ve vi vn:=h.box.blk (fm.block pb qy hnI);obtain ⟨S',LU,CH⟩:=h.own.turnIds ho fm hT
 have hn : pb ∉ S':=fun hj => by
  rcases CH _ hj with h1 | h1
  ·exact h.nb h1
  ·omega
 have me : Below B W W1:=fm.below B hB (fun k hk => (h.own.range k (hS k hk)).1)
 refine ⟨fO,S',⟨LU.stable (fun k hk => Below.heap_setCell _ _ _ _ (fun e => hn (by have e' : k = pb:=e;exact e' ▸ hk))),fO.put1,hn,(h.cur.keep (fun k hk => me.block k (by omega))).keep (fun k hk => Below.heap_setCell _ _ _ _ (by show k ≠ pb;omega)),(h.far.trans (CB.of me)).setCell (p:=⟨pb,1,none⟩) (.inl hp) _⟩,CH⟩
theorem Mb.ownIds {cb B pb : Nat} {A : Option Addr} {L c P : Nat} {w W : World} {ve vi vn : Value} {N : am} {S : List Nat} (h : Mb cb B pb A L c P w W ve vi vn N S) : nj W B vi N.ids vi.ownBlock.toList ∧ ∀ j ∈ vi.ownBlock.toList,j ∈ S:=by
 obtain ⟨S1,S2,S3,-,h2,-,h4,-⟩:=id h.own
 exact ⟨⟨h2.1,rfl⟩,fun j hj => by rw [h4,h2.2];exact List.mem_append_right _ (List.mem_append_left _ hj)⟩
theorem Mb.ownIn {cb B pb : Nat} {A : Option Addr} {L c P : Nat} {w W : World} {ve vi vn : Value} {N : am} {S : List Nat} (h : Mb cb B pb A L c P w W ve vi vn N S) : nj W B vn N.inputs vn.ownBlock.toList ∧ ∀ j ∈ vn.ownBlock.toList,j ∈ S:=by
 obtain ⟨S1,S2,S3,-,-,h2,h4,-⟩:=id h.own
 exact ⟨⟨h2.1,rfl⟩,fun j hj => by rw [h4,h2.2];exact List.mem_append_right _ (List.mem_append_right _ hj)⟩
theorem rf (w : World) (x : Int) : bD (w.alloc (.cells #[.int .i64 x] 3)) (.slice (some ⟨w.heap.size,0,none⟩) 1 1) [x]:=by
 refine ⟨_,1,rfl,Nat.le_refl _,by unfold maxLen;omega,fun k y h => ?_⟩
 have hk:=aq h
 have zS : k = 0:=by simp at hk;omega
 subst zS;have hy : x = y:=by simpa using h
 subst hy;exact ⟨_,_,rfl,by simp⟩
theorem Mb.idMore {cb B pb og : Nat} {A : Option Addr} {L c P : Nat} {w W W1 : World} {ve vi vn v' uo : Value} {N : am} {S T : List Nat} {y : Int} {xs : List Int} {Bo : Nat} (h : Mb cb B pb A L c P w W ve vi vn N S) (ho : nj W1 B v' (N.ids ++ [y]) T) (fm : aU vi.ownBlock.toList W W1) (hT : ∀ j ∈ T,j ∈ vi.ownBlock.toList ∨ W.heap.size ≤ j) (hb : cb < B) (hp : B ≤ pb) (hB : B ≤ W.heap.size)
  (wj : Own W Bo uo xs) (WJ : uo.ownBlock = some og) (Sf : og ∉ S ∧ og ≠ pb) (hr : bQ W (pb + 1) (.slice none 0 0) (.slice none 0 0) (.slice none 0 0)) (hn : pb + 1 ∉ S) :
  bH W1 pb ve vi vn ∧ ∃ S',Mb cb B pb A L c P w (W1.setCell ⟨pb,1,none⟩ v') ve v' vn { N with ids:=N.ids ++ [y] } S' ∧ Own (W1.setCell ⟨pb,1,none⟩ v') Bo uo xs ∧ bQ (W1.setCell ⟨pb,1,none⟩ v') (pb + 1) (.slice none 0 0) (.slice none 0 0) (.slice none 0 0) ∧ W.heap.size ≤ (W1.setCell ⟨pb,1,none⟩ v').heap.size ∧ pb + 1 ∉ S' ∧ og ∉ S':=by
 obtain ⟨bg,S',gF,CH⟩:=h.putIds ho fm hT hb hp hB;have Oz:=h.ownIds.2;have Sg:=(World.ownsRow.lt wj og WJ).2
 refine ⟨bg,S',gF,aO wj (fun j hj => ?_),?_,by rw [jv];exact fm.size,fun hj => ?_,fun hj => ?_⟩
 ·have CN : j = og:=by rw [WJ] at hj;simpa [eq_comm] using hj
  subst CN;rw [Below.heap_setCell _ _ _ _ (by exact Sf.2)];exact fm.block _ Sg (fun hm => Sf.1 (Oz _ hm))
 ·show (W1.setCell _ _).heap[pb + 1]? = _
  rw [Below.heap_setCell _ _ _ _ (by show pb + 1 ≠ pb;omega),fm.block _ hr.lt (fun hm => hn (Oz _ hm))]
  exact hr
 ·rcases CH _ hj with h1 | h1
  ·exact hn h1
  ·have:=hr.lt;omega
 ·rcases CH _ hj with h1 | h1
  ·exact Sf.1 h1
  ·omega
theorem Mb.ret {cb B pb rb : Nat} {A : Option Addr} {L c P : Nat} {w W : World} {ve vi vn : Value} {N : am} {S : List Nat} (h : Mb cb B pb A L c P w W ve vi vn N S) (hr : rb ∉ S) (hB : B ≤ rb) (iw : cb < B) :
  aA (set3 W rb ve vi vn) B ve vi vn N S ∧ dQ (set3 W rb ve vi vn) cb A L c P ∧ CB cb B w (set3 W rb ve vi vn):=by
 refine ⟨h.own.stable (fun k hk => ey _ _ _ _ _ (fun e => hr (e ▸ hk))),h.cur.keep (fun k hk => ey _ _ _ _ _ (by omega)),?_⟩
 exact ((h.far.setCell (p:=⟨rb,0,none⟩) (.inl hB) _).setCell (p:=⟨rb,1,none⟩) (.inl hB) _).setCell (p:=⟨rb,2,none⟩) (.inl hB) _
theorem yJ (cb : Nat) (A : Option Addr) (L c P R M : Nat) (ve vi vn : Value) (n : am) (w : World) (hc : dQ w cb A L c P) (hP : P ≤ 4500000000000000000) (h : aT w ve vi vn n) (hg : Gd R M n) (hR : R ≤ 100) (hM : M ≤ 100) :
  Calls Tryz.prog 157 #[.pointer (some ⟨cb,0,none⟩),.agg #[ve,vi,vn]] w (CA cb w.heap.size A L c (P + 1000) w (fun N => N.ends = n.ends ∧ N.inputs = n.inputs ∧ N.ids.length = n.ends.length)):=by
 have iw:=hc.lt;obtain ⟨A1,c1,rfl,-,k9,-⟩:=id h.1;obtain ⟨AI,cI,rfl,-,-,-⟩:=id h.2.1;obtain ⟨AN,cN,rfl,-,-,-⟩:=id h.2.2;obtain ⟨pb,fo⟩ : ∃ z,z = w.heap.size:=⟨_,rfl⟩
 obtain ⟨w0,ck⟩ : ∃ z,z = w.alloc (.cells #[.slice A1 n.ends.length c1,.slice AI n.ids.length cI,.slice AN n.inputs.length cN] 27):=⟨_,rfl⟩
 obtain ⟨wa,kH⟩ : ∃ z,z = w0.alloc (.cells #[.slice none 0 0,.slice none 0 0,.slice none 0 0] 27):=⟨_,rfl⟩
 have cX : aa w w0:=by rw [ck];exact ah _ (ad _)
 have dm : aa w0 wa:=by rw [kH];exact ah _ (ad _)
 have qc : w0.heap.size = w.heap.size + 1:=by rw [ck];simp
 have jL : bH w0 pb (.slice A1 n.ends.length c1) (.slice AI n.ids.length cI) (.slice AN n.inputs.length cN):=by rw [ck,fo];exact bH.new _ _ _ _ _
 have Oy:=jL.below dm (by rw [qc,fo];omega)
 have kq : bQ wa (pb + 1) (.slice none 0 0) (.slice none 0 0) (.slice none 0 0):=by
  rw [kH,fo,← qc];show (w0.heap.push _)[w0.heap.size]? = _
  rw [Array.getElem?_push_size]
 have iA : aa w wa:=cX.after dm
 have eA : Hid (cb < pb ∧ pb + 2 = wa.heap.size ∧ pb = w.heap.size):=⟨by omega,by rw [fo,kH];simp;omega,fo⟩
 have Ad:=zh iA;have nP:=zh kq;have WK:=zh Oy;have PL:=zh (hc.since iA);have HNa:=zh (h.keep iA.below);have Hg:=zh hg;have dh:=zh ck;have DW:=zh kH;have fO:=Oy.cells
 have Ol : n.ends.length ≤ 100:=by have:=hg.ends;omega
 clear hc h cX dm jL kq iA Oy hg ck kH fo qc
 go_enter Tryz.func157,Tryz.ntmps157
 go_upto_region 1 with (fail);rw [← dh.out,← DW.out,← eA.out.2.2];obtain ⟨x0,x1,x2,f0,f1,f2⟩:=fO;go_wp2_with fail
 refine (kp _ _ _ n wa HNa.out (by omega) (fun k es he => by have:=Hg.out.row k es he;omega) (Hg.out.small hR hM).sz).mono ?_
 rintro e w1 ⟨ue,ui,un,S0,rfl,ho,bj⟩;have dm : aa wa w1:=bj;obtain ⟨E1,e1,rfl,-,-,-⟩:=id ho.read.1;obtain ⟨EI,eI,rfl,-,-,-⟩:=id ho.read.2.1;obtain ⟨EN,eN,rfl,-,-,-⟩:=id ho.read.2.2;clear x0 x1 x2 f0 f1 f2;have Fc:=WK.out.below dm WK.out.lt;obtain ⟨x0,x1,x2,f0,f1,f2⟩:=Fc.cells
 have MH : pb ∉ S0:=fun hj => by have h1:=(ho.range _ hj).1;have h2:=eA.out;omega
 have gH : Mb cb w.heap.size pb A L c P w (set3 w1 pb (.slice E1 n.ends.length e1) (.slice EI n.ids.length eI) (.slice EN n.inputs.length eN)) (.slice E1 n.ends.length e1) (.slice EI n.ids.length eI) (.slice EN n.inputs.length eN) n S0:=by
  have h0:=eA.out
  refine ⟨(ho.stable (fun k hk => ey _ _ _ _ _ (fun e => MH (by have e' : k = pb:=e;exact e' ▸ hk)))).mono (by omega),Fc.set3 _ _ _,MH,((PL.out.since dm).keep (fun k hk => ey _ _ _ _ _ (by omega))),?_⟩
  exact ((((CB.of (Ad.out.after dm).below).mono (Nat.le_refl _)).setCell (p:=⟨pb,0,none⟩) (.inl (by show _ ≤ pb;omega)) _).setCell (p:=⟨pb,1,none⟩) (.inl (by show _ ≤ pb;omega)) _).setCell (p:=⟨pb,2,none⟩) (.inl (by show _ ≤ pb;omega)) _
 have rZ : bQ (set3 w1 pb (.slice E1 n.ends.length e1) (.slice EI n.ids.length eI) (.slice EN n.inputs.length eN)) (pb + 1) (.slice none 0 0) (.slice none 0 0) (.slice none 0 0):=(ey _ _ _ _ _ (by omega)).trans (nP.out.since dm)
 have eF : wa.heap.size ≤ (set3 w1 pb (.slice E1 n.ends.length e1) (.slice EI n.ids.length eI) (.slice EN n.inputs.length eN)).heap.size:=by rw [eH];exact dm.below.size
 have mK : pb + 1 ∉ S0:=fun hj => by have h1:=(ho.range _ hj).1;have h2:=eA.out;omega
 have xl:=zh gH;have qM:=zh rZ;have A_:=zh eF;have tl:=zh mK;have Hfz:=zh (And.intro f0 (And.intro f1 f2));clear gH rZ eF mK ho bj dm Fc MH;go_upto_region 2 with (fail);obtain ⟨w2,dK⟩ : ∃ z,z = ((w1.setCell ⟨pb,0,none⟩ (.slice E1 n.ends.length e1)).setCell ⟨pb,1,none⟩ (.slice EI n.ids.length eI)).setCell ⟨pb,2,none⟩ (.slice EN n.inputs.length eN):=⟨_,rfl⟩
 rw [← dK]
 have je : Hid (Mb cb w.heap.size pb A L c P w w2 (.slice E1 n.ends.length e1) (.slice EI n.ids.length eI) (.slice EN n.inputs.length eN) n S0):=by show Mb _ _ _ _ _ _ _ _ _ _ _ _ _ _;rw [dK];exact xl.out
 have xf : Hid (bQ w2 (pb + 1) (.slice none 0 0) (.slice none 0 0) (.slice none 0 0)):=by show bQ _ _ _ _ _;rw [dK];exact qM.out
 have Fw : Hid (wa.heap.size ≤ w2.heap.size):=by show _ ≤ _;rw [dK];exact A_.out
 clear dK xl qM A_ Hfz x0 x1 x2 f0 f1 f2
 have y8 : w.heap.size ≤ w2.heap.size:=by have h1:=Fw.out;have h2:=eA.out;omega
 have Jh : w.heap.size ≤ pb:=by have h2:=eA.out;omega
 obtain ⟨bg,S1,gF,Wz⟩:=je.out.putIds (v':=.slice none 0 0) (ids':=[]) (kw _ _) (aU.refl _ _) (fun j hj => by simp at hj) iw Jh y8
 obtain ⟨-,x1,-,-,f1,-⟩:=je.out.box.cells;have ph:=zh gF
 have rT : Hid (bQ (w2.setCell ⟨pb,1,none⟩ (.slice none 0 0)) (pb + 1) (.slice none 0 0) (.slice none 0 0) (.slice none 0 0)):=xf.out.other (by show pb + 1 ≠ pb;omega)
 have Hn3 : Hid (pb + 1 ∉ S1):=fun hj => by
  rcases Wz _ hj with h1 | h1
  ·exact tl.out h1
  ·have h2:=Fw.out;have h3:=eA.out;omega
 have Tm : Hid (wa.heap.size ≤ (w2.setCell ⟨pb,1,none⟩ (.slice none 0 0)).heap.size):=by show _ ≤ _;rw [jv];exact Fw.out
 clear bg gF Wz y8;go_upto_region 3 with (fail);obtain ⟨w3,gY⟩ : ∃ z,z = w2.setCell ⟨pb,1,none⟩ (.slice none 0 0):=⟨_,rfl⟩
 rw [← gY] at ph rT Tm ⊢;clear gY x1 f1;go_wp2_with fail;refine (nR cb A L c P 2 w3 ph.out.cur (by omega) (by omega)).mono ?_;rintro e w4 ⟨small,rfl,wh,sl⟩
 have M9 : w.heap.size ≤ w3.heap.size:=by have h1:=Tm.out;have h2:=eA.out;omega
 have Eg:=zh (ph.out.seen sl wh iw Jh M9)
 have Hr4 : Hid (bQ w4 (pb + 1) (.slice none 0 0) (.slice none 0 0) (.slice none 0 0)):=(sl.block _ rT.out.lt (by have:=eA.out;omega)).trans rT.out
 have ME : Hid (wa.heap.size ≤ w4.heap.size):=Nat.le_trans Tm.out sl.size;clear wh sl M9;obtain ⟨y0,-,-,-,-,-⟩:=Eg.out.box.cells;go_wp2_with fail;refine (EH cb A L c (P + 2) n.ends.length w4 Eg.out.cur (by omega) Ol).mono ?_;rintro e w5 ⟨og,xs,rfl,wt,WL,mY,tu⟩
 have Ug : w.heap.size ≤ w4.heap.size:=by have h1:=ME.out;have h2:=eA.out;omega
 have fP:=zh (Eg.out.seen tu mY iw Jh Ug)
 have Hr5 : Hid (bQ w5 (pb + 1) (.slice none 0 0) (.slice none 0 0) (.slice none 0 0)):=(tu.block _ Hr4.out.lt (by have:=eA.out;omega)).trans Hr4.out
 have Hz5 : Hid (wa.heap.size ≤ w5.heap.size):=Nat.le_trans ME.out tu.size;have TB:=zh wt;have Wi:=zh WL;have AG : xs.length = n.ends.length:=wt.len.symm ▸ rfl
 have Sh : Hid (og ∉ S1 ∧ og ≠ pb ∧ og ≠ pb + 1 ∧ cb < og ∧ og < w5.heap.size):=by
  have h1:=(World.ownsRow.lt wt og (by simp [Value.ownBlock]));have h2:=Eg.out.box.lt;have h3:=Hr4.out.lt
  exact ⟨fun hj => by have:=(Eg.out.own.range _ hj).2;omega,by omega,by omega,by omega,h1.2⟩
 clear wt WL mY tu Ug y0;have C5:=zh AG;clear AG;go_upto_region 6 with (fail)
 have it : pb ≠ cb:=by have:=eA.out;omega
 go_loopw [21] (fun i wr => ∃ (k : Nat) (vi : Value) (N : am) (S : List Nat),k ≤ n.ends.length ∧ i = .int .i64 k ∧ Mb cb w.heap.size pb A L c (P + 202 + 2 * k) w wr (.slice E1 n.ends.length e1) vi (.slice EN n.inputs.length eN) N S ∧ N.ends = n.ends ∧ N.inputs = n.inputs ∧ N.ids.length = k ∧ Own wr w4.heap.size (.slice (some ⟨og,0,none⟩) n.ends.length n.ends.length) xs ∧ bQ wr (pb + 1) (.slice none 0 0) (.slice none 0 0) (.slice none 0 0) ∧ wa.heap.size ≤ wr.heap.size ∧ pb + 1 ∉ S ∧ og ∉ S) (fun i _ => n.ends.length - (intOf i).toNat)
 case atStart => exact ⟨0,_,{ n with ids:=[] },S1,Nat.zero_le _,rfl,⟨fP.out.own,fP.out.box,fP.out.nb,fP.out.cur.mono (by omega),fP.out.far⟩,rfl,rfl,rfl,TB.out,Hr5.out,Hz5.out,Hn3.out,Sh.out.1⟩
 case round =>
  obtain ⟨k,vi,N,S,hk,rfl,hm,WM,PM,zZ,wj,hr,hz,mK,lN⟩:=hrel;obtain ⟨oS,oU,rfl,-,-,-⟩:=id hm.own.read.2.1
  have IW : Mb cb w.heap.size pb A L c (P + 202 + 2 * k) w wr (.slice E1 n.ends.length e1) (.slice oS k oU) (.slice EN n.inputs.length eN) N S:=by rw [zZ] at hm;exact hm
  have Hm:=zh IW;have Hf:=zh (And.intro WM (And.intro PM zZ));have Fe:=zh wj;have Hr:=zh hr;have Hz:=zh hz;have tl:=zh mK;have px:=zh lN
  have YE : Hid (w.heap.size ≤ wr.heap.size):=by show _ ≤ _;have h1:=eA.out;omega
  clear hm IW WM PM zZ wj hr hz mK lN
  by_cases hlt : k < n.ends.length
  ·obtain ⟨x,hx⟩:=aW xs k (by rw [C5.out];exact hlt)
   have wE:=Wi.out x (List.mem_of_getElem? hx);have c0:=Fe.out.cell hx;have m3 : IntKind.i64.wrap ((k : Int) + 1) = (k : Int) + 1:=aL _ (by omega) (by omega)
   have Hl : Hid (N.ids.length + [x + 1].length ≤ 17592186044416):=by show _ ≤ _;have:=Hf.out.2.2;simp;omega
   cases small
   ·obtain ⟨y,hy⟩ : ∃ z,z = 1 + x * 20000:=⟨_,rfl⟩
    have m1 : IntKind.i64.wrap (x * 20000) = x * 20000:=aL _ (by omega) (by omega)
    have m2 : IntKind.i64.wrap (1 + x * 20000) = y:=by rw [hy];exact aL _ (by omega) (by omega)
    have Hyb : Hid (0 ≤ y ∧ y ≤ 100000000):=by show _ ∧ _;omega
    obtain ⟨wo,rfl⟩ : ∃ z,z = wr:=⟨_,rfl⟩
    have ot:=zh (show wo.cell? ⟨pb,1,none⟩ = some (.slice oS k oU) from Hm.out.box.cells.2.1);clear wE hx hy;go_upto_region 10 with (fail);refine aI (fun W => W.cell? ⟨pb,1,none⟩ = some (.slice oS k oU)) 10 [false,false,false,false,false,false,true,true,true,true] (by kernel_rfl) (by kernel_rfl) (show (World.drew wo).cell? ⟨pb,1,none⟩ = some (.slice oS k oU) from ot.out) ?_
    simp only [d_,dO,zT]
    iterate 6 (apply bY rfl;(intro W hW;(have k0:=hW);go_simp;with_reducible rfl);simp only [zA])
    obtain ⟨W,dr⟩ : ∃ W,W = World.drew wo:=⟨_,rfl⟩
    rw [← dr];have hW:=(show (World.drew wo).cell? ⟨pb,1,none⟩ = some (.slice oS k oU) from ot.out);rw [← dr] at hW;have fV:=zh dr;clear dr;refine Or.inl ⟨rfl,?_⟩
    go_simp
    (with_reducible refine (ew cb A L c (P + 202 + 2 * k) 20000 W (by rw [fV.out];exact Hm.out.cur.since (ak (ad _))) (by omega) (by omega)).mono ?_)
    rintro e W' ⟨a,rfl,ha,iq,hC⟩;refine ⟨_,rfl,aD hW it _ hC,?_⟩
    replace hW:=aD hW it _ hC
    have oL : aa wo W:=(by rw [fV.out];exact ak (ad _))
    have kP:=((gB.refl cb wo).after oL).trans hC;have OA:=zh (Hm.out.seen kP iq iw Jh YE.out)
    have U4:=zh (aO Fe.out (fun j hj => (show j = og by simpa [Value.ownBlock,eq_comm] using hj) ▸ kP.block og (World.ownsRow.lt Fe.out og rfl).2 (by have:=Sh.out;omega)))
    have Hr7 : Hid (bQ W' (pb + 1) (.slice none 0 0) (.slice none 0 0) (.slice none 0 0)):=(kP.block _ Hr.out.lt (by have:=eA.out;omega)).trans Hr.out
    have WN : Hid (wa.heap.size ≤ W'.heap.size):=Nat.le_trans Hz.out kP.size;have WO : Hid (w.heap.size ≤ W'.heap.size):=Nat.le_trans YE.out kP.size
    have m4 : IntKind.i64.wrap (y + (a : Int)) = y + (a : Int):=aL _ (by have:=Hyb.out;omega) (by have:=Hyb.out;omega)
    clear hC iq oL ha kP
    (try simp only [zA])
    refine dA (v:=?_) rfl ?_ hW ?_;rotate_left;(go_simp;with_reducible rfl)
    simp only [zA]
    refine dz (v:=?_) (ob:=?_) rfl ?_ ?_ ?_;rotate_left 2
    (go_simp;first | with_reducible rfl | (refine ⟨?_,?_⟩ <;> with_reducible rfl))
    exact bc (au _ _) hW;intro w8 lE md
    replace hW:=md
    clear md
    have pg : aa W' w8:=(by rw [lE];exact ah _ (ad _))
    have Ff:=zh (OA.out.since pg iw Jh WO.out);have rY:=zh (Own.since U4.out pg);have Hr8:=zh (Hr7.out.since pg);have WP : Hid (wa.heap.size ≤ w8.heap.size):=Nat.le_trans WN.out pg.below.size;have WQ : Hid (w.heap.size ≤ w8.heap.size):=Nat.le_trans WO.out pg.below.size
    have Hi8 : Hid (bD w8 (.slice (some ⟨W'.heap.size,0,none⟩) 1 1) [y + (a : Int)]):=(by show bD _ _ _;rw [lE];exact rf _ _)
    have WR:=zh Ff.out.ownIds.1.1;have Hl8 : Hid (N.ids.length + [y + (a : Int)].length ≤ 17592186044416):=Hl.out;clear lE pg
    (try simp only [zA])
    refine dP (fun Q' HQ => ?_)
    (refine jh (base:=w.heap.size) (v:=.slice oS k oU) (xs:=N.ids) rfl _ _ rfl rfl WR.out rfl Hi8.out Hl8.out WQ.out ?_);intro v' w9 T ix fQ PN;obtain ⟨V,mV,cV,rfl⟩:=gQ.one ix;obtain ⟨ne,S9,Gj,CI,WS,PO,WT,CJ⟩:=Ff.out.idMore ix fQ PN iw Jh WQ.out rY.out rfl ⟨px.out,Sh.out.2.1⟩ Hr8.out tl.out;refine HQ _ _ ne.cells.2.1 ?_;clear ix fQ PN;have CK:=zh Gj;have Fx:=zh CI;have Hr9:=zh WS;have pY:=zh PO;have WD:=zh WT;have LY:=zh CJ;clear Gj CI WS PO WT CJ;obtain ⟨x0,x1,x2,f0,f1,f2⟩:=ne.cells;clear ne
    (try simp only [zA])
    simp only [bA];go_wp2;go_roundw
    case rel => exact ⟨k + 1,_,_,S9,by omega,by first | rfl | go_num,⟨CK.out.own,CK.out.box,CK.out.nb,CK.out.cur.mono (by omega),CK.out.far⟩,Hf.out.1,Hf.out.2.1,by have:=Hf.out.2.2;simp;omega,Fx.out,Hr9.out,Nat.le_trans WP.out pY.out,WD.out,LY.out⟩
    case measure => simp [intOf];omega
   ·have m1 : IntKind.i64.wrap (x + 1) = x + 1:=aL _ (by omega) (by omega);have pg : aa wr (wr.alloc (.cells #[.int .i64 (x + 1)] 3)):=ah _ (ad _);have WU:=zh (Hm.out.since pg iw Jh YE.out);have HoA:=zh (Fe.out.since pg);have HrA:=zh (Hr.out.since pg);have WV : Hid (wa.heap.size ≤ (wr.alloc (.cells #[.int .i64 (x + 1)] 3)).heap.size):=Nat.le_trans Hz.out pg.below.size;have WW : Hid (w.heap.size ≤ (wr.alloc (.cells #[.int .i64 (x + 1)] 3)).heap.size):=Nat.le_trans YE.out pg.below.size;obtain ⟨x0,x1,x2,f0,f1,f2⟩:=Hm.out.box.cells;have aY:=WU.out.ownIds.1.1;have vk:=zh aY;clear pg wE hx aY
    go_wp2_with (at_builtin;refine jh (base:=w.heap.size) rfl _ _ rfl rfl vk.out rfl (rf _ _) Hl.out WW.out ?_;intro v' w9 T ix fQ PN;obtain ⟨V,mV,cV,rfl⟩:=gQ.one ix;obtain ⟨ne,S9,Gj,CI,WS,PO,WT,CJ⟩:=WU.out.idMore ix fQ PN iw Jh WW.out HoA.out rfl ⟨px.out,Sh.out.2.1⟩ HrA.out tl.out;clear x0 x1 x2 f0 f1 f2 ix fQ PN;have CK:=zh Gj;have Fx:=zh CI;have Hr9:=zh WS;have pY:=zh PO;have WD:=zh WT;have LY:=zh CJ;clear Gj CI WS PO WT CJ;obtain ⟨x0,x1,x2,f0,f1,f2⟩:=ne.cells;clear ne)
    go_roundw
    case rel => exact ⟨k + 1,_,_,S9,by omega,by first | rfl | go_num,⟨CK.out.own,CK.out.box,CK.out.nb,CK.out.cur.mono (by omega),CK.out.far⟩,Hf.out.1,Hf.out.2.1,by have:=Hf.out.2.2;simp;omega,Fx.out,Hr9.out,Nat.le_trans WV.out pY.out,WD.out,LY.out⟩
    case measure => simp [intOf];omega
  ·obtain rfl : k = n.ends.length:=by omega
   clear hlt hk;obtain ⟨k0,k1,k2,-,-,-⟩:=Hm.out.box.cells;obtain ⟨e0,IJ,e2,f0,f1,f2⟩:=Hr.out.box.cells;have ez:=zh (Hm.out.ret (rb:=pb + 1) tl.out (by omega) iw);go_wp2;refine bodyPost_ret (v:=.agg #[.slice E1 n.ends.length e1,.slice oS n.ends.length oU,.slice EN n.inputs.length eN]) (by simp [results,Tryz.results157,go_sem, *]) rfl ?_;obtain ⟨r1,r2,r3⟩:=ez.out;exact ⟨_,_,_,N,S,rfl,r1,Hf.out,r2.mono (by omega),r3⟩
theorem wk {w : World} {g i : Nat} {v : Value} (h : w.cell? ⟨g,i,none⟩ = some v) (k : Nat) : (w.setCell ⟨g,i,none⟩ v).heap[k]? = w.heap[k]?:=by
 by_cases e : k = g
 ·subst e
  unfold World.cell? at h
  cases hb : w.heap[k]? with
  | none => rw [show w.heap[(⟨k,i,none⟩ : Addr).block]? = none from hb] at h;simp at h
  | some o =>
   rw [show w.heap[(⟨k,i,none⟩ : Addr).block]? = some o from hb] at h
   cases o with
   | cells cs t fr =>
    have hc : cs[i]? = some v:=by simpa using h
    have he : cs.setIfInBounds i v = cs:=by
     apply Array.ext_getElem?
     intro j;rw [Array.getElem?_setIfInBounds]
     by_cases hj : i = j
     ·subst hj;rw [if_pos rfl,if_pos (Array.getElem?_eq_some_iff.1 hc).1,hc]
     ·rw [if_neg hj]
    simp [World.setCell,Array.getElem?_modify,hb,he]
   | _ => simp at h
 ·exact Below.heap_setCell _ _ _ _ e
theorem OB {w : World} {g i : Nat} {v : Value} (h : w.cell? ⟨g,i,none⟩ = some v) (p : Addr) (u : Value) (k : Nat) : ((w.setCell ⟨g,i,none⟩ v).setCell p u).heap[k]? = (w.setCell p u).heap[k]?:=by
 by_cases e : k = p.block
 ·have h1:=wk h p.block;subst e
  rw [show ((w.setCell ⟨g,i,none⟩ v).setCell p u).heap[p.block]? = _ from by unfold World.setCell;exact Array.getElem?_modify ..]
  rw [show (w.setCell p u).heap[p.block]? = _ from by unfold World.setCell;exact Array.getElem?_modify ..]
  rw [if_pos rfl,if_pos rfl];exact congrArg _ h1
 ·rw [Below.heap_setCell _ _ _ _ e,Below.heap_setCell _ _ _ _ e,wk h]
theorem LZ {w : World} {g i j : Nat} (Aw : i ≠ j) (u : Value) : (w.setCell ⟨g,i,none⟩ u).cell? ⟨g,j,none⟩ = w.cell? ⟨g,j,none⟩:=by
 unfold World.cell? World.setCell
 simp only [Array.getElem?_modify,if_true]
 cases w.heap[g]? with
 | none => rfl
 | some o => cases o <;> simp [Aw]
theorem aA.setPort {w : World} {base g c n : Nat} {vi vn : Value} {N : am} {S : List Nat} (h : aA w base (.slice (some ⟨g,0,none⟩) n c) vi vn N S) {k : Nat} {es : List (Int × Int)} (hx : N.ends[k]? = some es) (hj : 0 < es.length) :
  ∃ gr cr,w.cell? ⟨g,k,none⟩ = some (.slice (some ⟨gr,0,none⟩) es.length cr) ∧ gr ∈ S ∧ w.frozen? ⟨gr,0,none⟩ = false ∧ w.frozen? ⟨gr,1,none⟩ = false ∧ (∃ z,w.cell? ⟨gr,0,none⟩ = some z) ∧ (∃ z,w.cell? ⟨gr,1,none⟩ = some z) ∧
   (∀ x : Int,∃ y,aA (w.setCell ⟨gr,0,none⟩ (.int .i64 x)) base (.slice (some ⟨g,0,none⟩) n c) vi vn { N with ends:=N.ends.set k (es.set 0 y) } S) ∧
   (∀ x : Int,∃ y,aA (w.setCell ⟨gr,1,none⟩ (.int .i64 x)) base (.slice (some ⟨g,0,none⟩) n c) vi vn { N with ends:=N.ends.set k (es.set 0 y) } S):=by
 obtain ⟨gr,cr,h1,-,-,-,h2,-,⟨f0,f1⟩,c0,c1,bW⟩:=h.setEnd hx hj;simp only [Nat.zero_mul,Nat.zero_add] at f0 f1 c0 c1 bW;obtain ⟨e,he⟩:=aW es 0 hj;obtain ⟨u,T,hu,-,hR,-,-,-⟩:=h.rowCell hx;rw [h1] at hu;have hu:=Option.some.inj hu;subst hu;obtain ⟨d0,d1,-⟩:=eU.cells hR he;simp only [Nat.zero_mul,Nat.zero_add] at d0 d1;refine ⟨gr,cr,h1,h2,f0,f1,c0,c1,fun x => ⟨(x,e.2),?_⟩,fun x => ⟨(e.1,x),?_⟩⟩
 ·refine (bW (x,e.2)).stable (fun q _ => ?_)
  exact (wk (show (w.setCell ⟨gr,0,none⟩ (.int .i64 x)).cell? ⟨gr,1,none⟩ = some (.int .i64 e.2) by rw [LZ (by omega)];exact d1) q).symm
 ·exact (bW (e.1,x)).stable (fun q _ => (OB d0 _ _ q).symm)
structure Br (cb pb : Nat) (A : Option Addr) (L c P : Nat) (w W : World) (ve vi vn : Value) (N : am) (S : List Nat) : Prop where
 mb : Mb cb w.heap.size pb A L c P w W ve vi vn N S
 rb : bQ W (pb + 1) (.slice none 0 0) (.slice none 0 0) (.slice none 0 0)
 rn : pb + 1 ∉ S
 pe : pb = w.heap.size
 cbp : cb < pb
section
variable {cb pb : Nat} {A : Option Addr} {L c P : Nat} {w W : World} {ve vi vn : Value} {N : am} {S : List Nat}
theorem Br.sz (h : Br cb pb A L c P w W ve vi vn N S) : w.heap.size ≤ W.heap.size:=by have:=h.rb.lt;have:=h.pe;omega
theorem Br.seen {W' : World} {P' : Nat} (h : Br cb pb A L c P w W ve vi vn N S) (hs : gB cb W W') (EW : dQ W' cb A L c P') : Br cb pb A L c P' w W' ve vi vn N S:=
 ⟨h.mb.seen hs EW (by have:=h.pe;have:=h.cbp;omega) (by have:=h.pe;omega) h.sz,(hs.block _ h.rb.lt (by have:=h.cbp;omega)).trans h.rb,h.rn,h.pe,h.cbp⟩
theorem Br.since {W' : World} (h : Br cb pb A L c P w W ve vi vn N S) (hs : aa W W') : Br cb pb A L c P w W' ve vi vn N S:=h.seen (CB.of hs) (h.mb.cur.since hs)
theorem Br.up {P' : Nat} (h : Br cb pb A L c P w W ve vi vn N S) (hP : P ≤ P') : Br cb pb A L c P' w W ve vi vn N S:=⟨⟨h.mb.own,h.mb.box,h.mb.nb,h.mb.cur.mono hP,h.mb.far⟩,h.rb,h.rn,h.pe,h.cbp⟩
theorem Br.only {W' : World} {N' : am} {S' : List Nat} {ve' vi' YB : Value} (h : Br cb pb A L c P w W ve vi vn N S) (ho : aA W' w.heap.size ve' vi' YB N' S') (hS : ∀ j ∈ S',j ∈ S ∨ W.heap.size ≤ j) (fm : aU S W W') :
  bH W' pb ve vi vn ∧ pb ∉ S' ∧ pb + 1 ∉ S' ∧ bQ W' (pb + 1) (.slice none 0 0) (.slice none 0 0) (.slice none 0 0) ∧ dQ W' cb A L c P ∧ CB cb w.heap.size w W':=by
 have hp:=h.pe;have hc:=h.cbp;have h1:=h.rb.lt;have me : Below w.heap.size W W':=fm.below _ h.sz (fun k hk => (h.mb.own.range k hk).1)
 refine ⟨h.mb.box.blk (fm.block _ h.mb.box.lt h.mb.nb),fun hj => ?_,fun hj => ?_,(fm.block _ h1 h.rn).trans h.rb,h.mb.cur.keep (fun k hk => me.block k (by omega)),h.mb.far.trans (CB.of me)⟩
 ·rcases hS _ hj with h2 | h2
  ·exact h.mb.nb h2
  ·omega
 ·rcases hS _ hj with h2 | h2
  ·exact h.rn h2
  ·omega
theorem Br.own {W' : World} {N' : am} {S' : List Nat} (h : Br cb pb A L c P w W ve vi vn N S) (ho : aA W' w.heap.size ve vi vn N' S') (hS : ∀ j ∈ S',j ∈ S ∨ W.heap.size ≤ j) (fm : aU S W W') : Br cb pb A L c P w W' ve vi vn N' S':=by
 obtain ⟨a1,a2,a3,a4,a5,a6⟩:=h.only ho hS fm;exact ⟨⟨ho,a1,a2,a5,a6⟩,a4,a3,h.pe,h.cbp⟩
theorem Br.put0 {W' : World} {N' : am} {S' : List Nat} {v' : Value} (h : Br cb pb A L c P w W ve vi vn N S) (ho : aA W' w.heap.size v' vi vn N' S') (hS : ∀ j ∈ S',j ∈ S ∨ W.heap.size ≤ j) (fm : aU S W W') :
  bH W' pb ve vi vn ∧ Br cb pb A L c P w (W'.setCell ⟨pb,0,none⟩ v') v' vi vn N' S':=by
 obtain ⟨a1,a2,a3,a4,a5,a6⟩:=h.only ho hS fm;have hp:=h.pe;have hc:=h.cbp
 refine ⟨a1,⟨⟨ho.stable (fun k hk => Below.heap_setCell _ _ _ _ (fun e => a2 (by have e' : k = pb:=e;exact e' ▸ hk))),a1.put0,a2,a5.keep (fun k hk => Below.heap_setCell _ _ _ _ (by show k ≠ pb;omega)),a6.setCell (p:=⟨pb,0,none⟩) (.inl (by show _ ≤ pb;omega)) _⟩,a4.other (by show pb + 1 ≠ pb;omega),a3,h.pe,h.cbp⟩⟩
theorem Br.put1 {W' : World} {N' : am} {S' : List Nat} {v' : Value} (h : Br cb pb A L c P w W ve vi vn N S) (ho : aA W' w.heap.size ve v' vn N' S') (hS : ∀ j ∈ S',j ∈ S ∨ W.heap.size ≤ j) (fm : aU S W W') :
  bH W' pb ve vi vn ∧ Br cb pb A L c P w (W'.setCell ⟨pb,1,none⟩ v') ve v' vn N' S':=by
 obtain ⟨a1,a2,a3,a4,a5,a6⟩:=h.only ho hS fm;have hp:=h.pe;have hc:=h.cbp
 refine ⟨a1,⟨⟨ho.stable (fun k hk => Below.heap_setCell _ _ _ _ (fun e => a2 (by have e' : k = pb:=e;exact e' ▸ hk))),a1.put1,a2,a5.keep (fun k hk => Below.heap_setCell _ _ _ _ (by show k ≠ pb;omega)),a6.setCell (p:=⟨pb,1,none⟩) (.inl (by show _ ≤ pb;omega)) _⟩,a4.other (by show pb + 1 ≠ pb;omega),a3,h.pe,h.cbp⟩⟩
theorem Br.put2 {W' : World} {N' : am} {S' : List Nat} {v' : Value} (h : Br cb pb A L c P w W ve vi vn N S) (ho : aA W' w.heap.size ve vi v' N' S') (hS : ∀ j ∈ S',j ∈ S ∨ W.heap.size ≤ j) (fm : aU S W W') :
  bH W' pb ve vi vn ∧ Br cb pb A L c P w (W'.setCell ⟨pb,2,none⟩ v') ve vi v' N' S':=by
 obtain ⟨a1,a2,a3,a4,a5,a6⟩:=h.only ho hS fm;have hp:=h.pe;have hc:=h.cbp
 refine ⟨a1,⟨⟨ho.stable (fun k hk => Below.heap_setCell _ _ _ _ (fun e => a2 (by have e' : k = pb:=e;exact e' ▸ hk))),a1.put2,a2,a5.keep (fun k hk => Below.heap_setCell _ _ _ _ (by show k ≠ pb;omega)),a6.setCell (p:=⟨pb,2,none⟩) (.inl (by show _ ≤ pb;omega)) _⟩,a4.other (by show pb + 1 ≠ pb;omega),a3,h.pe,h.cbp⟩⟩
theorem Br.putIds {W' : World} {T : List Nat} {v' : Value} {ids' : List Int} (h : Br cb pb A L c P w W ve vi vn N S) (ho : nj W' w.heap.size v' ids' T) (fm : aU vi.ownBlock.toList W W') (hT : ∀ j ∈ T,j ∈ vi.ownBlock.toList ∨ W.heap.size ≤ j) :
  bH W' pb ve vi vn ∧ ∃ S',Br cb pb A L c P w (W'.setCell ⟨pb,1,none⟩ v') ve v' vn { N with ids:=ids' } S':=by
 obtain ⟨S',LU,CH⟩:=h.mb.own.turnIds ho fm hT;obtain ⟨b1,b2⟩:=h.put1 LU CH (fm.mono (h.mb.ownIds.2));exact ⟨b1,S',b2⟩
theorem Br.putIn {W' : World} {T : List Nat} {v' : Value} {Wx : List Int} (h : Br cb pb A L c P w W ve vi vn N S) (ho : nj W' w.heap.size v' Wx T) (fm : aU vn.ownBlock.toList W W') (hT : ∀ j ∈ T,j ∈ vn.ownBlock.toList ∨ W.heap.size ≤ j) :
  bH W' pb ve vi vn ∧ ∃ S',Br cb pb A L c P w (W'.setCell ⟨pb,2,none⟩ v') ve vi v' { N with inputs:=Wx } S':=by
 obtain ⟨S',LU,CH⟩:=h.mb.own.turnIn ho fm hT;obtain ⟨b1,b2⟩:=h.put2 LU CH (fm.mono (h.mb.ownIn.2));exact ⟨b1,S',b2⟩
theorem Br.assign {W1 : World} {P' : Nat} {a b d : Value} {N' : am} {S' : List Nat} (h : Br cb pb A L c P w W ve vi vn N S) (hs : gB cb W W1) (EW : dQ W1 cb A L c P') (ho : aA W1 W.heap.size a b d N' S') :
  Br cb pb A L c P' w (set3 W1 pb a b d) a b d N' S':=by
 have hp:=h.pe;have hc:=h.cbp;have h1:=h.rb.lt;refine ⟨h.mb.assign hs EW ho (by omega) (by omega) (by omega) h.sz,(ey _ _ _ _ _ (by omega)).trans ((hs.block _ h.rb.lt (by omega)).trans h.rb),fun hj => ?_,h.pe,h.cbp⟩
 have:=(ho.range _ hj).1
 omega
theorem Br.ret (h : Br cb pb A L c P w W ve vi vn N S) : aA (set3 W (pb + 1) ve vi vn) w.heap.size ve vi vn N S ∧ dQ (set3 W (pb + 1) ve vi vn) cb A L c P ∧ CB cb w.heap.size w (set3 W (pb + 1) ve vi vn):=h.mb.ret h.rn (by have:=h.pe;omega) (by have:=h.pe;have:=h.cbp;omega)
end
structure Bd (N : am) : Prop where
 ends : N.ends.length ≤ 100
 row : ∀ (k : Nat) (es : List (Int × Int)),N.ends[k]? = some es → es.length ≤ 200
 ids : N.ids.length ≤ 200
 inputs : N.inputs.length ≤ 200
theorem Bd.small {n : am} (h : Bd n) : pT n:=by
 refine ⟨by have:=h.ends;omega,fun k es he => by have:=h.row k es he;omega,?_⟩
 have h1 : oZ n.ends ≤ 2 * 200 * n.ends.length:=LF (fun es he => by
  obtain ⟨k,hk⟩:=List.getElem?_of_mem he
  exact h.row k es hk)
 have h2:=Gi n.ends
 have h3 : 2 * 200 * n.ends.length ≤ 2 * 200 * 100:=Nat.mul_le_mul (by omega) (by have:=h.ends;omega)
 have:=h.ends
 have:=h.ids
 have:=h.inputs
 unfold f_;omega
theorem Gd.bd {R M : Nat} {n : am} (h : Gd R M n) (hR : R ≤ 200) (hM : M ≤ 100) : Bd n:=
 ⟨by have:=h.ends;omega,fun k es he => by have:=h.row k es he;omega,by have:=h.ids;omega,by have:=h.inputs;have:=h.ends;omega⟩
theorem Bd.setRow {n : am} (h : Bd n) (k : Nat) {es : List (Int × Int)} (he : es.length ≤ 200) : Bd { n with ends:=n.ends.set k es }:=by
 refine ⟨by simp;exact h.ends,fun j fs hf => ?_,h.ids,h.inputs⟩
 rw [List.getElem?_set] at hf
 split at hf
 ·split at hf
  ·cases hf;exact he
  ·cases hf
 ·exact h.row j fs hf
end Go.Proofs.YtgmdpppljkmabaaGreat
