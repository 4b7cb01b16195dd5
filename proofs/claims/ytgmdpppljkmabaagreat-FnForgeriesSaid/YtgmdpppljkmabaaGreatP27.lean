/- Parts of the proof: walks of functions and plain laws. -/
import Derived.Test.YtgmdpppljkmabaaGreatP0
import Derived.Test.YtgmdpppljkmabaaGreatP26
import Derived.Test.YtgmdpppljkmabaaGreatP12
set_option maxRecDepth 100000
set_option maxHeartbeats 16000000
namespace Go.Proofs.YtgmdpppljkmabaaGreat
open Go Go.RowKit
theorem L9 {w : World} {B g q k : Nat} {xs : List Int} (h : Own w B (.slice (some ⟨g,0,none⟩) xs.length q) xs) (hk : k ≤ xs.length) : Own w B (.slice (some ⟨g,0,none⟩) k q) (xs.take k):=by
 have hl : (xs.take k).length = k:=by rw [List.length_take];omega
 obtain ⟨h1,h2⟩:=h;refine ⟨by simp,?_⟩;rcases h2 with ⟨h2,-⟩ | ⟨g',cap,cur,e1,e2,e3,e4,e5,e6,e7⟩
 ·cases h2
 ·cases e1
  refine .inr ⟨g,q,cur,by rw [hl],e2,e3,by rw [hl];omega,e5,e6,?_⟩
  rw [hl,List.map_take,← e7,List.take_take];congr 1
  omega
theorem Gd.setIn {R M : Nat} {n : am} (h : Gd R M n) (k : Nat) (x : Int) : Gd R M { n with inputs:=n.inputs.set k x }:=
 ⟨h.ends,h.row,h.ids,by show (n.inputs.set k x).length = _;rw [List.length_set];exact h.inputs,h.wf⟩
theorem Mb.mono {cb B pb : Nat} {A : Option Addr} {L c P P' : Nat} {w W : World} {ve vi vn : Value} {N : am} {S : List Nat} (h : Mb cb B pb A L c P w W ve vi vn N S) (hP : P ≤ P') : Mb cb B pb A L c P' w W ve vi vn N S:=⟨h.own,h.box,h.nb,h.cur.mono hP,h.far⟩
theorem Mb.setIn {cb B pb g k cc nn : Nat} {A : Option Addr} {L c P : Nat} {w W : World} {ve vi : Value} {N : am} {S : List Nat} (h : Mb cb B pb A L c P w W ve vi (.slice (some ⟨g,0,none⟩) nn cc) N S) (x : Int) (hk : k < N.inputs.length) (hb : cb < B) :
  W.frozen? ⟨g,k,none⟩ = false ∧ Mb cb B pb A L c P w (W.setCell ⟨g,k,none⟩ (.int .i64 x)) ve vi (.slice (some ⟨g,0,none⟩) nn cc) { N with inputs:=N.inputs.set k x } S:=by
 obtain ⟨h1,h2,h3⟩:=h.own.setIn x hk;have hg:=(h.own.range g h1).1
 refine ⟨h2,⟨h3,h.box.blk (Below.heap_setCell _ _ _ _ (fun e => h.nb (by have e' : pb = g:=e;exact e' ▸ h1))),h.nb,h.cur.keep (fun j hj => Below.heap_setCell _ _ _ _ (by show j ≠ g;omega)),h.far.setCell (p:=⟨g,k,none⟩) (.inl hg) _⟩⟩
theorem Mb.idMore2 {cb B pb og : Nat} {A : Option Addr} {L c P : Nat} {w W W1 : World} {ve vi vn v' uo : Value} {N : am} {S T : List Nat} {y : Int} {xs : List Int} {Bo : Nat} (h : Mb cb B pb A L c P w W ve vi vn N S) (ho : nj W1 B v' (N.ids ++ [y]) T) (fm : aU vi.ownBlock.toList W W1) (hT : ∀ j ∈ T,j ∈ vi.ownBlock.toList ∨ W.heap.size ≤ j) (hb : cb < B) (hp : B ≤ pb) (hB : B ≤ W.heap.size)
  (wj : Own W Bo uo xs) (WJ : uo.ownBlock = some og) (Sf : og ∉ S ∧ og ≠ pb) :
  bH W1 pb ve vi vn ∧ ∃ S',Mb cb B pb A L c P w (W1.setCell ⟨pb,1,none⟩ v') ve v' vn { N with ids:=N.ids ++ [y] } S' ∧ Own (W1.setCell ⟨pb,1,none⟩ v') Bo uo xs ∧ W.heap.size ≤ (W1.setCell ⟨pb,1,none⟩ v').heap.size ∧ og ∉ S':=by
 obtain ⟨bg,S',gF,CH⟩:=h.putIds ho fm hT hb hp hB;have Oz:=h.ownIds.2;have Sg:=(World.ownsRow.lt wj og WJ).2
 refine ⟨bg,S',gF,aO wj (fun j hj => ?_),by rw [jv];exact fm.size,fun hj => ?_⟩
 ·have CN : j = og:=by rw [WJ] at hj;simpa [eq_comm] using hj
  subst CN;rw [Below.heap_setCell _ _ _ _ (by exact Sf.2)];exact fm.block _ Sg (fun hm => Sf.1 (Oz _ hm))
 ·rcases CH _ hj with h1 | h1
  ·exact Sf.1 h1
  ·omega
theorem IN (cb : Nat) (A : Option Addr) (L c P B g q n : Nat) (xs : List Int) (w : World) (h : dQ w cb A L c P) (hP : P ≤ 4611686018427387000) (ho : Own w B (.slice (some ⟨g,0,none⟩) n q) xs) (hn : n = xs.length) (hB : cb < B) (hx : 1 ≤ xs.length) (pw : xs.length ≤ 1048576) :
  Calls Tryz.prog 68 #[.pointer (some ⟨cb,0,none⟩),.slice (some ⟨g,0,none⟩) n q] w fun e w' => ∃ x,e = .returned (.int .i64 x) ∧ x ∈ xs ∧ dQ w' cb A L c (P + 2) ∧ CB cb w.heap.size w w':=by
 subst hn;exact oA cb A L c P B g q xs w h hP ho hB hx pw
def Xf (cb B : Nat) (A : Option Addr) (L c P : Nat) (w : World) (T : am → Int → Prop) (e : Ending) (w' : World) : Prop:=
 ∃ ve vi vn N S,∃ x : Int,e = .returned (.tuple #[.agg #[ve,vi,vn],.int .i64 x]) ∧ aA w' B ve vi vn N S ∧ T N x ∧ dQ w' cb A L c P ∧ CB cb B w w'
theorem L_ (cb : Nat) (A : Option Addr) (L c P : Nat) (w : World) (hc : dQ w cb A L c P) (hP : P ≤ 3000000000000000000) :
  Calls Tryz.prog 67 #[.pointer (some ⟨cb,0,none⟩)] w (Xf cb w.heap.size A L c (P + 400000000000000000) w fun N x => Bd N ∧ 0 ≤ x ∧ x ≤ 6):=by
 have iw:=hc.lt;obtain ⟨B,wb⟩ : ∃ z,z = w.heap.size + 1:=⟨_,rfl⟩
 obtain ⟨w0,ck⟩ : ∃ z,z = w.alloc (.cells #[.slice none 0 0,.slice none 0 0,.slice none 0 0] 27):=⟨_,rfl⟩
 have cX : aa w w0:=by rw [ck];exact ah _ (ad _)
 have kg : w0.heap.size = B:=by rw [ck,wb];simp
 have kq : bQ w0 w.heap.size (.slice none 0 0) (.slice none 0 0) (.slice none 0 0):=by
  rw [ck];show (w.heap.push _)[w.heap.size]? = _
  rw [Array.getElem?_push_size]
 have nP:=zh kq;have pK:=zh cX;have dh:=zh ck;have iy:=zh wb;have vS:=zh kg;have LK:=zh (hc.since cX);clear kq cX ck hc wb kg
 go_enter Tryz.func67,Tryz.ntmps67
 go_upto_region 1 with (fail);rw [← dh.out];go_wp2_with fail;refine (PJ cb A L c P 5 38 w0 LK.out (by omega) (by omega) (by omega) (by omega)).mono ?_;rintro e w1 ⟨Wr,Ws,Wt,N0,S0,rfl,ho,Sm,nX,lJ⟩;obtain ⟨A1,c1,rfl,-,k9,-⟩:=id ho.read.1;obtain ⟨AI,cI,rfl,-,-,-⟩:=id ho.read.2.1;obtain ⟨AN,cN,rfl,-,-,-⟩:=id ho.read.2.2;obtain ⟨w2,dK⟩ : ∃ z,z = w1.alloc (.cells #[.slice A1 N0.ends.length c1,.slice AI N0.ids.length cI,.slice AN N0.inputs.length cN] 27):=⟨_,rfl⟩
 obtain ⟨pb,fo⟩ : ∃ z,z = w1.heap.size:=⟨_,rfl⟩
 have jZ : aa w1 w2:=by rw [dK];exact ah _ (ad _)
 have j6 : B ≤ w1.heap.size:=by rw [← vS.out];exact lJ.size
 have lF : cb < B:=by have:=iy.out;omega
 have hmb : Mb cb B pb A L c (P + 200000000000000000) w0 w2 (.slice A1 N0.ends.length c1) (.slice AI N0.ids.length cI) (.slice AN N0.inputs.length cN) N0 S0:=
  ⟨(ho.keep jZ.below).mono (by rw [vS.out];exact Nat.le_refl _),by rw [dK,fo];exact bH.new _ _ _ _ _,fun hj => by have:=(ho.range _ hj).2;omega,nX.since jZ,(lJ.mono (by rw [vS.out];exact Nat.le_refl _)).trans (CB.of (jZ.below.mono j6))⟩
 have qe:=zh hmb
 have eA : Hid (B ≤ pb ∧ pb < w2.heap.size):=⟨by rw [fo];exact j6,by rw [dK,fo];simp⟩
 have xC : Hid (B ≤ w2.heap.size):=Nat.le_trans j6 jZ.below.size;have j7:=zh dK;have nY:=zh fo;have EY : Hid (TN 100 40 N0):=⟨Sm.1.mono (Nat.le_refl _) (by omega),Sm.2⟩;clear hmb dK fo Sm ho nX lJ jZ j6;go_upto_region 2 with (fail);rw [← j7.out,← nY.out];have sP : B ≤ pb:=eA.out.1;have it : pb ≠ cb:=by omega
 go_wp2_with fail;refine (nR cb A L c _ 3 w2 qe.out.cur (by omega) (by omega)).mono ?_;rintro e w3 ⟨bb,rfl,rh,kP⟩;have ph:=zh (qe.out.seen kP rh lF sP xC.out);have zN : Hid (B ≤ w3.heap.size):=Nat.le_trans xC.out kP.size;clear rh kP;clear qe xC j7 nY
 go_upto_if 11 with (fail)
 go_cut [] from 12 to 15 (fun wx => ∃ ve vi vn N S,Mb cb B pb A L c (P + 200000000000000100) w0 wx ve vi vn N S ∧ TN 100 40 N ∧ B ≤ wx.heap.size)
 case first =>
  cases bb
  ·go_wp2;go_meet
   case rel => exact ⟨_,_,_,N0,S0,ph.out.mono (by omega),EY.out,zN.out⟩
  ·go_wp2_with fail;refine (ew cb A L c _ 7 w3 ph.out.cur (by omega) (by omega)).mono ?_;rintro e w6 ⟨x,rfl,hx,gn,lK⟩;obtain ⟨k,hk⟩ : ∃ k : Nat,k = x + 1:=⟨_,rfl⟩
   have m1 : IntKind.i64.wrap (1 + (x : Int)) = (k : Int):=by rw [aL _ (by omega) (by omega)];omega
   have j_ : 1 ≤ k:=by omega
   have mL : k ≤ 10:=by omega
   have Sn:=zh gn;have PE:=zh lK;have Hk:=zh hk;clear hx gn lK hk;go_wp2_with fail;refine (ss k j_ (by omega) w6).mono ?_;rintro e w7 ⟨ve,vi,vn,S7,rfl,ho,ri⟩;obtain ⟨N7,Sp⟩ : ∃ z,z = hZ k:=⟨_,rfl⟩
   have Xg : TN 100 40 N7:=by rw [Sp];exact ⟨L8 k j_ (by omega),by simp [hZ,oG];omega⟩
   rw [← Sp] at ho;obtain ⟨D0,d0,rfl,-,-,-⟩:=id ho.read.1;obtain ⟨D1,d1,rfl,-,-,-⟩:=id ho.read.2.1;obtain ⟨D2,d2,rfl,-,-,-⟩:=id ho.read.2.2;have Fg : aa w6 w7:=ri;have tA : gB cb w3 w7:=gB.after PE.out Fg
   have Ma:=ph.out.assign tA (Sn.out.since Fg) ho (by have:=ph.out.box.lt;have:=PE.out.size;omega) lF sP zN.out
   obtain ⟨f3,f4,f5,f0,f1,f2⟩:=(ph.out.box.blk (tA.block pb ph.out.box.lt it)).cells;have Ff:=zh Ma
   have Mc : Hid (B ≤ (set3 w7 pb (.slice D0 N7.ends.length d0) (.slice D1 N7.ids.length d1) (.slice D2 N7.inputs.length d2)).heap.size):=by show _ ≤ _;rw [eH];exact Nat.le_trans zN.out tA.size
   have Hg7:=zh Xg;clear Ma Xg Sp ho ri Fg tA;go_wp2;go_meet
   case rel => exact ⟨_,_,_,N7,S7,Ff.out.mono (by omega),Hg7.out,Mc.out⟩
 case rest =>
  obtain ⟨ve,vi,vn,N1,S1,qt,ib,eF⟩:=hcut;obtain ⟨Fo,jN,rfl,-,-,-⟩:=id qt.own.read.1;obtain ⟨oS,oU,rfl,-,-,-⟩:=id qt.own.read.2.1;obtain ⟨wM,pZ,rfl,-,-,-⟩:=id qt.own.read.2.2;obtain ⟨w4,rfl⟩ : ∃ z,z = wc:=⟨_,rfl⟩
  have Sq:=zh qt;have Ph:=zh ib;have A_:=zh eF;clear qt ib eF ph zN EY;go_wp2_with fail;refine (nR cb A L c _ 3 w4 Sq.out.cur (by omega) (by omega)).mono ?_;rintro e w5 ⟨bb2,rfl,mY,tu⟩;have fP:=zh (Sq.out.seen tu mY lF sP A_.out);have nZ : Hid (B ≤ w5.heap.size):=Nat.le_trans A_.out tu.size;clear mY tu Sq A_
  go_upto_if 17 with (fail)
  go_cut [5] from 18 to 36 (fun _ wx => ∃ ve vi vn N S,Mb cb B pb A L c (P + 200000000000000200) w0 wx ve vi vn N S ∧ TN 100 40 N ∧ B ≤ wx.heap.size)
  case first =>
   cases bb2
   ·go_wp2;go_meet
    case rel => exact ⟨_,_,_,N1,S1,fP.out.mono (by omega),Ph.out,nZ.out⟩
   ·have dC : N1.inputs.length = N1.ends.length:=Ph.out.1.inputs
    have SG : 0 < N1.inputs.length:=by have:=Ph.out.2;omega
    have abz : N1.inputs.length ≤ 40:=by have:=Ph.out.1.ends;omega
    clear dC;obtain ⟨gI,rfl⟩:=fP.out.own.headIn SG;obtain ⟨-,-,x2,-,-,-⟩:=fP.out.box.cells;go_upto_region 6 with (fail);clear x2
    go_loopw [21] (fun i wr => ∃ (k : Nat) (N : am),k ≤ N1.inputs.length ∧ i = .int .i64 k ∧ Mb cb B pb A L c (P + 200000000000000100 + 2) w0 wr (.slice Fo N1.ends.length jN) (.slice oS N1.ids.length oU) (.slice (some ⟨gI,0,none⟩) N1.inputs.length pZ) N S1 ∧ TN 100 40 N ∧ N.inputs.length = N1.inputs.length ∧ B ≤ wr.heap.size) (fun i _ => N1.inputs.length - (intOf i).toNat)
    case atStart => exact ⟨0,N1,Nat.zero_le _,rfl,fP.out,Ph.out,rfl,nZ.out⟩
    case round =>
     obtain ⟨k,N,hk,rfl,hm,hg,hl,hz⟩:=hrel;have Hm:=zh hm;have Hg:=zh hg;have Hl:=zh hl;have Hz:=zh hz;clear hm hg hl hz
     by_cases hlt : k < N1.inputs.length
     ·have m3 : IntKind.i64.wrap ((k : Int) + 1) = (k : Int) + 1:=aL _ (by omega) (by omega);obtain ⟨-,-,x2,-,-,-⟩:=Hm.out.box.cells
      obtain ⟨y,c0⟩:=Hm.out.own.inCell (j:=k) (by rw [Hl.out];exact hlt)
      obtain ⟨f0,Gj⟩:=Hm.out.setIn (k:=k) 0 (by rw [Hl.out];exact hlt) lF
      have CK:=zh Gj;clear Gj;go_wp2;go_roundw
      case rel => exact ⟨k + 1,_,by omega,by first | rfl | go_num,CK.out,⟨Hg.out.1.setIn k 0,Hg.out.2⟩,by show (N.inputs.set k 0).length = _;rw [List.length_set];exact Hl.out,by rw [jv];exact Hz.out⟩
      case measure => simp [intOf];omega
     ·obtain ⟨wo,rfl⟩ : ∃ z,z = wr:=⟨_,rfl⟩
      have ot:=zh (show wo.cell? ⟨pb,2,none⟩ = some (.slice (some ⟨gI,0,none⟩) N1.inputs.length pZ) from Hm.out.box.cells.2.2.1);go_upto_region 10 with (fail);refine aI (fun W => W.cell? ⟨pb,2,none⟩ = some (.slice (some ⟨gI,0,none⟩) N1.inputs.length pZ)) 7 [false,false,false,false,false,false,true] (by kernel_rfl) (by kernel_rfl) (show (World.drew wo).cell? ⟨pb,2,none⟩ = some (.slice (some ⟨gI,0,none⟩) N1.inputs.length pZ) from ot.out) ?_
      simp only [d_,dO,zT]
      iterate 6 (apply bY rfl;(intro W hW;(have k0:=hW);go_simp;with_reducible rfl);simp only [zA])
      obtain ⟨W,dr⟩ : ∃ W,W = World.drew wo:=⟨_,rfl⟩
      rw [← dr];have hW:=(show (World.drew wo).cell? ⟨pb,2,none⟩ = some (.slice (some ⟨gI,0,none⟩) N1.inputs.length pZ) from ot.out);rw [← dr] at hW;have fV:=zh dr;clear dr;refine Or.inl ⟨rfl,?_⟩
      go_simp
      (with_reducible refine (ew cb A L c (P + 200000000000000100 + 2) N1.inputs.length W (by rw [fV.out];exact Hm.out.cur.since (ak (ad _))) (by omega) (by omega)).mono ?_)
      rintro e W' ⟨a,rfl,ha,iq,hC⟩;refine ⟨_,rfl,aD hW it _ hC,?_⟩
      replace hW:=aD hW it _ hC
      have oL : aa wo W:=(by rw [fV.out];exact ak (ad _))
      have kP:=((gB.refl cb wo).after oL).trans hC;have OA:=zh (Hm.out.seen kP iq lF sP Hz.out);have WN : Hid (B ≤ W'.heap.size):=Nat.le_trans Hz.out kP.size;have Er : a < N1.inputs.length:=(by omega)
      obtain ⟨y,c0⟩:=OA.out.own.inCell (j:=a) (by rw [Hl.out];exact Er)
      obtain ⟨f0,Gj⟩:=OA.out.setIn (k:=a) 1 (by rw [Hl.out];exact Er) lF
      have CK:=zh Gj;clear hC iq oL ha kP Gj
      (try simp only [zA])
      simp only [bA];go_wp2;go_meet
      case rel => exact ⟨_,_,_,_,S1,CK.out.mono (by omega),⟨Hg.out.1.setIn a 1,Hg.out.2⟩,by rw [jv];exact WN.out⟩
  case rest =>
   obtain ⟨ve,vi,vn,N2,S2,ly,oH,eD⟩:=hcut;obtain ⟨B1,b1,rfl,-,-,-⟩:=id ly.own.read.1;obtain ⟨BI,bI,rfl,-,-,-⟩:=id ly.own.read.2.1;obtain ⟨BN,bN,rfl,-,-,-⟩:=id ly.own.read.2.2;obtain ⟨w6,rfl⟩ : ∃ z,z = wc:=⟨_,rfl⟩
   have je:=zh ly;have xo:=zh oH;have Fw:=zh eD;clear ly oH eD fP nZ Ph;go_wp2_with fail;refine (nR cb A L c _ 2 w6 je.out.cur (by omega) (by omega)).mono ?_;rintro e w7 ⟨bb3,rfl,Md,tA⟩;have OA:=zh (je.out.seen tA Md lF sP Fw.out);have OE : Hid (B ≤ w7.heap.size):=Nat.le_trans Fw.out tA.size;clear Md tA je Fw
   go_upto_if 38 with (fail)
   go_cut [7] from 39 to 57 (fun _ wx => ∃ ve vi vn N S,Mb cb B pb A L c (P + 200000000000001000) w0 wx ve vi vn N S ∧ TN 100 40 N ∧ B ≤ wx.heap.size)
   case first =>
    cases bb3
    ·go_wp2;go_meet
     case rel => exact ⟨_,_,_,N2,S2,OA.out.mono (by omega),xo.out,OE.out⟩
    ·have Ol : N2.ends.length ≤ 40:=xo.out.1.ends;obtain ⟨yH,S8,Ma,Sc⟩:=OA.out.putIds (v':=.slice none 0 0) (ids':=[]) (kw _ _) (aU.refl _ _) (fun j hj => by simp at hj) lF sP OE.out
     obtain ⟨-,x1,-,-,f1,-⟩:=OA.out.box.cells;have Ff:=zh Ma
     have WP : Hid (B ≤ (w7.setCell ⟨pb,1,none⟩ (.slice none 0 0)).heap.size):=by show _ ≤ _;rw [jv];exact OE.out
     clear yH Ma Sc;go_upto_region 13 with (fail);obtain ⟨w8,rl⟩ : ∃ z,z = w7.setCell ⟨pb,1,none⟩ (.slice none 0 0):=⟨_,rfl⟩
     rw [← rl] at Ff WP ⊢;clear rl x1 f1;obtain ⟨x0,-,-,-,-,-⟩:=Ff.out.box.cells;go_wp2_with fail;refine (EH cb A L c _ N2.ends.length w8 Ff.out.cur (by omega) (by omega)).mono ?_;rintro e w9 ⟨og,xs,rfl,wt,Xh,wm,Gl⟩;have CK:=zh (Ff.out.seen Gl wm lF sP WP.out);have pY : Hid (B ≤ w9.heap.size):=Nat.le_trans WP.out Gl.size;have TB:=zh wt;have Wi:=zh Xh;have AG : xs.length = N2.ends.length:=wt.len.symm ▸ rfl
     have Sh : Hid (og ∉ S8 ∧ og ≠ pb ∧ cb < og ∧ og < w9.heap.size):=by
      have h1:=(World.ownsRow.lt wt og (by simp [Value.ownBlock]));have h2:=Ff.out.box.lt
      exact ⟨fun hj => by have:=(Ff.out.own.range _ hj).2;omega,by omega,by omega,h1.2⟩
     clear wt Xh wm Gl x0;have C5:=zh AG;clear AG;go_upto_region 14 with (fail)
     go_loopw [46] (fun i wr => ∃ (k : Nat) (vi : Value) (N : am) (S : List Nat),k ≤ N2.ends.length ∧ i = .int .i64 k ∧ Mb cb B pb A L c (P + 200000000000000200 + 2 + 200) w0 wr (.slice B1 N2.ends.length b1) vi (.slice BN N2.inputs.length bN) N S ∧ N.ends = N2.ends ∧ N.inputs = N2.inputs ∧ N.ids.length = k ∧ Own wr w8.heap.size (.slice (some ⟨og,0,none⟩) N2.ends.length N2.ends.length) xs ∧ B ≤ wr.heap.size ∧ og ∉ S) (fun i _ => N2.ends.length - (intOf i).toNat)
     case atStart => exact ⟨0,_,{ N2 with ids:=[] },S8,Nat.zero_le _,rfl,CK.out,rfl,rfl,rfl,TB.out,pY.out,Sh.out.1⟩
     case round =>
      obtain ⟨k,vi,N,S,hk,rfl,hm,WM,PM,zZ,wj,hz,lN⟩:=hrel;obtain ⟨oS,oU,rfl,-,-,-⟩:=id hm.own.read.2.1;rw [zZ] at hm;have Hm:=zh hm;have Hf:=zh (And.intro WM (And.intro PM zZ));have Fe:=zh wj;have Hz:=zh hz;have px:=zh lN;clear hm WM PM zZ wj hz lN
      by_cases hlt : k < N2.ends.length
      ·obtain ⟨x,hx⟩:=aW xs k (by rw [C5.out];exact hlt)
       have wE:=Wi.out x (List.mem_of_getElem? hx);have c0:=Fe.out.cell hx;have m3 : IntKind.i64.wrap ((k : Int) + 1) = (k : Int) + 1:=aL _ (by omega) (by omega)
       have Hl : Hid (N.ids.length + [x + 1].length ≤ 17592186044416):=by show _ ≤ _;have:=Hf.out.2.2;simp;omega
       have m1 : IntKind.i64.wrap (x + 1) = x + 1:=aL _ (by omega) (by omega);have pg : aa wr (wr.alloc (.cells #[.int .i64 (x + 1)] 3)):=ah _ (ad _);have WU:=zh (Hm.out.since pg lF sP Hz.out);have HoA:=zh (Fe.out.since pg);have WV : Hid (B ≤ (wr.alloc (.cells #[.int .i64 (x + 1)] 3)).heap.size):=Nat.le_trans Hz.out pg.below.size;obtain ⟨x0,x1,x2,f0,f1,f2⟩:=Hm.out.box.cells;have aY:=WU.out.ownIds.1.1;have vk:=zh aY;clear pg wE hx aY
       go_wp2_with (at_builtin;refine jh (base:=B) rfl _ _ rfl rfl vk.out rfl (rf _ _) Hl.out WV.out ?_;intro v' w9 T ix fQ PN;obtain ⟨V,mV,cV,rfl⟩:=gQ.one ix;obtain ⟨ne,S9,Gj,CI,PO,CJ⟩:=WU.out.idMore2 ix fQ PN lF sP WV.out HoA.out rfl ⟨px.out,Sh.out.2.1⟩;clear x0 x1 x2 f0 f1 f2 ix fQ PN;have aaV:=zh Gj;have Fx:=zh CI;have aaW:=zh PO;have LY:=zh CJ;clear Gj CI PO CJ;obtain ⟨x0,x1,x2,f0,f1,f2⟩:=ne.cells;clear ne)
       go_roundw
       case rel => exact ⟨k + 1,_,_,S9,by omega,by first | rfl | go_num,aaV.out,Hf.out.1,Hf.out.2.1,by have:=Hf.out.2.2;simp;omega,Fx.out,Nat.le_trans WV.out aaW.out,LY.out⟩
       case measure => simp [intOf];omega
      ·obtain ⟨wo,rfl⟩ : ∃ z,z = wr:=⟨_,rfl⟩
       go_wp2;go_meet
       case rel => exact ⟨_,_,_,N,S,Hm.out.mono (by omega),⟨xo.out.1.newIds Hf.out.1 Hf.out.2.1 (by have:=Hf.out.2.2;omega),by rw [Hf.out.1];exact xo.out.2⟩,Hz.out⟩
   case rest =>
    obtain ⟨ve,vi,vn,N,S,hm,hg,hz⟩:=hcut;obtain ⟨D0,d0,rfl,-,-,-⟩:=id hm.own.read.1;obtain ⟨D1,d1,rfl,-,-,-⟩:=id hm.own.read.2.1;obtain ⟨D2,d2,rfl,-,-,-⟩:=id hm.own.read.2.2;obtain ⟨w8,rfl⟩ : ∃ z,z = wc:=⟨_,rfl⟩
    obtain ⟨k0,k1,k2,-,-,-⟩:=hm.box.cells;have Hm:=zh hm;have Hg:=zh hg;have Hz:=zh hz;have Xc:=zh hm.own.read;clear hm hg hz OA OE xo;go_wp2_with fail;refine (wl cb A L c _ 100 40 _ _ _ N w8 Hm.out.cur (by omega) Xc.out Hg.out.1 Hg.out.2 (by omega) (by omega)).mono ?_;rintro e w9 ⟨ve9,vi9,vn9,N9,S9,rfl,ix,CL,wm,Gl⟩;obtain ⟨X0,x0,rfl,-,-,-⟩:=id ix.read.1;obtain ⟨X1,x1,rfl,-,-,-⟩:=id ix.read.2.1;obtain ⟨X2,x2,rfl,-,-,-⟩:=id ix.read.2.2;obtain ⟨wL,YF⟩ : ∃ z,z = w9.alloc (.cells #[.int .i64 1,.int .i64 1,.int .i64 2,.int .i64 2,.int .i64 3,.int .i64 3,.int .i64 4,.int .i64 5,.int .i64 0,.int .i64 6] 3):=⟨_,rfl⟩
    obtain ⟨gl,TA⟩ : ∃ z,z = w9.heap.size:=⟨_,rfl⟩
    have Xi : aa w9 wL:=by rw [YF];exact ah _ (ad _)
    have hoL : Own wL w9.heap.size (.slice (some ⟨gl,0,none⟩) 10 10) [1,1,2,2,3,3,4,5,0,6]:=by rw [YF,TA];exact jk w9 [1,1,2,2,3,3,4,5,0,6] (by simp [maxLen])
    have co : CB cb B w0 wL:=(Hm.out.far.trans (Gl.mono Hz.out)).trans (CB.of (Xi.below.mono (by have:=Hz.out;have:=Gl.size;omega)))
    have aaX:=zh co;have HoL:=zh hoL;have Fx:=zh (ix.keep Xi.below);have aaY:=zh (wm.since Xi);have L6:=zh CL;have HwL:=zh YF;have Hgl:=zh TA;have pY : Hid (B ≤ w8.heap.size ∧ w8.heap.size ≤ w9.heap.size ∧ w9.heap.size ≤ wL.heap.size):=⟨Hz.out,Gl.size,Xi.below.size⟩;clear YF TA Xi hoL co ix CL wm Gl k0 k1 k2;go_wp2_with fail;rw [← HwL.out];refine (ew cb A L c _ 12 wL aaY.out (by omega) (by omega)).mono ?_;rintro e wP ⟨y,rfl,hy,Xj,Xk⟩;rw [← Hgl.out];obtain ⟨q,hq⟩ : ∃ q,q = y / 9:=⟨_,rfl⟩
    obtain ⟨k,hk⟩ : ∃ k,k = 8 + q:=⟨_,rfl⟩
    have t1 : Int.tdiv (y : Int) 9 = (q : Int):=by rw [hq];rfl
    have t2 : (y : Int) / 9 = (q : Int):=by omega
    have t3 : IntKind.i64.wrap (q : Int) = (q : Int):=aL _ (by omega) (by omega)
    have t4 : IntKind.i64.wrap (8 + (q : Int)) = (k : Int):=by rw [aL _ (by omega) (by omega)];omega
    have abA : k ≤ 10:=by omega
    have hk8 : 8 ≤ k:=by omega
    have HoP:=zh (L9 (k:=k) (Own.seen HoL.out Xk (by have:=pY.out;omega)) (by simp;omega))
    have aaZ:=zh Xj
    have Xl:=zh (aaX.out.trans (Xk.mono (by have:=pY.out;omega)))
    have HoN:=zh (Fx.out.seen Xk (by have:=pY.out;omega))
    have HzP : Hid (wL.heap.size ≤ wP.heap.size):=Xk.size
    have Hkl : Hid (k = ([1,1,2,2,3,3,4,5,0,6].take k : List Int).length):=by show _ = _;rw [List.length_take];simp;omega
    clear hq hk hy Xj Xk;go_wp2_with fail
    refine (IN cb A L c _ w9.heap.size gl 10 k _ wP aaZ.out (by omega) HoP.out Hkl.out (by have:=pY.out;omega) (by rw [← Hkl.out];omega) (by rw [← Hkl.out];omega)).mono ?_
    rintro e wF ⟨z,rfl,Yd,Xm,hCF⟩
    have Xn : 0 ≤ z ∧ z ≤ 6:=by
     have h7:=List.mem_of_mem_take Yd;simp only [List.mem_cons,List.not_mem_nil,or_false] at h7;omega
    have co:=Xl.out.trans (hCF.mono (by have:=pY.out;have:=HzP.out;omega))
    have iQ:=co.blkN nP.out (by have:=iy.out;omega) (by omega)
    obtain ⟨e0,e1,e2,f0,f1,f2⟩:=iQ.box.cells
    have aY:=(HoN.out.seen hCF (by have:=pY.out;omega)).mono (show B ≤ w8.heap.size from pY.out.1)
    rw [iy.out] at aY co;have ez:=zh (gC pK.out aY Xm co iw);have Yr:=zh Xn;clear co iQ aY Xm hCF Yd Xn;go_wp2;refine bodyPost_ret (v:=.tuple #[.agg #[.slice X0 N9.ends.length x0,.slice X1 N9.ids.length x1,.slice X2 N9.inputs.length x2],.int .i64 z]) (by simp [results,Tryz.results67,go_sem, *]) rfl ?_;obtain ⟨r1,r2,r3⟩:=ez.out;exact ⟨_,_,_,N9,S9,z,rfl,r1,⟨L6.out,Yr.out⟩,r2.mono (by omega),r3⟩
section
variable {P : Program} {ops : Array Oper}
def n7 (P : Program) (o : Oper) (A : Act) (W : World) (post : Value → World → Prop) : Prop:=
 match (execOp A.eval o).run P W with
 | .ok (.value u) W' => post u W'
 | .ok .skip W' => post undef W'
 | .ok (.enter f args) W' => Calls P f args W' fun e mZ => ∃ u,e = .returned u ∧ post u mZ
 | _ => False
theorem c_ {o : Oper} {A : Act} {W W' : World} {u : Value} {post : Value → World → Prop} (h : (execOp A.eval o).run P W = .ok (.value u) W') (hp : post u W') : n7 P o A W post:=by
 unfold n7;rw [h];exact hp
theorem su {o : Oper} {A : Act} {W W' : World} {post : Value → World → Prop} (h : (execOp A.eval o).run P W = .ok .skip W') (hp : post undef W') : n7 P o A W post:=by
 unfold n7;rw [h];exact hp
theorem lk {o : Oper} {A : Act} {W W' : World} {f : FuncId} {args : Array Value} {post : Value → World → Prop} (h : (execOp A.eval o).run P W = .ok (.enter f args) W') (hp : Calls P f args W' fun e mZ => ∃ u,e = .returned u ∧ post u mZ) : n7 P o A W post:=by
 unfold n7;rw [h];exact hp
def Xo (ops : Array Oper) (k : Nat) (cs : List Nat) : Bool:=
 (List.range k).all fun i => match ops[i]? with
  | none => true
  | some o => match cs.findIdx? (fun x => x == i) with
   | none => true
   | some r => r == 0 || (match cs[r - 1]? with | some j => (bS o).contains j | none => false)
theorem xD {cs : List Nat} {i j r : Nat} (h : cs.findIdx? (fun x => x == i) = some r) (h' : cs.findIdx? (fun x => x == j) = some r) : i = j:=by
 obtain ⟨hr,h1,-⟩:=List.findIdx?_eq_some_iff_getElem.1 h;obtain ⟨ye,Fr,-⟩:=List.findIdx?_eq_some_iff_getElem.1 h';have e1 : cs[r] = i:=by simpa using h1
 have e2 : cs[r] = j:=by simpa using Fr
 omega
end
section
variable {P : Program} {ops : Array Oper}
theorem pk {Q : Exit → Act → World → Prop} {JB : Nat} {a : Act} {w : World} (k : Nat) (cs : List Nat) (R : Nat → Value → World → Prop) (Inv : Nat → World → Prop) (TH : World → World → Prop) (hrel : ∀ j u W W',TH W W' → R j u W → R j u W')
  (hm : P.follows .mixedOrders = true) (hf : tK ops k = true) (Dp : decide (k ≤ ops.size) = true) (hnd : cs.Nodup) (kq : Xo ops k cs = true) (h0 : Inv 0 w.drew)
  (fI : ∀ i o,i < k → ops[i]? = some o → ∀ V W q,Inv q W → (∀ r,cs.findIdx? (fun x => x == i) = some r → r = q) → (∀ d ∈ bS o,R d (V d) W) → Region.wanted o (yielded ops (cj ops (List.range k) V a).tmps) = true ∧ n7 P o (cj ops (List.range k) V a) W (fun u W' => Inv (if (cs.findIdx? (fun x => x == i)).isSome then q + 1 else q) W' ∧ TH W W' ∧ R i u W'))
  (tM : ∀ V W q,Inv q W → q ≤ cs.length → (∀ i r,i < k → cs.findIdx? (fun x => x == i) = some r → r < q) → (∀ j,j < k → R j (V j) W) → wpList P ops Q (ops.toList.drop k) (cj ops (List.range k) V a) W) : (Code.region JB ops true).wp P Q a w:=by
 have gD:=qg hf;have Dp:=of_decide_eq_true Dp
 have frame : ∀ V,aX a ops V (fun j => j < k) (cj ops (List.range k) V a):=fun V => by
  have:=mr (a:=a) gD.dsts Dp V (List.range k) (fun _ => False) a (fun _ h => h.elim) (fun j hj => ⟨List.mem_range.1 hj,id⟩) List.nodup_range (aX.start a V)
  exact this.same (fun j => by simp)
 have Xp : ∀ i o r,i < k → ops[i]? = some o → cs.findIdx? (fun x => x == i) = some r → r = 0 ∨ ∃ j ∈ bS o,cs.findIdx? (fun x => x == j) = some (r - 1):=by
  intro i o r hi ho hr;have h1:=List.all_eq_true.1 kq i (List.mem_range.2 hi);rw [ho] at h1;simp only [hr] at h1;rw [Bool.or_eq_true] at h1;rcases h1 with h1 | h1
  ·left;simpa using h1
  ·cases hj : cs[r - 1]? with
   | none => rw [hj] at h1;cases h1
   | some j =>
    rw [hj] at h1
    right
    refine ⟨j,by simpa using h1,?_⟩
    rw [List.findIdx?_eq_some_iff_getElem];have hlt:=aq hj
    have hge : cs[r - 1] = j:=by
     have:=List.getElem?_eq_getElem hlt
     rw [hj] at this;exact (Option.some.inj this).symm
    refine ⟨hlt,by simpa using hge,fun m hm => ?_⟩
    intro hc;have DA : cs[m] = j:=by simpa using hc
    have IB:=List.pairwise_iff_getElem.1 hnd m (r - 1) (by omega) hlt hm;exact IB (DA.trans hge.symm)
 let J : (Nat → Prop) → Act → World → Prop:=fun D a' W =>
  (∃ q,Inv q W ∧ q ≤ cs.length ∧ (∀ i r,cs.findIdx? (fun x => x == i) = some r → (D i ↔ r < q)) ∧ (∀ j,D j → j < k) ∧ ∃ V,aX a ops V D a' ∧ ∀ j,D j → R j (V j) W) ∨
  (∃ m,k ≤ m ∧ m ≤ ops.size ∧ (∀ j,j < ops.size → (D j ↔ j < m)) ∧ wpList P ops Q (ops.toList.drop m) a' W)
 have A4 : ∀ D a' W,J D a' W → (∀ j,j < k → D j) → ∃ m,k ≤ m ∧ m ≤ ops.size ∧ (∀ j,j < ops.size → (D j ↔ j < m)) ∧ wpList P ops Q (ops.toList.drop m) a' W:=by
  intro D a' W hJ hD;rcases hJ with ⟨q,hq,Mz,MB,om,V,i8,hV⟩ | hJ
  ·have e : a' = cj ops (List.range k) V a:=i8.ext (frame V) (fun j _ => ⟨om j,hD j⟩)
   subst e;exact ⟨k,Nat.le_refl _,Dp,fun j _ => ⟨om j,hD j⟩,tM V W q hq Mz (fun i r hi hr => (MB i r hr).1 (hD i hi)) (fun j hj => hV j (hD j hj))⟩
  ·exact hJ
 refine kB hm gD.back J (.inl ⟨0,h0,Nat.zero_le _,fun i r _ => ⟨fun h => h.elim,fun h => by omega⟩,fun j hj => hj.elim,fun _ => undef,aX.start a _,fun j hj => hj.elim⟩) ?_ ?_
 ·intro D a' W i o hJ ho oo iR kh;have dC : i < ops.size:=(Array.getElem?_eq_some_iff.1 ho).1
  by_cases jX : i < k
  ·rcases hJ with ⟨q,hq,Mz,MB,om,V,i8,hV⟩ | ⟨m,h1,h2,h3,_⟩
   rotate_left
   ·exact absurd ((h3 i dC).2 (by omega)) oo
   have UR : ∀ r,cs.findIdx? (fun x => x == i) = some r → r = q:=by
    intro r hr;have h1 : ¬ r < q:=fun h => oo ((MB i r hr).2 h)
    rcases Xp i o r jX ho hr with h2 | ⟨j,hj,h2⟩
    ·omega
    ·have:=(MB j _ h2).1 (iR j hj)
     omega
   obtain ⟨hw,gE⟩:=fI i o jX ho V W q hq UR (fun d hd => hV d (iR d hd))
   obtain ⟨he,wY⟩:=fC (ops:=ops) (a':=a') (A:=cj ops (List.range k) V a) (fun t ht => i8.agree (frame V) t (fun j oj hj fw hd => by
    have lO : j < k:=hj.elim (fun h => om j h) id
    exact ⟨iR j (gD.looks i o jX ho t ht j oj lO fw hd),lO⟩)) (fun cs b => gD.nosel i o cs b ho)
   have next : ∀ u W',Inv (if (cs.findIdx? (fun x => x == i)).isSome then q + 1 else q) W' → TH W W' → R i u W' → J (fun j => D j ∨ j = i) (a'.put o.dst u) W':=by
    intro u W' hI aa0 hRi;refine .inl ⟨_,hI,?_,fun i' r' ye => ?_,fun j hj => hj.elim (om j) (fun e => by omega),X5 V i u,?_,fun j hj => ?_⟩
    ·cases hr : cs.findIdx? (fun x => x == i) with
     | none => simpa using Mz
     | some r =>
      have:=UR r hr
      obtain ⟨hlt,-,-⟩:=List.findIdx?_eq_some_iff_getElem.1 hr
      simp;omega
    ·cases hr : cs.findIdx? (fun x => x == i) with
     | none =>
      simp only [Option.isSome_none,Bool.false_eq_true,if_false];constructor
      ·rintro (h | rfl)
       ·exact (MB i' r' ye).1 h
       ·rw [hr] at ye;cases ye
      ·exact fun h => .inl ((MB i' r' ye).2 h)
     | some r =>
      have hrq:=UR r hr;simp only [Option.isSome_some,if_true];constructor
      ·rintro (h | rfl)
       ·have:=(MB i' r' ye).1 h;omega
       ·rw [hr] at ye;cases ye;omega
      ·intro h
       by_cases h' : r' < q
       ·exact .inl ((MB i' r' ye).2 h')
       ·have e : r' = r:=by omega
        subst e;exact .inr (xD ye hr)
    ·have:=(i8.vals2 (v':=X5 V i u) (fun j _ hj => (Kj V u (fun e => by subst e;exact oo hj)).symm)).put (i:=i) ho (fun j oj d hj fw hd iz => by
      have:=gD.dsts i o jX ho j oj (om j hj) fw d hd iz
      subst this
      exact oo hj)
     rwa [BK] at this
    ·rcases hj with hj | rfl
     ·have m_ : j ≠ i:=fun e => by subst e;exact oo hj
      rw [Kj V u m_];exact hrel _ _ _ _ aa0 (hV j hj)
     ·rw [BK];exact hRi
   rw [if_pos (wY.trans hw)];refine .inl ?_;unfold Oper.wp;rw [he];unfold n7 at gE
   generalize (execOp (cj ops (List.range k) V a).eval o).run P W = r at gE ⊢
   cases r with
   | ok nx W' =>
    cases nx with
    | value u => exact next u W' gE.1 gE.2.1 gE.2.2
    | skip => exact next undef W' gE.1 gE.2.1 gE.2.2
    | enter f args =>
     simp only [Oper.upon]
     exact Calls.mono gE fun e mZ ⟨u,Da,h3,h4,h5⟩ => by subst Da;exact next u mZ h3 h4 h5
    | _ => exact gE.elim
   | halt x W' => exact gE.elim
  ·have bW : ∀ j,j < i → D j:=fun j hj => gy kh ho iR (gD.tail i (by omega) dC j hj)
   obtain ⟨m,h1,h2,h3,h4⟩:=A4 D a' W hJ (fun j hj => bW j (by omega))
   have yU : m = i:=by
    by_cases e1 : i < m
    ·exact absurd ((h3 i dC).2 e1) oo
    ·by_cases e2 : m < i
     ·have:=(h3 m (by omega)).1 (bW m e2);omega
     ·omega
   subst yU
   have Ft : ops.toList.drop m = o :: ops.toList.drop (m + 1):=by
    have : m < ops.toList.length:=by simpa using dC
    rw [List.drop_eq_getElem_cons this];congr 1
    have:=(Array.getElem?_eq_some_iff.1 ho).2
    simpa using this
   rw [Ft] at h4;unfold wpList at h4
   have next : ∀ a W,wpList P ops Q (ops.toList.drop (m + 1)) a W → J (fun j => D j ∨ j = m) a W:=fun a W h => .inr ⟨m + 1,by omega,by omega,fun j hj => by
    constructor
    ·rintro (h | rfl)
     ·have:=(h3 j hj).1 h;omega
     ·omega
    ·intro h
     by_cases e : j = m
     ·exact .inr e
     ·exact .inl ((h3 j hj).2 (by omega)),h⟩
   split
   ·rename_i hw
    rw [if_pos hw] at h4;exact h4.imp (Oper.wp_mono next) id
   ·rename_i hw
    rw [if_neg hw] at h4;exact next _ _ h4
 ·intro D a' W hJ bW;obtain ⟨m,h1,h2,h3,h4⟩:=A4 D a' W hJ (fun j hj => bW j (by omega))
  have TV : m = ops.size:=by
   by_cases e : m < ops.size
   ·have:=(h3 m e).1 (bW m e);omega
   ·omega
  subst TV;rw [List.drop_eq_nil_of_le (by simp)] at h4;exact h4
def RW (l : List (Value → World → Prop)) : Nat → Value → World → Prop:=fun j u W => match l[j]? with | some r => r u W | none => True
theorem RW.rel {l : List (Value → World → Prop)} {TH : World → World → Prop} (h : ∀ r ∈ l,∀ u W W',TH W W' → r u W → r u W') : ∀ j u W W',TH W W' → RW l j u W → RW l j u W':=by
 intro j u W W' hr hw
 unfold RW at hw ⊢
 cases e : l[j]? with
 | none => trivial
 | some r => rw [e] at hw;exact h r (List.mem_of_getElem? e) u W W' hr hw
end
structure C2 (cb rb : Nat) (W W' : World) : Prop where
 os : W'.os = W.os
 tape : W'.tape = W.tape
 output : W'.output = W.output
 size : W.heap.size ≤ W'.heap.size
 block : ∀ k,k < W.heap.size → k ≠ cb → k ≠ rb → W'.heap[k]? = W.heap[k]?
theorem C2.refl (cb rb : Nat) (W : World) : C2 cb rb W W:=⟨rfl,rfl,rfl,Nat.le_refl _,fun _ _ _ _ => rfl⟩
theorem C2.trans {cb rb : Nat} {a b d : World} (h : C2 cb rb a b) (k : C2 cb rb b d) : C2 cb rb a d:=
 ⟨k.os.trans h.os,k.tape.trans h.tape,k.output.trans h.output,Nat.le_trans h.size k.size,fun i hi hn lh => (k.block i (by have:=h.size;omega) hn lh).trans (h.block i hi hn lh)⟩
theorem C2.of {cb rb : Nat} {W W' : World} (h : gB cb W W') : C2 cb rb W W':=⟨h.os,h.tape,h.output,h.size,fun k hk hn _ => h.block k hk hn⟩
theorem C2.since {cb rb : Nat} {W W' : World} (h : aa W W') : C2 cb rb W W':=.of ((gB.refl cb W).after h)
theorem C2.set (cb rb : Nat) (W : World) (x y z : Value) : C2 cb rb W (set3 W rb x y z):=by
 have h : CB rb W.heap.size W (set3 W rb x y z):=(((CB.refl rb W.heap.size W).setCell (p:=⟨rb,0,none⟩) (.inr rfl) x).setCell (p:=⟨rb,1,none⟩) (.inr rfl) y).setCell (p:=⟨rb,2,none⟩) (.inr rfl) z;exact ⟨h.os,h.tape,h.output,h.size,fun k hk _ hn => h.block k hk hn⟩
theorem C2.own {cb rb B : Nat} {W W' : World} (h : C2 cb rb W W') (hc : cb < B) (hr : rb < B) {v : Value} {xs : List Int} (ho : Own W B v xs) : Own W' B v xs:=
 aO ho fun k hk => h.block k (World.ownsRow.lt ho k (by simpa using hk)).2 (by have:=(World.ownsRow.lt ho k (by simpa using hk)).1;omega) (by have:=(World.ownsRow.lt ho k (by simpa using hk)).1;omega)
theorem C2.net {cb rb B : Nat} {W W' : World} (h : C2 cb rb W W') (hc : cb < B) (hr : rb < B) {ve vi vn : Value} {N : am} {S : List Nat} (ho : aA W B ve vi vn N S) : aA W' B ve vi vn N S:=
 ho.stable fun k hk => h.block k (ho.range k hk).2 (by have:=(ho.range k hk).1;omega) (by have:=(ho.range k hk).1;omega)
theorem C2.cell {cb rb : Nat} {W W' : World} (h : C2 cb rb W W') {p : Addr} {v : Value} (hp : W.cell? p = some v) (h1 : p.block ≠ cb) (h2 : p.block ≠ rb) : W'.cell? p = some v:=by
 rw [World.cell?_of_block (w:=W) (h.block p.block (tn hp) h1 h2)];exact hp
theorem C2.below {cb rb B : Nat} {w W W' : World} (h : C2 cb rb W W') (h0 : Below B w W) (hB : B ≤ rb) (hc : B ≤ cb) (hz : B ≤ W.heap.size) : Below B w W':=
 Below.trans h0 ⟨h.os,h.tape,h.output,h.size,fun k hk => h.block k (by omega) (by omega) (by omega)⟩
def jW (B : Nat) (xs : List Int) (u : Value) (W : World) : Prop:=∃ g q,u = .slice (some ⟨g,0,none⟩) xs.length q ∧ Own W B u xs
theorem jW.rel {cb rb B : Nat} (hc : cb < B) (hr : rb < B) {xs : List Int} : ∀ u W W',C2 cb rb W W' → jW B xs u W → jW B xs u W':=by
 rintro u W W' h ⟨g,q,h1,h2⟩;exact ⟨g,q,h1,h.own hc hr h2⟩
theorem jW.new {B : Nat} (W : World) (xs : List Int) (hm : xs.length ≤ maxLen) (hB : B ≤ W.heap.size) : jW B xs (.slice (some ⟨W.heap.size,0,none⟩) xs.length xs.length) (W.alloc (.cells (xs.map (Value.int .i64)).toArray 3)):=
 ⟨_,_,rfl,(jk W xs hm).mono hB⟩
def yK (xs : List Int) (u : Value) (_ : World) : Prop:=∃ x,u = .int .i64 x ∧ x ∈ xs
def ws (v : Value) (u : Value) (_ : World) : Prop:=u = v
structure p8 (cb rb : Nat) (A : Option Addr) (L c P0 K nc : Nat) (wS : World) (T : World → Prop) (q : Nat) (W : World) : Prop where
 cur : q ≤ nc → dQ W cb A L c (P0 + K * q)
 rel : C2 cb rb wS W
 box : q ≤ nc → bQ W rb (.slice none 0 0) (.slice none 0 0) (.slice none 0 0)
 done : nc < q → T W
section
variable {cb rb : Nat} {A : Option Addr} {L c P0 K nc : Nat} {wS W W' : World} {T : World → Prop} {q : Nat}
theorem p8.start (hc : dQ wS cb A L c P0) (hb : bQ wS rb (.slice none 0 0) (.slice none 0 0) (.slice none 0 0)) (hs : aa wS W) : p8 cb rb A L c P0 K nc wS T 0 W:=
 ⟨fun _ => hc.since hs,C2.since hs,fun _ => hb.since hs,fun h => by omega⟩
theorem p8.since (h : p8 cb rb A L c P0 K nc wS T q W) (hs : aa W W') (hT : ∀ W W',aa W W' → T W → T W') : p8 cb rb A L c P0 K nc wS T q W':=
 ⟨fun hq => (h.cur hq).since hs,h.rel.trans (C2.since hs),fun hq => (h.box hq).since hs,fun hq => hT _ _ hs (h.done hq)⟩
theorem p8.call (h : p8 cb rb A L c P0 K nc wS T q W) (hq : q < nc) (hC : CB cb W.heap.size W W') {P' : Nat} (iq : dQ W' cb A L c P') (hP : P' ≤ P0 + K * q + K) (hn : rb ≠ cb) : p8 cb rb A L c P0 K nc wS T (q + 1) W':=
 ⟨fun _ => iq.mono (by rw [Nat.mul_add];omega),h.rel.trans (C2.of hC),fun _ => (hC.block _ (h.box (by omega)).lt hn).trans (h.box (by omega)),fun h => by omega⟩
theorem p8.store (h : p8 cb rb A L c P0 K nc wS T q W) (hq : q = nc) {x y z : Value} (hT : T (set3 W rb x y z)) : p8 cb rb A L c P0 K nc wS T (q + 1) (set3 W rb x y z):=
 ⟨fun h => by omega,h.rel.trans (C2.set _ _ _ _ _ _),fun h => by omega,fun _ => hT⟩
end
theorem bQ.set3 {W : World} {b : Nat} {x y z : Value} (h : bQ W b x y z) (x' y' z' : Value) : bQ (Go.Proofs.YtgmdpppljkmabaaGreat.set3 W b x' y' z') b x' y' z':=by
 unfold Go.Proofs.YtgmdpppljkmabaaGreat.set3;exact ((h.put0 _).put1 _).put2 _
def Xq (w : World) (T : am → Int → Int → Prop) (e : Ending) (w' : World) : Prop:=
 ∃ ve vi vn N S,∃ x y : Int,e = .returned (.tuple #[.agg #[ve,vi,vn],.int .i64 x,.int .i64 y]) ∧ aA w' w.heap.size ve vi vn N S ∧ T N x y ∧ Below w.heap.size w w'
theorem CM {xs : List Int} {b x : Int} (h : x ∈ xs) (hb : ∀ y ∈ xs,-b ≤ y ∧ y ≤ b) : -b ≤ x ∧ x ≤ b:=hb x h
theorem oV (v : Value) (L : Nat) (w : World) (h : PS w v L) (hL : L ≤ 1048576) :
  Calls Tryz.prog 28 #[v] w (Xq w fun N x y => Bd N ∧ (-1000000 ≤ x ∧ x ≤ 1000000) ∧ (-1000000 ≤ y ∧ y ≤ 1000000)):=by
 obtain ⟨A,c,rfl,Xe,MZ,Xr⟩:=h;obtain ⟨w0,ck⟩ : ∃ z,z = w.alloc (.cells #[.slice none 0 0,.slice none 0 0,.slice none 0 0] 27):=⟨_,rfl⟩
 have cX : aa w w0:=by rw [ck];exact ah _ (ad _)
 have kg : w0.heap.size = w.heap.size + 1:=by rw [ck];simp
 have kq : bQ w0 w.heap.size (.slice none 0 0) (.slice none 0 0) (.slice none 0 0):=by
  rw [ck];show (w.heap.push _)[w.heap.size]? = _
  rw [Array.getElem?_push_size]
 obtain ⟨w1,py⟩ : ∃ z,z = w0.alloc (.cells #[.slice A L c,.int .i64 0,.int .u64 0] 78):=⟨_,rfl⟩
 obtain ⟨cb,Fh⟩ : ∃ z,z = w0.heap.size:=⟨_,rfl⟩
 have dm : aa w0 w1:=by rw [py];exact ah _ (ad _)
 have zV : w1.heap[cb]? = some (.cells #[.slice A L c,.int .i64 0,.int .u64 0] 78):=by
  rw [py,Fh];show (w0.heap.push _)[w0.heap.size]? = _
  rw [Array.getElem?_push_size]
 have On:=zh (Gm Xr (cX.after dm) (by omega) zV hL Xe);have nP:=zh (kq.since dm);have gh:=zh (cX.after dm);have dh:=zh ck;have Q_:=zh py;have Tn : Hid (cb = w0.heap.size):=Fh
 have Hz : Hid (w0.heap.size = w.heap.size + 1 ∧ w1.heap.size = w.heap.size + 1 + 1 ∧ cb = w.heap.size + 1):=⟨kg,by rw [py];simp;omega,by omega⟩
 clear Xr cX kq dm zV ck py Fh kg
 go_enter Tryz.func28,Tryz.ntmps28
 go_upto_region 1 with (fail);rw [← dh.out];go_upto_region 2 with (fail);rw [← Q_.out,← Tn.out];go_wp2_with fail;refine (E9 cb A L c 0 7 40 w1 On.out (by omega) (by omega) (by omega) (by omega)).mono ?_;rintro e w3 ⟨ve,vi,vn,N0,S0,rfl,ho,⟨CP,SX⟩,rh,kP⟩;obtain ⟨A1,c1,rfl,-,k9,-⟩:=id ho.read.1;obtain ⟨AI,cI,rfl,-,-,-⟩:=id ho.read.2.1;obtain ⟨AN,cN,rfl,-,-,-⟩:=id ho.read.2.2;obtain ⟨w4,gZ⟩ : ∃ z,z = w3.alloc (.cells #[.slice A1 N0.ends.length c1,.slice AI N0.ids.length cI,.slice AN N0.inputs.length cN] 27):=⟨_,rfl⟩
 obtain ⟨pb,fo⟩ : ∃ z,z = w3.heap.size:=⟨_,rfl⟩
 have MJ : aa w3 w4:=by rw [gZ];exact ah _ (ad _)
 have hmb : Mb cb w1.heap.size pb A L c (0 + 72057594037927936) w1 w4 (.slice A1 N0.ends.length c1) (.slice AI N0.ids.length cI) (.slice AN N0.inputs.length cN) N0 S0:=
  ⟨ho.keep MJ.below,by rw [gZ,fo];exact bH.new _ _ _ _ _,fun hj => by have:=(ho.range _ hj).2;omega,rh.since MJ,kP.trans (CB.of (MJ.below.mono kP.size))⟩
 have qe:=zh hmb
 have eA : Hid (w1.heap.size ≤ pb ∧ pb < w4.heap.size):=⟨by rw [fo];exact kP.size,by rw [gZ,fo];simp⟩
 have xC : Hid (w1.heap.size ≤ w4.heap.size):=Nat.le_trans kP.size MJ.below.size;have FL:=zh gZ;have nY:=zh fo;have N_:=zh (CP.bd (by omega) (by omega))
 have lF : cb < w1.heap.size:=by have:=Hz.out;omega
 clear hmb gZ fo CP SX ho rh kP MJ;go_upto_region 3 with (fail);rw [← FL.out,← nY.out];go_wp2_with fail;refine (nR cb A L c _ 2 w4 qe.out.cur (by omega) (by omega)).mono ?_;rintro e w5 ⟨bb,rfl,mY,tu⟩;have fP:=zh (qe.out.seen tu mY lF eA.out.1 xC.out);have nZ : Hid (w1.heap.size ≤ w5.heap.size):=Nat.le_trans xC.out tu.size;clear mY tu
 go_upto_if 13 with (fail)
 go_cut [] from 14 to 17 (fun wx => ∃ ve vi vn N S,Mb cb w1.heap.size pb A L c 500000000000000000 w1 wx ve vi vn N S ∧ Bd N ∧ w1.heap.size ≤ wx.heap.size)
 case first =>
  cases bb
  ·go_wp2;go_meet
   case rel => exact ⟨_,_,_,N0,S0,fP.out.mono (by omega),N_.out,nZ.out⟩
  ·go_wp2_with fail;refine (ew cb A L c _ 9 w5 fP.out.cur (by omega) (by omega)).mono ?_;rintro e w6 ⟨x,rfl,hx,gn,lK⟩;obtain ⟨k,hk⟩ : ∃ k : Nat,k = x + 1:=⟨_,rfl⟩
   have m1 : IntKind.i64.wrap (1 + (x : Int)) = (k : Int):=by rw [aL _ (by omega) (by omega)];omega
   have j_ : 1 ≤ k:=by omega
   have mL : k ≤ 10:=by omega
   have Sn:=zh gn;have PE:=zh lK;have Hk:=zh hk;clear hx gn lK hk;go_wp2_with fail;refine (ss k j_ (by omega) w6).mono ?_;rintro e w7 ⟨ve,vi,vn,S7,rfl,ho,ri⟩;obtain ⟨N7,Sp⟩ : ∃ z,z = hZ k:=⟨_,rfl⟩
   have Xg : Gd 100 40 N7:=by rw [Sp];exact L8 k j_ (by omega)
   rw [← Sp] at ho;obtain ⟨D0,d0,rfl,-,-,-⟩:=id ho.read.1;obtain ⟨D1,d1,rfl,-,-,-⟩:=id ho.read.2.1;obtain ⟨D2,d2,rfl,-,-,-⟩:=id ho.read.2.2;have Fg : aa w6 w7:=ri;have tA : gB cb w5 w7:=gB.after PE.out Fg
   have Ma:=fP.out.assign tA (Sn.out.since Fg) ho (by have:=fP.out.box.lt;have:=PE.out.size;omega) lF eA.out.1 nZ.out
   obtain ⟨-,-,-,f0,f1,f2⟩:=(fP.out.box.blk (tA.block pb fP.out.box.lt (by have:=eA.out;omega))).cells
   obtain ⟨f3,f4,f5,-,-,-⟩:=(fP.out.box.blk (tA.block pb fP.out.box.lt (by have:=eA.out;omega))).cells
   have Ff:=zh Ma
   have Mc : Hid (w1.heap.size ≤ (set3 w7 pb (.slice D0 N7.ends.length d0) (.slice D1 N7.ids.length d1) (.slice D2 N7.inputs.length d2)).heap.size):=by show _ ≤ _;rw [eH];exact Nat.le_trans nZ.out tA.size
   have Sr:=zh (Xg.bd (by omega) (by omega));clear Ma Xg Sp ho ri Fg tA;go_wp2;go_meet
   case rel => exact ⟨_,_,_,N7,S7,Ff.out.mono (by omega),Sr.out,Mc.out⟩
 case rest =>
  obtain ⟨ve,vi,vn,N1,S1,k9,Xs,eF⟩:=hcut;obtain ⟨Fo,jN,rfl,-,-,-⟩:=id k9.own.read.1;obtain ⟨oS,oU,rfl,-,-,-⟩:=id k9.own.read.2.1;obtain ⟨wM,pZ,rfl,-,-,-⟩:=id k9.own.read.2.2;have Sq:=zh k9;have Xt:=zh Xs;have A_:=zh eF;obtain ⟨w4',rfl⟩ : ∃ z,z = wc:=⟨_,rfl⟩
  clear k9 Xs eF
  have it : pb ≠ cb:=by have:=eA.out;omega
  have sP : w1.heap.size ≤ pb:=eA.out.1;clear qe xC fP nZ N_ FL nY;go_wp2_with fail;refine (nR cb A L c _ 4 w4' Sq.out.cur (by omega) (by omega)).mono ?_;rintro e w5' ⟨bb2,rfl,mY,tu⟩;have fP:=zh (Sq.out.seen tu mY lF sP A_.out);have nZ : Hid (w1.heap.size ≤ w5'.heap.size):=Nat.le_trans A_.out tu.size;clear mY tu
  go_upto_if 19 with (fail)
  go_cut [] from 20 to 21 (fun wx => ∃ ve vi vn N S,Mb cb w1.heap.size pb A L c 800000000000000000 w1 wx ve vi vn N S ∧ Bd N ∧ w1.heap.size ≤ wx.heap.size)
  case first =>
   cases bb2
   ·go_wp2;go_meet
    case rel => exact ⟨_,_,_,N1,S1,fP.out.mono (by omega),Xt.out,nZ.out⟩
   ·go_wp2_with fail;refine (L4 cb A L c _ 6 38 w5' fP.out.cur (by omega) (by omega) (by omega) (by omega)).mono ?_;rintro e w7 ⟨ve,vi,vn,N7,S7,rfl,ho,Xu,Md,tA⟩;obtain ⟨D0,d0,rfl,-,-,-⟩:=id ho.read.1;obtain ⟨D1,d1,rfl,-,-,-⟩:=id ho.read.2.1;obtain ⟨D2,d2,rfl,-,-,-⟩:=id ho.read.2.2;have Ma:=fP.out.assign tA Md ho fP.out.box.lt lF sP nZ.out;obtain ⟨f3,f4,f5,f0,f1,f2⟩:=(fP.out.box.blk (tA.block pb fP.out.box.lt it)).cells;have Ff:=zh Ma
    have Mc : Hid (w1.heap.size ≤ (set3 w7 pb (.slice D0 N7.ends.length d0) (.slice D1 N7.ids.length d1) (.slice D2 N7.inputs.length d2)).heap.size):=by show _ ≤ _;rw [eH];exact Nat.le_trans nZ.out tA.size
    have Sr:=zh Xu;clear Ma ho Xu Md tA;go_wp2;go_meet
    case rel => exact ⟨_,_,_,N7,S7,Ff.out.mono (by omega),Sr.out,Mc.out⟩
  case rest =>
   obtain ⟨ve,vi,vn,N,S,hm,I_,hz⟩:=hcut;obtain ⟨D0,d0,rfl,-,-,-⟩:=id hm.own.read.1;obtain ⟨D1,d1,rfl,-,-,-⟩:=id hm.own.read.2.1;obtain ⟨D2,d2,rfl,-,-,-⟩:=id hm.own.read.2.2;obtain ⟨w7,rfl⟩ : ∃ z,z = wc:=⟨_,rfl⟩
   obtain ⟨P7,Xv⟩ : ∃ z,z = 800000000000000000:=⟨_,rfl⟩
   have Xw : Hid (P7 ≤ 4000000000000000000):=by show _ ≤ _;omega
   have LW : Hid (dQ w7 cb A L c P7):=by show dQ _ _ _ _ _ _;rw [Xv];exact hm.cur
   have Su : Hid (bQ w7 w.heap.size (.slice none 0 0) (.slice none 0 0) (.slice none 0 0)):=(hm.far.block _ (by have:=Hz.out;omega) (by have:=Hz.out;omega)).trans nP.out
   have Me : Hid (w7.heap.size ≤ w7.heap.size):=Nat.le_refl _
   have th : Hid (cb < w7.heap.size ∧ w.heap.size < w7.heap.size):=⟨by omega,by have:=Hz.out;omega⟩
   have HY : Hid (∀ W,C2 cb w.heap.size w7 W → W.cell? ⟨pb,0,none⟩ = some (.slice D0 N.ends.length d0) ∧ W.cell? ⟨pb,1,none⟩ = some (.slice D1 N.ids.length d1) ∧ W.cell? ⟨pb,2,none⟩ = some (.slice D2 N.inputs.length d2)):=fun W hW => by
    have IB : pb ≠ w.heap.size:=by have:=Hz.out;omega
    obtain ⟨k0,k1,k2,-,-,-⟩:=hm.box.cells;exact ⟨hW.cell k0 it IB,hW.cell k1 it IB,hW.cell k2 it IB⟩
   have vk:=zh hm.own;have N_:=zh I_
   have kU : Hid (Below w.heap.size w w7):=Below.trans gh.out.below ((hm.far.mono (by have:=Hz.out;omega)).below (by have:=Hz.out;omega))
   clear hm I_ hz Xv fP nZ Sq Xt A_;go_upto_region 7 with (fail);refine pk 10 [3,6,7] (RW [ws (.agg #[.slice D0 N.ends.length d0,.slice D1 N.ids.length d1,.slice D2 N.inputs.length d2]),ws (.pointer (some ⟨cb,0,none⟩)),jW w7.heap.size [3,3,4,5,40,41,2],yK [3,3,4,5,40,41,2],ws (.pointer (some ⟨cb,0,none⟩)),jW w7.heap.size [0,1,10,100,2000,2000,3000,200001,(-1)],yK [0,1,10,100,2000,2000,3000,200001,(-1)],fun _ _ => True,yK [3,3,4,5,40,41,2],yK [0,1,10,100,2000,2000,3000,200001,(-1)]]) (p8 cb w.heap.size A L c (P7) (2) 2 w7 (fun W => bQ W w.heap.size (.slice D0 N.ends.length d0) (.slice D1 N.ids.length d1) (.slice D2 N.inputs.length d2))) (C2 cb w.heap.size) (RW.rel ?_) (by kernel_rfl) (by kernel_rfl) (by kernel_rfl) (by decide) (by kernel_rfl) (p8.start LW.out Su.out (ak (ad _))) ?_ ?_
   ·intro r hr;simp only [List.mem_cons,List.not_mem_nil,or_false] at hr;rcases hr with rfl | rfl | rfl | rfl | rfl | rfl | rfl | rfl | rfl | rfl
    ·exact fun _ _ _ _ h => h
    ·exact fun _ _ _ _ h => h
    ·exact jW.rel th.out.1 th.out.2
    ·exact fun _ _ _ _ h => h
    ·exact fun _ _ _ _ h => h
    ·exact jW.rel th.out.1 th.out.2
    ·exact fun _ _ _ _ h => h
    ·exact fun _ _ _ _ h => h
    ·exact fun _ _ _ _ h => h
    ·exact fun _ _ _ _ h => h
   ·intro i o hi ho V W q hq hr hd
    match i,ho with
    | 0,ho =>
     cases ho;clear hd hi hr;refine ⟨rfl,?_⟩;simp only [cj,zR10,zG]
     (try simp only [zA])
     obtain ⟨k0,k1,k2⟩:=HY.out W hq.rel;refine c_ (u:=.agg #[.slice D0 N.ends.length d0,.slice D1 N.ids.length d1,.slice D2 N.inputs.length d2]) (W':=W) (by go_simp) ⟨hq,C2.refl _ _ _,rfl⟩
    | 1,ho =>
     cases ho;clear hd hi hr;refine ⟨rfl,?_⟩;simp only [cj,zR10,zG]
     (try simp only [zA])
     refine c_ (u:=.pointer (some ⟨cb,0,none⟩)) (W':=W) (by go_simp) ⟨hq,C2.refl _ _ _,rfl⟩
    | 2,ho =>
     cases ho;clear hd hi hr;refine ⟨rfl,?_⟩;simp only [cj,zR10,zG]
     (try simp only [zA])
     refine c_ (u:=.slice (some ⟨W.heap.size,0,none⟩) 7 7) (W':=W.alloc (.cells #[.int .i64 3,.int .i64 3,.int .i64 4,.int .i64 5,.int .i64 40,.int .i64 41,.int .i64 2] 3)) (by go_simp) ⟨hq.since (ah _ (ad _)) (fun _ _ hs hT => hT.since hs),C2.since (ah _ (ad _)),jW.new W [3,3,4,5,40,41,2] (by simp [maxLen]) (Nat.le_trans Me.out hq.rel.size)⟩
    | 3,ho =>
     cases ho;have e1 : (ws (.pointer (some ⟨cb,0,none⟩))) (V 1) W:=hd 1 (by decide +kernel);have e2 : (jW w7.heap.size [3,3,4,5,40,41,2]) (V 2) W:=hd 2 (by decide +kernel);have na : Hid (0 = q):=hr 0 rfl;clear hd hi hr;refine ⟨rfl,?_⟩;simp only [cj,zR10,zG]
     (try simp only [zA])
     have e1 : V 1 = _:=e1;rw [e1];clear e1;obtain ⟨g,qq,hg,aY⟩:=e2;have hg : V 2 = .slice (some ⟨g,0,none⟩) 7 qq:=hg;rw [hg] at aY ⊢;clear hg;refine lk (f:=68) (args:=#[.pointer (some ⟨cb,0,none⟩),.slice (some ⟨g,0,none⟩) 7 qq]) (W':=W) (by go_simp) ?_
     refine (oA cb A L c (P7 + 2 * q) w7.heap.size g qq [3,3,4,5,40,41,2] W (hq.cur (by have:=na.out;omega)) (by have:=Xw.out;have:=na.out;omega) aY th.out.1 (by simp) (by simp)).mono ?_
     rintro e W' ⟨z,rfl,hz,iq,hC⟩
     exact ⟨_,rfl,hq.call (by have:=na.out;omega) hC iq (by omega) (by have:=Hz.out;omega),C2.of hC,z,rfl,hz⟩
    | 4,ho =>
     cases ho;clear hd hi hr;refine ⟨rfl,?_⟩;simp only [cj,zR10,zG]
     (try simp only [zA])
     refine c_ (u:=.pointer (some ⟨cb,0,none⟩)) (W':=W) (by go_simp) ⟨hq,C2.refl _ _ _,rfl⟩
    | 5,ho =>
     cases ho;clear hd hi hr;refine ⟨rfl,?_⟩;simp only [cj,zR10,zG]
     (try simp only [zA])
     refine c_ (u:=.slice (some ⟨W.heap.size,0,none⟩) 9 9) (W':=W.alloc (.cells #[.int .i64 0,.int .i64 1,.int .i64 10,.int .i64 100,.int .i64 2000,.int .i64 2000,.int .i64 3000,.int .i64 200001,.int .i64 (-1)] 3)) (by go_simp) ⟨hq.since (ah _ (ad _)) (fun _ _ hs hT => hT.since hs),C2.since (ah _ (ad _)),jW.new W [0,1,10,100,2000,2000,3000,200001,(-1)] (by simp [maxLen]) (Nat.le_trans Me.out hq.rel.size)⟩
    | 6,ho =>
     cases ho;have e4 : (ws (.pointer (some ⟨cb,0,none⟩))) (V 4) W:=hd 4 (by decide +kernel);have e5 : (jW w7.heap.size [0,1,10,100,2000,2000,3000,200001,(-1)]) (V 5) W:=hd 5 (by decide +kernel);have na : Hid (1 = q):=hr 1 rfl;clear hd hi hr;refine ⟨rfl,?_⟩;simp only [cj,zR10,zG]
     (try simp only [zA])
     have e4 : V 4 = _:=e4;rw [e4];clear e4;obtain ⟨g,qq,hg,aY⟩:=e5;have hg : V 5 = .slice (some ⟨g,0,none⟩) 9 qq:=hg;rw [hg] at aY ⊢;clear hg;refine lk (f:=68) (args:=#[.pointer (some ⟨cb,0,none⟩),.slice (some ⟨g,0,none⟩) 9 qq]) (W':=W) (by go_simp) ?_
     refine (oA cb A L c (P7 + 2 * q) w7.heap.size g qq [0,1,10,100,2000,2000,3000,200001,(-1)] W (hq.cur (by have:=na.out;omega)) (by have:=Xw.out;have:=na.out;omega) aY th.out.1 (by simp) (by simp)).mono ?_
     rintro e W' ⟨z,rfl,hz,iq,hC⟩
     exact ⟨_,rfl,hq.call (by have:=na.out;omega) hC iq (by omega) (by have:=Hz.out;omega),C2.of hC,z,rfl,hz⟩
    | 7,ho =>
     cases ho;have e0 : (ws (.agg #[.slice D0 N.ends.length d0,.slice D1 N.ids.length d1,.slice D2 N.inputs.length d2])) (V 0) W:=hd 0 (by decide +kernel);have na : Hid (2 = q):=hr 2 rfl;clear hd hi hr;refine ⟨rfl,?_⟩;simp only [cj,zR10,zG]
     (try simp only [zA])
     have e0 : V 0 = _:=e0;rw [e0];clear e0
     obtain ⟨g0,g1,g2,f0,f1,f2⟩:=(hq.box (by have:=na.out;omega)).box.cells
     refine su (W':=set3 W w.heap.size (.slice D0 N.ends.length d0) (.slice D1 N.ids.length d1) (.slice D2 N.inputs.length d2)) (by unfold set3;go_simp) ⟨hq.store (by have:=na.out;omega) ((hq.box (by have:=na.out;omega)).set3 _ _ _),C2.set _ _ _ _ _ _,trivial⟩
    | 8,ho =>
     cases ho;have e3 : (yK [3,3,4,5,40,41,2]) (V 3) W:=hd 3 (by decide +kernel);clear hd hi hr;refine ⟨rfl,?_⟩;simp only [cj,zR10,zG]
     (try simp only [zA])
     obtain ⟨z,hz,Pb⟩:=e3;rw [hz];clear hz;refine c_ (u:=.int .i64 z) (W':=W) (by go_simp) ⟨hq,C2.refl _ _ _,z,rfl,Pb⟩
    | 9,ho =>
     cases ho;have e6 : (yK [0,1,10,100,2000,2000,3000,200001,(-1)]) (V 6) W:=hd 6 (by decide +kernel);clear hd hi hr;refine ⟨rfl,?_⟩;simp only [cj,zR10,zG]
     (try simp only [zA])
     obtain ⟨z,hz,Pb⟩:=e6;rw [hz];clear hz;refine c_ (u:=.int .i64 z) (W':=W) (by go_simp) ⟨hq,C2.refl _ _ _,z,rfl,Pb⟩
    | i + 10,ho => omega
   intro V W q hq Mz bW hV;have MV : 2 < q:=bW 7 2 (by omega) rfl;have e0 : (ws (.agg #[.slice D0 N.ends.length d0,.slice D1 N.ids.length d1,.slice D2 N.inputs.length d2])) (V 0) W:=hV 0 (by decide);have e1 : (ws (.pointer (some ⟨cb,0,none⟩))) (V 1) W:=hV 1 (by decide);have e2 : (jW w7.heap.size [3,3,4,5,40,41,2]) (V 2) W:=hV 2 (by decide);have e3 : (yK [3,3,4,5,40,41,2]) (V 3) W:=hV 3 (by decide);have e4 : (ws (.pointer (some ⟨cb,0,none⟩))) (V 4) W:=hV 4 (by decide);have e5 : (jW w7.heap.size [0,1,10,100,2000,2000,3000,200001,(-1)]) (V 5) W:=hV 5 (by decide);have e6 : (yK [0,1,10,100,2000,2000,3000,200001,(-1)]) (V 6) W:=hV 6 (by decide);have e7 : (fun _ _ => True) (V 7) W:=hV 7 (by decide)
   have e8 : (yK [3,3,4,5,40,41,2]) (V 8) W:=hV 8 (by decide);have e9 : (yK [0,1,10,100,2000,2000,3000,200001,(-1)]) (V 9) W:=hV 9 (by decide);clear hV bW;have e0 : V 0 = _:=e0;have e1 : V 1 = _:=e1;obtain ⟨g2,q2,e2,-⟩:=e2;obtain ⟨z3,e3,b3⟩:=e3;have e4 : V 4 = _:=e4;obtain ⟨g5,q5,e5,-⟩:=e5;obtain ⟨z6,e6,b6⟩:=e6;obtain ⟨z8,e8,b8⟩:=e8;obtain ⟨z9,e9,b9⟩:=e9;simp only [cj,zR10,zG]
   (try simp only [zA])
   simp only [List.drop_succ_cons,List.drop_zero];rw [e0,e1,e2,e3,e4,e5,e6,e8,e9];clear e0 e1 e2 e3 e4 e5 e6 e7 e8 e9;go_wp2;have hTd:=hq.done MV;have hrel:=hq.rel;obtain ⟨t0,t1,t2,-,-,-⟩:=hTd.box.cells;refine bodyPost_ret (v:=.tuple #[.agg #[.slice D0 N.ends.length d0,.slice D1 N.ids.length d1,.slice D2 N.inputs.length d2],.int .i64 z8,.int .i64 z9]) (by simp [results,Tryz.results28,go_sem, *]) rfl ?_;have hzz:=Hz.out;refine ⟨_,_,_,N,S,z8,z9,rfl,(hrel.net (by omega) (by omega) vk.out).mono (by omega),⟨N_.out,CM b8 (by simp),CM b9 (by simp)⟩,hrel.below kU.out (by omega) (by omega) kU.out.size⟩
end Go.Proofs.YtgmdpppljkmabaaGreat
