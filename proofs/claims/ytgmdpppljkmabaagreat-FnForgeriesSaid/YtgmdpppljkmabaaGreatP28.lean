/- Parts of the proof: walks of functions and plain laws. -/
import Derived.Test.YtgmdpppljkmabaaGreatP0
import Derived.Test.YtgmdpppljkmabaaGreatP27
import Derived.Test.YtgmdpppljkmabaaGreatP17
import Derived.Test.YtgmdpppljkmabaaGreatP5
import Derived.Test.YtgmdpppljkmabaaGreatP2
import Derived.Test.YtgmdpppljkmabaaGreatP3
import Derived.Test.YtgmdpppljkmabaaGreatP26
import Derived.OpenShut
import Derived.Test.YtgmdpppljkmabaaGreatP18
import Derived.Test.YtgmdpppljkmabaaGreatP21
import Derived.Deep.CutBlock
set_option maxRecDepth 100000
set_option maxHeartbeats 16000000
namespace Go.Proofs.YtgmdpppljkmabaaGreat
open Go Go.RowKit
def Xx (w : World) (T : am → Int → Int → Int → Prop) (e : Ending) (w' : World) : Prop:=
 ∃ ve vi vn N S,∃ x y z : Int,e = .returned (.tuple #[.agg #[ve,vi,vn],.int .i64 x,.int .i64 y,.int .i64 z]) ∧ aA w' w.heap.size ve vi vn N S ∧ T N x y z ∧ Below w.heap.size w w'
theorem mJ (v : Value) (L : Nat) (w : World) (h : PS w v L) (hL : L ≤ 1048576) :
  Calls Tryz.prog 20 #[v] w (Xx w fun N x y z => Bd N ∧ (0 ≤ x ∧ x ≤ 6) ∧ (-1 ≤ y ∧ y ≤ 999999999999) ∧ (-1 ≤ z ∧ z ≤ 200001)):=by
 obtain ⟨A,c,rfl,Xe,MZ,Xr⟩:=h;obtain ⟨w0,ck⟩ : ∃ z,z = w.alloc (.cells #[.slice none 0 0,.slice none 0 0,.slice none 0 0] 27):=⟨_,rfl⟩
 have cX : aa w w0:=by rw [ck];exact ah _ (ad _)
 have kg : w0.heap.size = w.heap.size + 1:=by rw [ck];simp
 have kq : bQ w0 w.heap.size (.slice none 0 0) (.slice none 0 0) (.slice none 0 0):=by
  rw [ck];show (w.heap.push _)[w.heap.size]? = _
  rw [Array.getElem?_push_size]
 obtain ⟨w1,py⟩ : ∃ z,z = w0.alloc (.cells #[.slice A L c,.int .i64 0,.int .u64 0] 78):=⟨_,rfl⟩
 obtain ⟨cb,Fh⟩ : ∃ z,z = w0.heap.size:=⟨_,rfl⟩
 have dm : aa w0 w1:=by rw [py];exact ah _ (ad _)
 have zV : w1.heap[cb]? = some (.cells #[.slice A L c,.int .i64 0,.int .u64 0] 78):=by
  rw [py,Fh];show (w0.heap.push _)[w0.heap.size]? = _
  rw [Array.getElem?_push_size]
 have On:=zh (Gm Xr (cX.after dm) (by omega) zV hL Xe);have nP:=zh (kq.since dm);have gh:=zh (cX.after dm);have dh:=zh ck;have Q_:=zh py;have Tn : Hid (cb = w0.heap.size):=Fh
 have Hz : Hid (w0.heap.size = w.heap.size + 1 ∧ w1.heap.size = w.heap.size + 1 + 1 ∧ cb = w.heap.size + 1):=⟨kg,by rw [py];simp;omega,by omega⟩
 clear Xr cX kq dm zV ck py Fh kg
 go_enter Tryz.func20,Tryz.ntmps20
 go_upto_region 1 with (fail);rw [← dh.out];go_upto_region 2 with (fail);rw [← Q_.out,← Tn.out];go_wp2_with fail;refine (L_ cb A L c 0 w1 On.out (by omega)).mono ?_;rintro e w3 ⟨ve,vi,vn,N,S,sx,rfl,ho,⟨I_,Q9⟩,rh,kP⟩;obtain ⟨D0,d0,rfl,-,k9,-⟩:=id ho.read.1;obtain ⟨D1,d1,rfl,-,-,-⟩:=id ho.read.2.1;obtain ⟨D2,d2,rfl,-,-,-⟩:=id ho.read.2.2;obtain ⟨w7,nT⟩ : ∃ z,z = w3.alloc (.cells #[.slice D0 N.ends.length d0,.slice D1 N.ids.length d1,.slice D2 N.inputs.length d2] 27):=⟨_,rfl⟩
 obtain ⟨pb,fo⟩ : ∃ z,z = w3.heap.size:=⟨_,rfl⟩
 have YG : aa w3 w7:=by rw [nT];exact ah _ (ad _)
 have tA : CB cb w1.heap.size w1 w7:=kP.trans (CB.of (YG.below.mono kP.size))
 have fO : bH w7 pb (.slice D0 N.ends.length d0) (.slice D1 N.ids.length d1) (.slice D2 N.inputs.length d2):=by rw [nT,fo];exact bH.new _ _ _ _ _
 have yE : w1.heap.size ≤ pb:=by rw [fo];exact kP.size
 have lF : cb < w1.heap.size:=by have:=Hz.out;omega
 have it : pb ≠ cb:=by omega
 obtain ⟨P7,Xv⟩ : ∃ z,z = 0 + 400000000000000000:=⟨_,rfl⟩
 have Xw : Hid (P7 ≤ 4000000000000000000):=by show _ ≤ _;omega
 have LW : Hid (dQ w7 cb A L c P7):=by show dQ _ _ _ _ _ _;rw [Xv];exact rh.since YG
 have Su : Hid (bQ w7 w.heap.size (.slice none 0 0) (.slice none 0 0) (.slice none 0 0)):=(tA.block _ (by have:=Hz.out;omega) (by have:=Hz.out;omega)).trans nP.out
 have Me : Hid (w7.heap.size ≤ w7.heap.size):=Nat.le_refl _;have hz7:=tA.size
 have th : Hid (cb < w7.heap.size ∧ w.heap.size < w7.heap.size):=⟨by omega,by have:=Hz.out;omega⟩
 have HY : Hid (∀ W,C2 cb w.heap.size w7 W → W.cell? ⟨pb,0,none⟩ = some (.slice D0 N.ends.length d0) ∧ W.cell? ⟨pb,1,none⟩ = some (.slice D1 N.ids.length d1) ∧ W.cell? ⟨pb,2,none⟩ = some (.slice D2 N.inputs.length d2)):=fun W hW => by
  have IB : pb ≠ w.heap.size:=by have:=Hz.out;omega
  obtain ⟨k0,k1,k2,-,-,-⟩:=fO.cells;exact ⟨hW.cell k0 it IB,hW.cell k1 it IB,hW.cell k2 it IB⟩
 have vk:=zh (ho.keep YG.below);have N_:=zh I_;have Lc:=zh Q9
 have kU : Hid (Below w.heap.size w w7):=Below.trans gh.out.below ((tA.mono (by have:=Hz.out;omega)).below (by have:=Hz.out;omega))
 have Hw7:=zh nT;have nY:=zh fo;have WN:=zh hz7;clear ho I_ Q9 rh kP YG tA fO Xv nT fo hz7;go_upto_region 3 with (fail);rw [← Hw7.out,← nY.out];refine pk 12 [4,7,8] (RW [ws (.agg #[.slice D0 N.ends.length d0,.slice D1 N.ids.length d1,.slice D2 N.inputs.length d2]),ws (.int .i64 sx),ws (.pointer (some ⟨cb,0,none⟩)),jW w7.heap.size [0,1,1,2,2,3,5,300,(-1),999999999999],yK [0,1,1,2,2,3,5,300,(-1),999999999999],ws (.pointer (some ⟨cb,0,none⟩)),jW w7.heap.size [0,1,10,100,2000,2000,3000,200001,(-1)],yK [0,1,10,100,2000,2000,3000,200001,(-1)],fun _ _ => True,ws (.int .i64 sx),yK [0,1,1,2,2,3,5,300,(-1),999999999999],yK [0,1,10,100,2000,2000,3000,200001,(-1)]]) (p8 cb w.heap.size A L c (P7) (2) 2 w7 (fun W => bQ W w.heap.size (.slice D0 N.ends.length d0) (.slice D1 N.ids.length d1) (.slice D2 N.inputs.length d2))) (C2 cb w.heap.size) (RW.rel ?_) (by kernel_rfl) (by kernel_rfl) (by kernel_rfl) (by decide) (by kernel_rfl) (p8.start LW.out Su.out (ak (ad _))) ?_ ?_
 ·intro r hr;simp only [List.mem_cons,List.not_mem_nil,or_false] at hr;rcases hr with rfl | rfl | rfl | rfl | rfl | rfl | rfl | rfl | rfl | rfl | rfl | rfl
  ·exact fun _ _ _ _ h => h
  ·exact fun _ _ _ _ h => h
  ·exact fun _ _ _ _ h => h
  ·exact jW.rel th.out.1 th.out.2
  ·exact fun _ _ _ _ h => h
  ·exact fun _ _ _ _ h => h
  ·exact jW.rel th.out.1 th.out.2
  ·exact fun _ _ _ _ h => h
  ·exact fun _ _ _ _ h => h
  ·exact fun _ _ _ _ h => h
  ·exact fun _ _ _ _ h => h
  ·exact fun _ _ _ _ h => h
 ·intro i o hi ho V W q hq hr hd
  match i,ho with
  | 0,ho =>
   cases ho;clear hd hi hr;refine ⟨rfl,?_⟩;simp only [cj,zR12,zG]
   (try simp only [zA])
   obtain ⟨k0,k1,k2⟩:=HY.out W hq.rel;refine c_ (u:=.agg #[.slice D0 N.ends.length d0,.slice D1 N.ids.length d1,.slice D2 N.inputs.length d2]) (W':=W) (by go_simp) ⟨hq,C2.refl _ _ _,rfl⟩
  | 1,ho =>
   cases ho;clear hd hi hr;refine ⟨rfl,?_⟩;simp only [cj,zR12,zG]
   (try simp only [zA])
   refine c_ (u:=.int .i64 sx) (W':=W) (by go_simp) ⟨hq,C2.refl _ _ _,rfl⟩
  | 2,ho =>
   cases ho;clear hd hi hr;refine ⟨rfl,?_⟩;simp only [cj,zR12,zG]
   (try simp only [zA])
   refine c_ (u:=.pointer (some ⟨cb,0,none⟩)) (W':=W) (by go_simp) ⟨hq,C2.refl _ _ _,rfl⟩
  | 3,ho =>
   cases ho;clear hd hi hr;refine ⟨rfl,?_⟩;simp only [cj,zR12,zG]
   (try simp only [zA])
   refine c_ (u:=.slice (some ⟨W.heap.size,0,none⟩) 10 10) (W':=W.alloc (.cells #[.int .i64 0,.int .i64 1,.int .i64 1,.int .i64 2,.int .i64 2,.int .i64 3,.int .i64 5,.int .i64 300,.int .i64 (-1),.int .i64 999999999999] 3)) (by go_simp) ⟨hq.since (ah _ (ad _)) (fun _ _ hs hT => hT.since hs),C2.since (ah _ (ad _)),jW.new W [0,1,1,2,2,3,5,300,(-1),999999999999] (by simp [maxLen]) (Nat.le_trans Me.out hq.rel.size)⟩
  | 4,ho =>
   cases ho;have e2 : (ws (.pointer (some ⟨cb,0,none⟩))) (V 2) W:=hd 2 (by decide +kernel);have e3 : (jW w7.heap.size [0,1,1,2,2,3,5,300,(-1),999999999999]) (V 3) W:=hd 3 (by decide +kernel);have na : Hid (0 = q):=hr 0 rfl;clear hd hi hr;refine ⟨rfl,?_⟩;simp only [cj,zR12,zG]
   (try simp only [zA])
   have e2 : V 2 = _:=e2;rw [e2];clear e2;obtain ⟨g,qq,hg,aY⟩:=e3;have hg : V 3 = .slice (some ⟨g,0,none⟩) 10 qq:=hg;rw [hg] at aY ⊢;clear hg;refine lk (f:=68) (args:=#[.pointer (some ⟨cb,0,none⟩),.slice (some ⟨g,0,none⟩) 10 qq]) (W':=W) (by go_simp) ?_
   refine (oA cb A L c (P7 + 2 * q) w7.heap.size g qq [0,1,1,2,2,3,5,300,(-1),999999999999] W (hq.cur (by have:=na.out;omega)) (by have:=Xw.out;have:=na.out;omega) aY th.out.1 (by simp) (by simp)).mono ?_
   rintro e W' ⟨z,rfl,hz,iq,hC⟩
   exact ⟨_,rfl,hq.call (by have:=na.out;omega) hC iq (by omega) (by have:=Hz.out;omega),C2.of hC,z,rfl,hz⟩
  | 5,ho =>
   cases ho;clear hd hi hr;refine ⟨rfl,?_⟩;simp only [cj,zR12,zG]
   (try simp only [zA])
   refine c_ (u:=.pointer (some ⟨cb,0,none⟩)) (W':=W) (by go_simp) ⟨hq,C2.refl _ _ _,rfl⟩
  | 6,ho =>
   cases ho;clear hd hi hr;refine ⟨rfl,?_⟩;simp only [cj,zR12,zG]
   (try simp only [zA])
   refine c_ (u:=.slice (some ⟨W.heap.size,0,none⟩) 9 9) (W':=W.alloc (.cells #[.int .i64 0,.int .i64 1,.int .i64 10,.int .i64 100,.int .i64 2000,.int .i64 2000,.int .i64 3000,.int .i64 200001,.int .i64 (-1)] 3)) (by go_simp) ⟨hq.since (ah _ (ad _)) (fun _ _ hs hT => hT.since hs),C2.since (ah _ (ad _)),jW.new W [0,1,10,100,2000,2000,3000,200001,(-1)] (by simp [maxLen]) (Nat.le_trans Me.out hq.rel.size)⟩
  | 7,ho =>
   cases ho;have e5 : (ws (.pointer (some ⟨cb,0,none⟩))) (V 5) W:=hd 5 (by decide +kernel);have e6 : (jW w7.heap.size [0,1,10,100,2000,2000,3000,200001,(-1)]) (V 6) W:=hd 6 (by decide +kernel);have na : Hid (1 = q):=hr 1 rfl;clear hd hi hr;refine ⟨rfl,?_⟩;simp only [cj,zR12,zG]
   (try simp only [zA])
   have e5 : V 5 = _:=e5;rw [e5];clear e5;obtain ⟨g,qq,hg,aY⟩:=e6;have hg : V 6 = .slice (some ⟨g,0,none⟩) 9 qq:=hg;rw [hg] at aY ⊢;clear hg;refine lk (f:=68) (args:=#[.pointer (some ⟨cb,0,none⟩),.slice (some ⟨g,0,none⟩) 9 qq]) (W':=W) (by go_simp) ?_
   refine (oA cb A L c (P7 + 2 * q) w7.heap.size g qq [0,1,10,100,2000,2000,3000,200001,(-1)] W (hq.cur (by have:=na.out;omega)) (by have:=Xw.out;have:=na.out;omega) aY th.out.1 (by simp) (by simp)).mono ?_
   rintro e W' ⟨z,rfl,hz,iq,hC⟩
   exact ⟨_,rfl,hq.call (by have:=na.out;omega) hC iq (by omega) (by have:=Hz.out;omega),C2.of hC,z,rfl,hz⟩
  | 8,ho =>
   cases ho;have e0 : (ws (.agg #[.slice D0 N.ends.length d0,.slice D1 N.ids.length d1,.slice D2 N.inputs.length d2])) (V 0) W:=hd 0 (by decide +kernel);have na : Hid (2 = q):=hr 2 rfl;clear hd hi hr;refine ⟨rfl,?_⟩;simp only [cj,zR12,zG]
   (try simp only [zA])
   have e0 : V 0 = _:=e0;rw [e0];clear e0
   obtain ⟨g0,g1,g2,f0,f1,f2⟩:=(hq.box (by have:=na.out;omega)).box.cells
   refine su (W':=set3 W w.heap.size (.slice D0 N.ends.length d0) (.slice D1 N.ids.length d1) (.slice D2 N.inputs.length d2)) (by unfold set3;go_simp) ⟨hq.store (by have:=na.out;omega) ((hq.box (by have:=na.out;omega)).set3 _ _ _),C2.set _ _ _ _ _ _,trivial⟩
  | 9,ho =>
   cases ho;have e1 : (ws (.int .i64 sx)) (V 1) W:=hd 1 (by decide +kernel);clear hd hi hr;refine ⟨rfl,?_⟩;simp only [cj,zR12,zG]
   (try simp only [zA])
   have e1 : V 1 = _:=e1;rw [e1];clear e1;refine c_ (u:=.int .i64 sx) (W':=W) (by go_simp) ⟨hq,C2.refl _ _ _,rfl⟩
  | 10,ho =>
   cases ho;have e4 : (yK [0,1,1,2,2,3,5,300,(-1),999999999999]) (V 4) W:=hd 4 (by decide +kernel);clear hd hi hr;refine ⟨rfl,?_⟩;simp only [cj,zR12,zG]
   (try simp only [zA])
   obtain ⟨z,hz,Pb⟩:=e4;rw [hz];clear hz;refine c_ (u:=.int .i64 z) (W':=W) (by go_simp) ⟨hq,C2.refl _ _ _,z,rfl,Pb⟩
  | 11,ho =>
   cases ho;have e7 : (yK [0,1,10,100,2000,2000,3000,200001,(-1)]) (V 7) W:=hd 7 (by decide +kernel);clear hd hi hr;refine ⟨rfl,?_⟩;simp only [cj,zR12,zG]
   (try simp only [zA])
   obtain ⟨z,hz,Pb⟩:=e7;rw [hz];clear hz;refine c_ (u:=.int .i64 z) (W':=W) (by go_simp) ⟨hq,C2.refl _ _ _,z,rfl,Pb⟩
  | i + 12,ho => omega
 intro V W q hq Mz bW hV;have MV : 2 < q:=bW 8 2 (by omega) rfl;have e0 : (ws (.agg #[.slice D0 N.ends.length d0,.slice D1 N.ids.length d1,.slice D2 N.inputs.length d2])) (V 0) W:=hV 0 (by decide);have e1 : (ws (.int .i64 sx)) (V 1) W:=hV 1 (by decide);have e2 : (ws (.pointer (some ⟨cb,0,none⟩))) (V 2) W:=hV 2 (by decide);have e3 : (jW w7.heap.size [0,1,1,2,2,3,5,300,(-1),999999999999]) (V 3) W:=hV 3 (by decide);have e4 : (yK [0,1,1,2,2,3,5,300,(-1),999999999999]) (V 4) W:=hV 4 (by decide);have e5 : (ws (.pointer (some ⟨cb,0,none⟩))) (V 5) W:=hV 5 (by decide);have e6 : (jW w7.heap.size [0,1,10,100,2000,2000,3000,200001,(-1)]) (V 6) W:=hV 6 (by decide);have e7 : (yK [0,1,10,100,2000,2000,3000,200001,(-1)]) (V 7) W:=hV 7 (by decide);have e8 : (fun _ _ => True) (V 8) W:=hV 8 (by decide)
 have e9 : (ws (.int .i64 sx)) (V 9) W:=hV 9 (by decide);have YH : (yK [0,1,1,2,2,3,5,300,(-1),999999999999]) (V 10) W:=hV 10 (by decide);have YI : (yK [0,1,10,100,2000,2000,3000,200001,(-1)]) (V 11) W:=hV 11 (by decide);clear hV bW;have e0 : V 0 = _:=e0;have e1 : V 1 = _:=e1;have e2 : V 2 = _:=e2;obtain ⟨g3,q3,e3,-⟩:=e3;obtain ⟨z4,e4,b4⟩:=e4;have e5 : V 5 = _:=e5;obtain ⟨g6,q6,e6,-⟩:=e6;obtain ⟨z7,e7,b7⟩:=e7;have e9 : V 9 = _:=e9;obtain ⟨YJ,YH,b10⟩:=YH;obtain ⟨YK,YI,b11⟩:=YI;simp only [cj,zR12,zG]
 (try simp only [zA])
 simp only [List.drop_succ_cons,List.drop_zero];rw [e0,e1,e2,e3,e4,e5,e6,e7,e9,YH,YI];clear e0 e1 e2 e3 e4 e5 e6 e7 e8 e9 YH YI;go_wp2;have hTd:=hq.done MV;have hrel:=hq.rel;obtain ⟨t0,t1,t2,-,-,-⟩:=hTd.box.cells;refine bodyPost_ret (v:=.tuple #[.agg #[.slice D0 N.ends.length d0,.slice D1 N.ids.length d1,.slice D2 N.inputs.length d2],.int .i64 sx,.int .i64 YJ,.int .i64 YK]) (by simp [results,Tryz.results20,go_sem, *]) rfl ?_;have hzz:=Hz.out;have hz8:=WN.out
 have h10 : -1 ≤ YJ ∧ YJ ≤ 999999999999:=by
  simp only [List.mem_cons,List.not_mem_nil,or_false] at b10;omega
 have h11 : -1 ≤ YK ∧ YK ≤ 200001:=by
  simp only [List.mem_cons,List.not_mem_nil,or_false] at b11;omega
 refine ⟨_,_,_,N,S,sx,YJ,YK,rfl,(hrel.net (by omega) (by omega) vk.out).mono (by omega),⟨N_.out,Lc.out,h10,h11⟩,hrel.below kU.out (by omega) (by omega) kU.out.size⟩
theorem zO (v u : Value) (xs ys : List Int) (w : World) (h : bD w v xs) (h' : bD w u ys) :
  Calls Tryz.prog 16 #[v,u] w fun e w' => e = .returned (.bool (decide (xs = ys))) ∧ ∃ m,w' = w.drewN m:=by
 obtain ⟨A,c,rfl,ft,hm,hA⟩:=h;obtain ⟨B,d,rfl,hld,zU,hB⟩:=h';unfold maxLen at hm zU;have HA:=zh hA;have HB:=zh hB;clear hA hB
 by_cases hl : xs.length = ys.length
 ·have Hl:=zh hl;have rj : xs.length ≤ ys.length:=by omega
  have lp : ys.length ≤ xs.length:=by omega
  have hb : ((xs.length : Int) != (ys.length : Int)) = false:=by simp [hl]
  clear hl
  go_enter Tryz.func16,Tryz.ntmps16
  go_wp2
  go_loopw [13] (fun i wr => ∃ k n : Nat,k ≤ xs.length ∧ i = .int .i64 k ∧ xs.take k = ys.take k ∧ wr = w.drewN n) (fun i _ => xs.length - (intOf i).toNat)
  case atStart => exact ⟨0,0,Nat.zero_le _,rfl,by simp,rfl⟩
  case round =>
   obtain ⟨k,n,hk,rfl,Yg,rfl⟩:=hrel;have Heq:=zh Yg;clear Yg
   by_cases hlt : k < xs.length
   ·obtain ⟨x,hx⟩:=aW xs k hlt;obtain ⟨y,hy⟩:=aW ys k (by omega);obtain ⟨b,off,rfl,jx⟩:=HA.out k x hx;obtain ⟨b',pl,rfl,PW⟩:=HB.out k y hy;have Hx:=zh hx;have Hy:=zh hy;clear hx hy;cases Ml : (x != y)
    all_goals
     have SV:=zh Ml;go_wp2
     go_quiet (fail)
     go_wp2
    ·go_roundw
     case rel => exact ⟨k + 1,_,by omega,by go_num,by rw [bk Hx.out,bk Hy.out,Heq.out,show x = y by simpa using SV.out],rfl⟩
     case measure => simp [intOf];omega
    ·go_ret;refine ⟨bt (decide_eq_false fun e => ?_),dr1 _ _ _⟩
     have h1:=Hx.out;rw [e,Hy.out] at h1;have h2:=SV.out;simp at h1 h2
     exact h2 h1.symm
   ·go_wp2;go_ret;exact ⟨lL (decide_eq_true (Aj Hl.out Heq.out hlt)),_,rfl⟩
 ·have hb : ((xs.length : Int) != (ys.length : Int)) = true:=by simp;omega
  have Hl:=zh hl;clear hl
  go_enter Tryz.func16,Tryz.ntmps16
  go_wp2;go_ret;exact ⟨bt (decide_eq_false fun e => Hl.out (by rw [e])),0,rfl⟩
theorem Fi (v u : Value) (xs ys : List Int) (w : World) (h : bD w v xs) (h' : bD w u ys) :
  Calls Tryz.prog 16 #[v,u] w fun e w' => e = .returned (.bool (TQ xs ys)) ∧ Below w.heap.size w w':=(zO v u xs ys w h h').mono fun _ _ ⟨he,m,hm⟩ => ⟨he,by rw [hm];exact below_drewN (Below.refl _ _) m⟩
theorem lG (v u : Value) (xs : List Int) (w : World) (h : bD w v xs) (h' : bD w u xs) :
  Calls Tryz.prog 16 #[v,u] w fun e w' => e = .returned (.bool true) ∧ Below w.heap.size w w':=
 (Fi v u xs xs w h h').mono fun e w' ⟨he,hb⟩ => ⟨by rw [he];simp [TQ],hb⟩
def IP (a b : Nat) : Bool:=decide (1048576 < a) || decide (1048576 < a + b)
theorem OF (A B : Option Addr) (a c b d : Nat) (w : World) (hc : a ≤ 9223372036854775807) (hd : b ≤ 9223372036854775807) :
  Calls Tryz.prog 7 #[.slice A a c,.slice B b d] w fun e w' => e = .returned (.bool (IP a b)) ∧ w = w':=by
 go_enter Tryz.func7,Tryz.ntmps7
 by_cases h : 1048576 < a
 ·have e1 : ((1048576 : Int) < (a : Int)) = True:=by simp;omega
  go_wp2;go_ret
  exact ⟨by unfold IP;simp [h],rfl⟩
 ·have e1 : ((1048576 : Int) < (a : Int)) = False:=by simp;omega
  have m1 : IntKind.i64.wrap (1048576 - (a : Int)) = 1048576 - (a : Int):=aL _ (by omega) (by omega)
  by_cases h2 : 1048576 < a + b
  ·have e2 : (1048576 - (a : Int) < (b : Int)) = True:=by simp;omega
   go_wp2;go_ret
   exact ⟨by unfold IP;simp [h2],rfl⟩
  ·have e2 : (1048576 - (a : Int) < (b : Int)) = False:=by simp;omega
   go_wp2;go_ret
   exact ⟨by unfold IP;simp [h,h2],rfl⟩
open Go.ChangeShapes Go.WideShapes Go.ChangeAt Go.RowKit
theorem open_bytes {H : Type} {enc : TypeId × Value → H} {W : World} {r : Reach} {b0 : Nat} {v : Value} {d : DataW H} {p : List MemPlace}
  (hv : Value.okWide Tryz.prog W r b0 22 v) (h : DataW.Trod enc Tryz.prog W 0 (fun _ => true) true 22 v d p) : ∃ L,PS W v L:=by
 obtain ⟨a0,aa1,Xy,rfl⟩:=okWide_slice Tryz.underlying22 hv;obtain ⟨iE,hf⟩:=h;rcases open_ints Tryz.underlying22 Tryz.underlying5 (by kernel_rfl) hf with ⟨tC,_⟩ | ⟨x,l,c,zs,tC,_,hl,hm,hz,_,jx,hwz⟩
 ·simp [Value.cells] at tC
  obtain ⟨rfl,rfl,rfl⟩:=tC
  exact ⟨0,none,0,rfl,Nat.le_refl _,by unfold maxLen;omega,fun k hk => by omega⟩
 ·simp [Value.cells] at tC
  obtain ⟨rfl,rfl,rfl⟩:=tC;have hz' : zs.length = Xy:=by simpa using hz
  refine ⟨aa1,some x,Xy,rfl,hl,hm,fun k hk => ?_⟩
  have mL : k < zs.length:=by omega
  have hc:=jx k mL
  have hb:=bounds_u8 (hwz (zs.getD k 0) (by rw [zDd,List.getElem?_eq_getElem mL];exact List.getElem_mem mL))
  have h0:=jx 0 (by omega);obtain ⟨bl,off,aa2⟩:=x
  cases aa2 with
  | none =>
   refine ⟨bl,off,zs.getD k 0,rfl,?_,hb.1,by omega⟩
   by_cases zS : k = 0
   ·subst zS;simpa [Addr.add] using hc
   ·simpa [Addr.add,zS] using hc
  | some q => simp [World.cell?,Addr.add] at h0;split at h0 <;> simp at h0
theorem fnForgeries_walk (w : World) (v1 : Value) (L1 : Nat) (h1 : PS w v1 L1) (v2 : Value) (L2 : Nat) (h2 : PS w v2 L2) :
  Calls Tryz.prog 4 #[v1,v2] w fun e w' => e = .returned (.bool true) ∧ Below w.heap.size w w':=by
 obtain ⟨A1,a1,SF,rj,k9,-⟩:=id h1;obtain ⟨A2,a2,Vr,lp,f6,-⟩:=id h2;subst SF Vr;unfold maxLen at k9 f6;have H1:=zh h1;have H2:=zh h2;clear h1 h2
 go_enter Tryz.func4,Tryz.ntmps4
 go_wp2_with fail;refine (OF A1 A2 L1 a1 L2 a2 w (by omega) (by omega)).mono ?_;rintro e wz ⟨rfl,rfl⟩;cases hb : IP L1 L2
 rotate_left
 ·go_wp2;go_ret;exact ⟨rfl,Below.refl _ _⟩
 have hL : L1 ≤ 1048576 ∧ L2 ≤ 1048576:=by
  unfold IP at hb;simp at hb
  omega
 go_wp2_with fail;refine (mJ _ L1 w H1.out hL.1).mono ?_;rintro e w1 ⟨ve,vi,vn,N,S,sx,mo,st,rfl,ho,⟨I_,Q9,tg,gE⟩,bj⟩;obtain ⟨D0,d0,rfl,-,abB,-⟩:=id ho.read.1;obtain ⟨D1,d1,rfl,-,-,-⟩:=id ho.read.2.1;obtain ⟨D2,d2,rfl,-,-,-⟩:=id ho.read.2.2;obtain ⟨w2,dK⟩ : ∃ z,z = w1.alloc (.cells #[.slice D0 N.ends.length d0,.slice D1 N.ids.length d1,.slice D2 N.inputs.length d2] 27):=⟨_,rfl⟩
 obtain ⟨pb,fo⟩ : ∃ z,z = w1.heap.size:=⟨_,rfl⟩
 have jZ : aa w1 w2:=by rw [dK];exact ah _ (ad _)
 have fO : bH w2 pb (.slice D0 N.ends.length d0) (.slice D1 N.ids.length d1) (.slice D2 N.inputs.length d2):=by rw [dK,fo];exact bH.new _ _ _ _ _
 have hN:=ho.read.keep jZ.below;have HN:=zh (show ∀ W,aa w2 W → aT W (.slice D0 N.ends.length d0) (.slice D1 N.ids.length d1) (.slice D2 N.inputs.length d2) N from fun W hW => hN.keep hW.below)
 have PT:=zh (ae fO.cells.1);have PU:=zh (ae fO.cells.2.1);have Mr:=zh (ae fO.cells.2.2.1);have Hww : Hid (Below w.heap.size w w2):=Below.trans bj (jZ.below.mono bj.size);have j7:=zh dK;have eA:=zh fo;have lH:=zh I_.small.sz;have fS : N.ends.length ≤ 100:=I_.ends;have th:=zh fS;obtain ⟨D,hD⟩ : ∃ z,z = ay N sx mo st:=⟨_,rfl⟩
 obtain ⟨R1,YL⟩ : ∃ z,z = ap N sx mo st:=⟨_,rfl⟩
 obtain ⟨R2,Ae⟩ : ∃ z,z = aS N sx mo st:=⟨_,rfl⟩
 obtain ⟨R3,YM⟩ : ∃ z,z = av N sx mo st:=⟨_,rfl⟩
 have hDl : D.length ≤ 100:=by rw [hD];exact Nat.le_trans (Rh _ _ _ _) fS
 have HD:=zh hD;have YN:=zh YL;have HR3:=zh YM;have dE : aa w2 w2:=ad _;have II:=kM _ _ _ N sx mo st w2 (HN.out w2 dE) (by omega) (by omega) (by omega) lH.out;rw [← hD,← YL,← Ae,← YM] at II;have PL:=zh II
 have HcS : Hid (∀ W,aa w2 W → Calls Tryz.prog 22 #[.agg #[.slice D0 N.ends.length d0,.slice D1 N.ids.length d1,.slice D2 N.inputs.length d2],.int .i64 sx,.int .i64 mo,.int .i64 st] W fun e w' => ∃ u,e = .returned (.tuple #[u,.int .i64 R1,.int .i64 R2,.bool R3]) ∧ Own w' W.heap.size u D ∧ Below W.heap.size W w'):=fun W hW => by
  have tC:=kO _ _ _ N sx mo st W (HN.out W hW) (by omega) (by omega) (by omega) lH.out;rw [← hD,← YL,← Ae,← YM] at tC;exact tC
 have Lc:=zh Q9;have Hmo:=zh tg;clear ho I_ bj dK fo jZ fO hN hD YL Ae YM II Q9 tg gE fS;go_upto_region 4 with (fail);rw [← j7.out,← eA.out];have p0:=PT.out w2 dE;have p1:=PU.out w2 dE;have p2:=Mr.out w2 dE;go_wp2_with fail;refine PL.out.mono ?_;rintro e w3 ⟨u3,rfl,ie,bg⟩;obtain ⟨Q3,q3,rfl,-,aa3,-⟩:=id ie.ints;have iB : aa w2 w3:=bg;have eY:=zh iB;have HI:=zh (show ∀ W,aa w3 W → bD W (.slice Q3 D.length q3) D from fun W hW => ie.ints.keep hW.below)
 clear p0 p1 p2 ie bg dE;have p0:=PT.out w3 iB;have p1:=PU.out w3 iB;have p2:=Mr.out w3 iB;go_wp2_with fail;refine (HcS.out w3 iB).mono ?_;rintro e w4 ⟨u4,rfl,mf,xV⟩;obtain ⟨Q4,q4,rfl,-,aa4,-⟩:=id mf.ints;have Co : aa w3 w4:=xV;have mg:=zh (iB.after Co);have Sv:=zh Co;have Us:=zh (show ∀ W,aa w4 W → bD W (.slice Q4 D.length q4) D from fun W hW => mf.ints.keep hW.below)
 clear p0 p1 p2 mf xV Co iB;unfold maxLen at aa3 aa4;go_upto_region 6 with (fail);refine aB 19 (aa w4) (ad _) ?_;simp only [zT]
 iterate 4 (apply ag rfl;(intro W hW;go_simp;with_reducible rfl);simp only [zA])
 iterate 3 (apply aj rfl rfl;(intro hb;intro W hW;go_simp;with_reducible rfl);simp only [zA])
 (first | refine bu rfl rfl ?_ | (apply ag rfl;(intro W hW;go_simp;with_reducible rfl)));simp only [zA]
 apply ag rfl;(intro W hW;go_simp;with_reducible rfl);simp only [zA]
 iterate 3 (apply aj rfl rfl;(intro hb;intro W hW;go_simp;with_reducible rfl);simp only [zA])
 (first | refine bu rfl rfl ?_ | (apply ag rfl;(intro W hW;go_simp;with_reducible rfl)));simp only [zA]
 apply ag rfl;(intro W hW;go_simp;with_reducible rfl);simp only [zA]
 iterate 2 (apply aj rfl rfl;(intro hb;intro W hW;go_simp;with_reducible rfl);simp only [zA])
 refine bC (v:=?_) rfl rfl ?_ ?_;rotate_left;(intro hb;intro W hW;unfold bG;go_simp;(with_reducible refine (lG _ _ D W (HI.out W (Sv.out.after hW)) (Us.out W hW)).mono ?_);rintro e W' ⟨rfl,bg⟩;first | (refine ⟨?_,aa.trans hW bg⟩;with_reducible rfl) | (subst bg;refine ⟨?_,hW⟩;with_reducible rfl))
 simp only [zA]
 apply aj rfl rfl;(intro hb;intro W hW;go_simp;with_reducible rfl);simp only [zA]
 (first | refine bu rfl rfl ?_ | (apply ag rfl;(intro W hW;go_simp;with_reducible rfl)));simp only [zA]
 intro W5 jd;have ro:=mg.out.after jd;have nd:=zh ro;have Xz:=zh (Sv.out.after jd);clear jd ro
 go_upto_if 95 with (fail)
 go_cut [] from 17 to 222 (fun wx => aa w2 wx)
 case first =>
  cases R3
  ·go_wp2;go_meet
   case rel => exact nd.out
  obtain ⟨q0,na⟩ : ∃ z,z = aQ N sx:=⟨_,rfl⟩
  obtain ⟨q1,o_⟩ : ∃ z,z = bx N sx:=⟨_,rfl⟩
  have hF:=KW (n:=N) (s:=sx) (most:=mo) (steps:=st) HR3.out.symm;rw [← YN.out,← HD.out,← na,← o_] at hF;have HF:=zh hF;have hS:=KX (n:=N) (s:=sx) (most:=mo) (steps:=st) HR3.out.symm;rw [← YN.out,← na] at hS;have HS:=zh hS
  have hc:=ir _ _ _ N sx W5 (HN.out W5 nd.out) (by have:=Lc.out;omega) lH.out
  rw [← na,← o_] at hc;have Hc:=zh hc;have Hq0:=zh na;clear hF hS hc na o_;have p0:=PT.out W5 nd.out;have p1:=PU.out W5 nd.out;have p2:=Mr.out W5 nd.out;go_wp2_with fail;refine Hc.out.mono ?_;rintro e w6 ⟨rfl,Fb⟩;have Fj:=zh (Xz.out.after (show aa W5 w6 from Fb));clear p0 p1 p2 Fb Hc
  go_upto_if 103 with (fail)
  go_cut [19,20] from 103 to 123 (fun _ _ wx => aa w3 wx)
  case first =>
   by_cases he : R1 = 1
   ·have e1 : (R1 == 1) = true:=by simp [he]
    obtain ⟨f1,f2,f3⟩:=HF.out he
    have hc:=mD _ _ _ N sx _ D w6 (HN.out w6 (eY.out.after Fj.out)) (by have:=Lc.out;omega) (HI.out w6 Fj.out) lH.out (by omega)
    rw [f1,f2] at hc;have Hc:=zh hc;have F3:=zh f3;clear f1 f2 f3 hc he;have p0:=PT.out w6 (eY.out.after Fj.out);have p1:=PU.out w6 (eY.out.after Fj.out);have p2:=Mr.out w6 (eY.out.after Fj.out);go_wp2_with fail;refine Hc.out.mono ?_;rintro e w7 ⟨rfl,ri⟩;have XA:=zh (Fj.out.after (show aa w6 w7 from ri));clear p0 p1 p2 ri Hc;cases q1
    ·go_wp2;go_meet
     case rel => exact XA.out
    ·have f3:=F3.out rfl;subst f3;go_wp2;go_meet
     case rel => exact XA.out
   ·have e1 : (R1 == 1) = false:=by simp [he]
    go_wp2;go_meet
    case rel => exact Fj.out
  case rest =>
   obtain ⟨w7,rfl⟩ : ∃ z,z = wc:=⟨_,rfl⟩
   have CY:=zh hcut;clear hcut;go_upto_region 14 with (fail)
   go_cut [127] from 124 to 127 (fun t wx => t = .bool (q1 && q0) ∧ wx = w7)
   case first =>
    cases q1
    ·go_wp2;go_meet
     case rel => exact ⟨rfl,rfl⟩
    ·cases q0
     ·go_wp2;go_meet
      case rel => exact ⟨rfl,rfl⟩
     ·go_wp2;go_meet
      case rel => exact ⟨rfl,rfl⟩
   case rest =>
   obtain ⟨rfl,rfl⟩:=hcut;obtain ⟨w7,rfl⟩ : ∃ z,z = wc:=⟨_,rfl⟩
   go_upto_if 127 with (fail)
   go_cut [21,22,23,25] from 127 to 153 (fun _ _ _ _ wx => aa w3 wx)
   case first =>
    cases hg : (q1 && q0)
    ·go_wp2;go_meet
     case rel => exact CY.out
    ·have CP : q0 = true:=by rw [Bool.and_eq_true] at hg;exact hg.2
     subst CP;clear hg
     have hc:=kY _ _ _ N sx w7 (HN.out w7 (eY.out.after CY.out)) (by have:=Lc.out;omega) lH.out
     rw [← Vj,← Hq0.out] at hc;obtain ⟨PP,YO⟩ : ∃ z,z = bh N sx:=⟨_,rfl⟩
     rw [← YO] at hc;have hS:=HS.out rfl;rw [← YO] at hS
     have hPl : PP.length ≤ 100:=by
      rw [YO];exact Is _ _
     have Uz:=zh hS;have Hc:=zh hc;clear hS hc YO;have p0:=PT.out w7 (eY.out.after CY.out);have p1:=PU.out w7 (eY.out.after CY.out);have p2:=Mr.out w7 (eY.out.after CY.out);go_wp2_with fail;refine Hc.out.mono ?_;rintro e w8 ⟨u8,rfl,MI,yH⟩;obtain ⟨Q8,q8,rfl,-,Sw,-⟩:=id MI.ints;have HI8:=zh (show ∀ W,aa w8 W → bD W (.slice Q8 PP.length q8) PP from fun W hW => MI.ints.keep hW.below)
     have k_:=zh (CY.out.after (show aa w7 w8 from yH));clear p0 p1 p2 MI yH Hc;unfold maxLen at Sw;go_upto_region 20 with (fail)
     go_loopw [138,23] (fun i b wr => ∃ (k : Nat) (bs : Bool),k ≤ PP.length ∧ i = .int .i64 k ∧ b = .bool bs ∧ (bs = true → ∀ x ∈ PP.take k,x ≤ mo) ∧ aa w8 wr) (fun i _ _ => PP.length - (intOf i).toNat)
     case atStart => exact ⟨0,true,Nat.zero_le _,rfl,rfl,fun _ x hx => by simp at hx,ad _⟩
     case round =>
      obtain ⟨k,bs,hk,rfl,rfl,I7,cJ⟩:=hrel;have Pj:=zh I7;have lw:=zh cJ;clear I7 cJ
      by_cases hlt : k < PP.length
      ·have m3 : IntKind.i64.wrap ((k : Int) + 1) = (k : Int) + 1:=aL _ (by omega) (by omega);obtain ⟨x,hx⟩:=aW PP k hlt;obtain ⟨Aq,cq,eq,-,-,hA⟩:=HI8.out wr lw.out;cases eq;obtain ⟨bq,oq,uq,jx⟩:=hA k _ hx;subst uq
       have Hx : Hid (PP.take (k + 1) = PP.take k ++ [x]):=by show _ = _;rw [List.take_add_one,hx];rfl
       clear hA hx
       by_cases xQ : x ≤ mo
       ·have e1 : (x ≤ mo) = True:=by simp [xQ]
        cases bs
        ·go_wp2;go_roundw
         case rel => exact ⟨k + 1,false,by omega,by first | rfl | go_num,rfl,fun h => by simp at h,lw.out⟩
         case measure => simp [intOf];omega
        ·go_wp2;go_roundw
         case rel => exact ⟨k + 1,true,by omega,by first | rfl | go_num,rfl,fun _ y hy => by
          rw [Hx.out] at hy;rcases List.mem_append.1 hy with h7 | h7
          ·exact Pj.out rfl y h7
          ·have h8 : y = x:=by simpa using h7
           omega,lw.out⟩
         case measure => simp [intOf];omega
       ·have e1 : (x ≤ mo) = False:=by simp [xQ]
        cases bs
        ·go_wp2;go_roundw
         case rel => exact ⟨k + 1,false,by omega,by first | rfl | go_num,rfl,fun h => by simp at h,lw.out⟩
         case measure => simp [intOf];omega
        ·go_wp2;go_roundw
         case rel => exact ⟨k + 1,false,by omega,by first | rfl | go_num,rfl,fun h => by simp at h,lw.out⟩
         case measure => simp [intOf];omega
      ·obtain ⟨wo,rfl⟩ : ∃ z,z = wr:=⟨_,rfl⟩
       have CR:=zh (k_.out.after lw.out);cases bs
       ·go_wp2;go_meet
        case rel => exact CR.out
       ·have fS : R1 ≠ 2:=Uz.out (fun x hx => Pj.out rfl x (by rw [List.take_of_length_le (by omega)];exact hx))
        have e2 : (R1 == 2) = false:=by simpa using fS
        clear fS;go_wp2;go_meet
        case rel => exact CR.out
   case rest =>
    obtain ⟨w8,rfl⟩ : ∃ z,z = wc:=⟨_,rfl⟩
    have k_:=zh hcut;have Mf:=zh (eY.out.after hcut);clear hcut;obtain ⟨C0,PV⟩ : ∃ z,z = aE N sx mo:=⟨_,rfl⟩
    obtain ⟨C1,lJ⟩ : ∃ z,z = ax N sx mo:=⟨_,rfl⟩
    obtain ⟨L0,hL0⟩ : ∃ z,z = aJ N sx mo:=⟨_,rfl⟩
    obtain ⟨FS,YP⟩ : ∃ z,z = aF N sx mo:=⟨_,rfl⟩
    have hFl : FS.length ≤ 100:=by
     rw [YP];exact Nat.le_trans (Rj _ _ _) th.out
    have hc:=kX _ _ _ N sx mo w8 (HN.out w8 Mf.out) (by have:=Lc.out;omega) (by have:=Hmo.out;omega) lH.out
    rw [← PV,← lJ] at hc;have Hc:=zh hc
    have HcL : Hid (∀ W,aa w2 W → Calls Tryz.prog 27 #[.agg #[.slice D0 N.ends.length d0,.slice D1 N.ids.length d1,.slice D2 N.inputs.length d2],.int .i64 sx,.int .i64 mo] W fun e w' => ∃ u,e = .returned (.tuple #[.int .i64 L0,u,.bool C1]) ∧ Own w' W.heap.size u FS ∧ Below W.heap.size W w'):=fun W hW => by
     have tC:=kK _ _ _ N sx mo W (HN.out W hW) (by have:=Lc.out;omega) (by have:=Hmo.out;omega) lH.out
     rw [← hL0,← YP,show bV N sx mo = C1 from lJ.symm] at tC;exact tC
    have HFg : Hid (C1 = true → Ga N sx mo st):=fun h => KY HR3.out.symm (lJ.symm.trans h)
    have HC0:=zh PV;have QH:=zh hL0;have HFS:=zh YP;clear PV lJ hL0 YP hc;have p0:=PT.out w8 Mf.out;have p1:=PU.out w8 Mf.out;have p2:=Mr.out w8 Mf.out;go_wp2_with fail;refine Hc.out.mono ?_;rintro e w9 ⟨rfl,ne⟩;have CR:=zh (Mf.out.after (show aa w8 w9 from ne));have aa5:=zh (show aa w8 w9 from ne);clear p0 p1 p2 ne Hc;have p0:=PT.out w9 CR.out;have p1:=PU.out w9 CR.out;have p2:=Mr.out w9 CR.out;go_wp2_with fail;refine (HcL.out w9 CR.out).mono ?_;rintro e wA ⟨uA,rfl,hoA,OL⟩;obtain ⟨QA,qA,rfl,-,aa6,-⟩:=id hoA.ints;have HIA:=zh (show ∀ W,aa wA W → bD W (.slice QA FS.length qA) FS from fun W hW => hoA.ints.keep hW.below)
    have Mx:=zh (CR.out.after (show aa w9 wA from OL));have aa7:=zh (k_.out.after (aa5.out.after (show aa w9 wA from OL)));clear p0 p1 p2 hoA OL;unfold maxLen at aa6;cases C1
    ·go_wp2;go_meet
     case rel => exact Mx.out
    have Sx:=HFg.out rfl;have P1:=decide_eq_decide.1 Sx.cnt;have P2:=Sx.yes;have P3:=Sx.no;have P4:=Sx.fst;have P5:=It N sx mo;rw [← HC0.out,← QH.out] at P1;rw [← HC0.out,← YN.out] at P2 P3;rw [← QH.out,← YN.out,← HFS.out,← HD.out] at P4;rw [← HC0.out] at P5
    have hc:=kJ _ _ _ N sx _ FS wA (HN.out wA Mx.out) (by have:=Lc.out;omega) (HIA.out wA (ad _)) lH.out (by omega)
    obtain ⟨RD,hRD⟩ : ∃ z,z = bM N sx FS:=⟨_,rfl⟩
    have OG:=Sx.num;have Sy:=Sx.rej;rw [← HFS.out] at OG Sy;rw [← hRD,← QH.out] at OG;rw [Sy,← hRD] at hc;have Hc:=zh hc;have HP:=zh (And.intro P1 (And.intro P2 (And.intro P3 (And.intro P4 (And.intro P5 OG)))));clear Sx P1 P2 P3 P4 P5 hc OG Sy hRD;have p0:=PT.out wA Mx.out;have p1:=PU.out wA Mx.out;have p2:=Mr.out wA Mx.out;go_wp2_with fail;refine Hc.out.mono ?_;rintro e wB ⟨uB,rfl,hoB,MN⟩;obtain ⟨QB,qB,rfl,-,-,-⟩:=id hoB.ints;have YQ:=zh (Mx.out.after (show aa wA wB from MN));have XB:=zh (show aa wA wB from MN);clear p0 p1 p2 hoB MN Hc
    have e5 : ((RD.length : Int) != L0) = false:=by have:=HP.out.2.2.2.2.2;simp [this]
    by_cases hl : L0 = 0
    ·have hC : 0 < C0:=HP.out.1.2 hl;have e1 : (L0 == 0) = true:=by simp [hl]
     have e2 : (C0 == 0) = false:=by simp;omega
     have e3 : (0 < C0) = True:=by simp [hC]
     have e4 : (R1 == 2) = false:=by
      have h7:=HP.out.2.2.1;simp
      exact fun h => by have:=h7 h;omega
     by_cases h1 : R1 = 1
     ·have e6 : (R1 == 1) = true:=by simp [h1]
      have hFD:=HP.out.2.2.2.1 hl h1
      have HID:=zh (show ∀ W,aa wA W → bD W (.slice QA FS.length qA) D from fun W hW => by have:=HIA.out W hW;rw [hFD] at this ⊢;exact this)
      clear hl hC h1 hFD;go_wp2_with fail;refine (lG _ _ D wB (HID.out wB XB.out) (HI.out wB (aa7.out.after XB.out))).mono ?_;rintro e wC ⟨rfl,Mj⟩;have HsC:=zh (YQ.out.after (show aa wB wC from Mj));clear Mj;go_wp2;go_meet
      case rel => exact HsC.out
     ·have e6 : (R1 == 1) = false:=by simp [h1]
      clear hl hC h1;go_wp2;go_meet
      case rel => exact YQ.out
    ·have hC : ¬ 0 < C0:=fun h => hl (HP.out.1.1 h)
     have PV : C0 = 0:=by have:=HP.out.2.2.2.2.1;omega
     have e1 : (L0 == 0) = false:=by simp [hl]
     have e2 : (C0 == 0) = true:=by simp [PV]
     have e3 : (0 < C0) = False:=by simp [hC]
     have e6 : (R1 == 1) = false:=by
      have h7:=HP.out.2.1;simp
      exact fun h => h7 h PV
     by_cases h2 : R1 = 2
     ·have e4 : (R1 == 2) = true:=by simp [h2]
      clear hl hC PV h2;go_wp2;go_meet
      case rel => exact YQ.out
     ·have e4 : (R1 == 2) = false:=by simp [h2]
      clear hl hC PV h2;go_wp2;go_meet
      case rel => exact YQ.out
 case rest =>
  have Hc:=zh (show aa w2 wc from hcut);have Yf : Below w.heap.size w wc:=Below.trans Hww.out (Hc.out.below.mono Hww.out.size);have Hwc:=zh Yf;clear hcut Yf nd Xz Sv mg;go_wp2_with fail;refine (oV _ L2 wc (H2.out.keep Hwc.out) hL.2).mono ?_;rintro e w5 ⟨ve,vi,vn,M,SM,m,bd,rfl,ho,⟨Sz,hmb,rq⟩,jT⟩;obtain ⟨X0,x0,rfl,-,-,-⟩:=id ho.read.1;obtain ⟨X1,x1,rfl,-,-,-⟩:=id ho.read.2.1;obtain ⟨X2,x2,rfl,-,-,-⟩:=id ho.read.2.2;have hM5:=ho.read;obtain ⟨w6,zL⟩ : ∃ z,z = w5.alloc (.cells #[.slice X0 M.ends.length x0,.slice X1 M.ids.length x1,.slice X2 M.inputs.length x2] 27):=⟨_,rfl⟩
  obtain ⟨pm,RE⟩ : ∃ z,z = w5.heap.size:=⟨_,rfl⟩
  have SA : aa w5 w6:=by rw [zL];exact ah _ (ad _)
  have Gn : bH w6 pm (.slice X0 M.ends.length x0) (.slice X1 M.ids.length x1) (.slice X2 M.inputs.length x2):=by rw [zL,RE];exact bH.new _ _ _ _ _
  have Yo:=zh zL;have Hpm:=zh RE;have XC:=ae Gn.cells.1;have XD:=ae Gn.cells.2.1;have XE:=ae Gn.cells.2.2.1;have zP:=zh (And.intro XC (And.intro XD XE));clear zL RE Gn XC XD XE;have hM6:=hM5.keep SA.below;have HM:=zh (show ∀ W,aa w6 W → aT W (.slice X0 M.ends.length x0) (.slice X1 M.ids.length x1) (.slice X2 M.inputs.length x2) M from fun W hW => hM6.keep hW.below)
  have TE : Hid (Below w.heap.size w w6):=Below.trans Hwc.out ((Below.trans jT (SA.below.mono jT.size)).mono Hwc.out.size);have SB:=zh Sz.small.sz;obtain ⟨GD,XF⟩ : ∃ z,z = aG M m bd:=⟨_,rfl⟩
  obtain ⟨G1,YR⟩ : ∃ z,z = aR M m bd:=⟨_,rfl⟩
  obtain ⟨G2,hG2⟩ : ∃ z,z = a_ M m bd:=⟨_,rfl⟩
  obtain ⟨G3,YS⟩ : ∃ z,z = az M m bd:=⟨_,rfl⟩
  have hGl : GD.length ≤ 100:=by rw [XF];exact Nat.le_trans (Ri _ _ _) Sz.ends
  have yq : aa w6 w6:=ad _;have II:=l7 _ _ _ M m bd w6 (HM.out w6 yq) (by omega) (by omega) SB.out;rw [← XF,← YR,← hG2,← YS] at II;have PL:=zh II
  have aa8 : Hid (∀ W,aa w6 W → Calls Tryz.prog 30 #[.agg #[.slice X0 M.ends.length x0,.slice X1 M.ids.length x1,.slice X2 M.inputs.length x2],.int .i64 m,.int .i64 bd] W fun e w' => ∃ u,e = .returned (.tuple #[u,.int .i64 G1,.int .i64 G2,.bool G3]) ∧ Own w' W.heap.size u GD ∧ Below W.heap.size W w'):=fun W hW => by
   have tC:=lZ _ _ _ M m bd W (HM.out W hW) (by omega) (by omega) SB.out;rw [← XF,← YR,← hG2,← YS] at tC;exact tC
  have XN : G3 = true → G1 = 1 → aC M m GD = true ∧ (bX M m GD).length = 0:=fun h3 h1 => by
   rw [XF];exact K0 (YS.symm.trans h3) (YR.symm.trans h1)
  have Hff:=zh XN;have qe:=zh hmb;clear ho hM5 hM6 jT SA Sz hmb rq II XF YR hG2 YS XN;go_upto_region 37 with (fail);rw [← Yo.out,← Hpm.out];have p0:=zP.out.1 w6 yq;have p1:=zP.out.2.1 w6 yq;have p2:=zP.out.2.2 w6 yq;go_wp2_with fail;refine PL.out.mono ?_;rintro e w7 ⟨u7,rfl,ho7,ri⟩;obtain ⟨Q7,q7,rfl,-,aa9,-⟩:=id ho7.ints;have CY:=zh (show aa w6 w7 from ri);have HI7:=zh (show ∀ W,aa w7 W → bD W (.slice Q7 GD.length q7) GD from fun W hW => ho7.ints.keep hW.below)
  clear p0 p1 p2 ho7 ri yq PL;have p0:=zP.out.1 w7 CY.out;have p1:=zP.out.2.1 w7 CY.out;have p2:=zP.out.2.2 w7 CY.out;go_wp2_with fail;refine (aa8.out w7 CY.out).mono ?_;rintro e w8 ⟨u8,rfl,MI,yH⟩;obtain ⟨Q8,q8,rfl,-,Sw,-⟩:=id MI.ints;have SC:=zh (show aa w7 w8 from yH);have HI8:=zh (show ∀ W,aa w8 W → bD W (.slice Q8 GD.length q8) GD from fun W hW => MI.ints.keep hW.below)
  clear p0 p1 p2 MI yH;unfold maxLen at aa9 Sw;go_upto_region 39 with (fail);refine aB 19 (aa w8) (ad _) ?_;simp only [zT]
  iterate 4 (apply ag rfl;(intro W hW;go_simp;with_reducible rfl);simp only [zA])
  iterate 3 (apply aj rfl rfl;(intro hb;intro W hW;go_simp;with_reducible rfl);simp only [zA])
  (first | refine bu rfl rfl ?_ | (apply ag rfl;(intro W hW;go_simp;with_reducible rfl)));simp only [zA]
  apply ag rfl;(intro W hW;go_simp;with_reducible rfl);simp only [zA]
  iterate 3 (apply aj rfl rfl;(intro hb;intro W hW;go_simp;with_reducible rfl);simp only [zA])
  (first | refine bu rfl rfl ?_ | (apply ag rfl;(intro W hW;go_simp;with_reducible rfl)));simp only [zA]
  apply ag rfl;(intro W hW;go_simp;with_reducible rfl);simp only [zA]
  iterate 2 (apply aj rfl rfl;(intro hb;intro W hW;go_simp;with_reducible rfl);simp only [zA])
  refine bC (v:=?_) rfl rfl ?_ ?_;rotate_left;(intro hb;intro W hW;unfold bG;go_simp;(with_reducible refine (lG _ _ GD W (HI7.out W (SC.out.after hW)) (HI8.out W hW)).mono ?_);rintro e W' ⟨rfl,bg⟩;first | (refine ⟨?_,aa.trans hW bg⟩;with_reducible rfl) | (subst bg;refine ⟨?_,hW⟩;with_reducible rfl))
  simp only [zA]
  apply aj rfl rfl;(intro hb;intro W hW;go_simp;with_reducible rfl);simp only [zA]
  (first | refine bu rfl rfl ?_ | (apply ag rfl;(intro W hW;go_simp;with_reducible rfl)));simp only [zA]
  intro W9 hW9;have Mg:=zh (CY.out.after (SC.out.after hW9));have aa_:=zh (SC.out.after hW9);have YT : Hid (Below w.heap.size w W9):=Below.trans TE.out (Mg.out.below.mono TE.out.size);clear hW9;cases G3
  ·go_wp2;go_ret;exact ⟨rfl,YT.out⟩
  by_cases hG : G1 = 1
  ·have e1 : (G1 == 1) = true:=by simp [hG]
   obtain ⟨r1,r2⟩:=Hff.out rfl hG
   have hc:=lC _ _ _ M m _ GD W9 (HM.out W9 Mg.out) (by have:=qe.out;omega) (HI7.out W9 aa_.out) SB.out (by omega)
   rw [r1,List.length_eq_zero_iff.1 r2] at hc;have NF:=zh hc;clear hG r1 r2 hc;have p0:=zP.out.1 W9 Mg.out;have p1:=zP.out.2.1 W9 Mg.out;have p2:=zP.out.2.2 W9 Mg.out;go_wp2_with fail;refine NF.out.mono ?_;rintro e wD ⟨uD,rfl,hoD,hbD⟩;obtain ⟨QD,qD,hQD,-,-,-⟩:=id hoD.ints;have hQD : uD = .slice QD 0 qD:=hQD;subst hQD;have HbG : Hid (Below w.heap.size w wD):=Below.trans YT.out (Below.mono hbD YT.out.size);clear p0 p1 p2 hoD hbD NF;go_wp2;go_ret;exact ⟨rfl,HbG.out⟩
  ·have e1 : (G1 == 1) = false:=by simp [hG]
   clear hG;go_wp2;go_ret;exact ⟨rfl,YT.out⟩
end Go.Proofs.YtgmdpppljkmabaaGreat
