/- Parts of the proof: walks of functions and plain laws. -/
import Derived.Test.YtgmdpppljkmabaaGreatP0
import Derived.Test.YtgmdpppljkmabaaGreatP23
set_option maxRecDepth 100000
set_option maxHeartbeats 16000000
namespace Go.Proofs.YtgmdpppljkmabaaGreat
open Go Go.RowKit
theorem Gd.joinLow {R M : Nat} {n : am} {v u : Nat} (h : Gd R M n) (hv : v < n.ends.length) (hu : u < n.ends.length) (V4 : v ≠ u) (h1 : (cG n v).length < 5) (h2 : (cG n u).length < 5) (hR : 5 ≤ R) : Gd R M (dq n v u):=by
 refine ⟨by rw [d8];exact h.ends,fun k es hk => ?_,h.ids,by rw [d8];exact h.inputs,ts h.wf hv hu⟩
 have h3:=nW hk
 have lq : k < n.ends.length:=by have:=aq hk;rwa [d8] at this
 rw [← h3,kT hv hu];have h4:=h.row k _ (cD lq)
 by_cases a : k = u
 ·subst a
  rw [if_pos rfl,if_neg (Ne.symm V4)];omega
 ·rw [if_neg a]
  by_cases b : k = v
  ·subst b;rw [if_pos rfl];omega
  ·rw [if_neg b];omega
theorem wg (cb : Nat) (A : Option Addr) (L c P most M : Nat) (w : World) (hc : dQ w cb A L c P) (hP : P ≤ 4300000000000000000) (tg : 1 ≤ most) (xt : most ≤ M) (hM : M ≤ 40) :
  Calls Tryz.prog 191 #[.pointer (some ⟨cb,0,none⟩),.int .i64 most] w (CA cb w.heap.size A L c (P + 80000000000000000) w (TN 100 M)):=by
 have iw:=hc.lt;obtain ⟨B,wb⟩ : ∃ z,z = w.heap.size + 1:=⟨_,rfl⟩
 obtain ⟨w0,ck⟩ : ∃ z,z = w.alloc (.cells #[.slice none 0 0,.slice none 0 0,.slice none 0 0] 27):=⟨_,rfl⟩
 have cX : aa w w0:=by rw [ck];exact ah _ (ad _)
 have kg : w0.heap.size = B:=by rw [ck,wb];simp
 have kq : bQ w0 w.heap.size (.slice none 0 0) (.slice none 0 0) (.slice none 0 0):=by
  rw [ck];show (w.heap.push _)[w.heap.size]? = _
  rw [Array.getElem?_push_size]
 have nP:=zh kq;have pK:=zh cX;have dh:=zh ck;have iy:=zh wb;have vS:=zh kg;have LK:=zh (hc.since cX);clear kq cX ck hc wb kg
 go_enter Tryz.func191,Tryz.ntmps191
 go_upto_region 1 with (fail);rw [← dh.out];go_wp2_with fail;refine (E9 cb A L c P most M w0 LK.out (by omega) tg xt hM).mono ?_;rintro e w1 ⟨Wr,Ws,Wt,N0,S0,rfl,ho,⟨EX,zM⟩,nX,lJ⟩;rw [vS.out] at ho lJ;obtain ⟨m,mS⟩ : ∃ m,N0.ends.length = m:=⟨_,rfl⟩
 have TD : m ≤ M:=by rw [← mS];exact EX.ends
 have kW : 0 < m:=by omega
 obtain ⟨A1,c1,rfl,-,k9,-⟩:=id ho.read.1;obtain ⟨AI,cI,rfl,-,-,-⟩:=id ho.read.2.1;obtain ⟨AN,cN,rfl,-,-,-⟩:=id ho.read.2.2;obtain ⟨w3,gY⟩ : ∃ z,z = w1.alloc (.cells #[.slice A1 N0.ends.length c1,.slice AI N0.ids.length cI,.slice AN N0.inputs.length cN] 27):=⟨_,rfl⟩
 obtain ⟨pb,fo⟩ : ∃ z,z = w1.heap.size:=⟨_,rfl⟩
 have mO : aa w1 w3:=by rw [gY];exact ah _ (ad _)
 have j6 : B ≤ w1.heap.size:=by rw [← vS.out];exact lJ.size
 have hmb : Mb cb B pb A L c (P + 72057594037927936) w0 w3 (.slice A1 N0.ends.length c1) (.slice AI N0.ids.length cI) (.slice AN N0.inputs.length cN) N0 S0:=
  ⟨ho.keep mO.below,by rw [gY,fo];exact bH.new _ _ _ _ _,fun hj => by have:=(ho.range _ hj).2;omega,nX.since mO,lJ.trans ((CB.of mO).mono j6)⟩
 have qe:=zh hmb
 have eA : Hid (B ≤ pb ∧ pb < w3.heap.size):=⟨by rw [fo];exact j6,by rw [gY,fo];simp⟩
 have sG:=zh gY;have nY:=zh fo;have EY:=zh EX;have R_:=zh mS;have fO:=hmb.box.cells.1
 have lF : cb < B:=by have:=iy.out;omega
 have it : pb ≠ cb:=by have:=eA.out;omega
 rw [mS] at fO;have m0 : IntKind.i64.wrap (1 + (m : Int)) = 1 + (m : Int):=aL _ (by omega) (by omega);clear hmb gY fo EX mS ho mO zM j6 nX lJ;go_upto_region 2 with (fail);rw [← sG.out,← nY.out];go_wp2_with fail;refine (ew cb A L c _ (1 + (m : Int)) w3 qe.out.cur (by omega) (by omega)).mono ?_;rintro e w4 ⟨x4,rfl,hx4,wh,sl⟩;have hx5 : x4 ≤ m:=by omega
 have Eg:=zh (qe.out.seen sl wh lF eA.out.1 (by have:=eA.out;omega))
 have ME : Hid (B ≤ w4.heap.size):=by show _ ≤ _;have:=eA.out;have:=sl.size;omega
 clear wh sl fO hx4;go_upto_region 3 with (fail);obtain ⟨Q,hQ⟩ : ∃ z,z = P + 72057594037927936 + 2:=⟨_,rfl⟩
 have HQ : Hid (Q = P + 72057594037927936 + 2):=hQ;rw [← hQ] at Eg;clear hQ
 go_loopw [6] (fun i wr => ∃ (k : Nat) (ve vi vn : Value) (N : am) (S : List Nat),k ≤ m ∧ i = .int .i64 k ∧ Mb cb B pb A L c (Q + 4 * (m - k)) w0 wr ve vi vn N S ∧ Gd 100 M N ∧ N.ends.length = m ∧ B ≤ wr.heap.size) (fun i _ => (intOf i).toNat)
 case atStart => exact ⟨x4,_,_,_,N0,S0,hx5,rfl,⟨Eg.out.own,Eg.out.box,Eg.out.nb,Eg.out.cur.mono (by omega),Eg.out.far⟩,EY.out,R_.out,ME.out⟩
 case round =>
  obtain ⟨k,ve,vi,vn,N,S2,hk,rfl,hm,iS,mS,ed⟩:=hrel;obtain ⟨Fo,jN,rfl,-,qt,-⟩:=id hm.own.read.1;obtain ⟨oS,oU,rfl,-,-,-⟩:=id hm.own.read.2.1;obtain ⟨wM,pZ,rfl,-,-,-⟩:=id hm.own.read.2.2;obtain ⟨g,rfl,-⟩:=hm.own.head (by omega);have Hm:=zh hm;have i_:=zh iS;have gx:=zh mS;have lH:=zh ed;clear hm iS mS ed
  by_cases hlt : 0 < k
  ·have e0 : ((0 : Int) < (k : Int)) = True:=by simp;omega
   have m4 : IntKind.i64.wrap ((k : Int) - 1) = (k : Int) - 1:=aL _ (by omega) (by omega)
   have ot:=zh (show wr.cell? ⟨pb,0,none⟩ = some (.slice (some ⟨g,0,none⟩) m jN) from by obtain ⟨a,-⟩:=Hm.out.box.cells;rw [gx.out] at a;exact a)
   obtain ⟨wo,rfl⟩ : ∃ z,z = wr:=⟨_,rfl⟩
   go_upto_region 5 with (fail);refine aI (fun W => W.cell? ⟨pb,0,none⟩ = some (.slice (some ⟨g,0,none⟩) m jN)) 10 [false,false,false,false,true,false,false,false,false,true] (by kernel_rfl) (by kernel_rfl) (show (World.drew wo).cell? ⟨pb,0,none⟩ = some (.slice (some ⟨g,0,none⟩) m jN) from ot.out) ?_
   simp only [d_,dO,zT]
   iterate 8 (apply bY rfl;(intro W hW;(have k0:=hW);go_simp;with_reducible rfl);simp only [zA])
   obtain ⟨W,dr⟩ : ∃ W,W = World.drew wo:=⟨_,rfl⟩
   rw [← dr];have hW:=(show (World.drew wo).cell? ⟨pb,0,none⟩ = some (.slice (some ⟨g,0,none⟩) m jN) from ot.out);rw [← dr] at hW;have fV:=zh dr;clear dr;refine Or.inl ⟨rfl,?_⟩
   go_simp
   (with_reducible refine (ew cb A L c (Q + 4 * (m - k)) (m : Int) W (by rw [fV.out];exact Hm.out.cur.since (ak (ad _))) (by have:=HQ.out;omega) (by omega)).mono ?_)
   rintro e W' ⟨a,rfl,ha,iq,hC⟩;refine ⟨_,rfl,aD hW it _ hC,?_⟩
   replace hW:=aD hW it _ hC
   have oL : aa wo W:=(by rw [fV.out];exact ak (ad _))
   have vH:=zh (((gB.refl cb wo).after oL).trans hC);have LG:=zh iq;have Ha:=zh ha;clear hC iq oL ha;obtain ⟨wp,rfl⟩ : ∃ z,z = W':=⟨_,rfl⟩
   (try simp only [zA])
   refine Or.inl ⟨rfl,?_⟩
   go_simp
   (with_reducible refine (ew cb A L c (Q + 4 * (m - k) + 2) (m : Int) _ LG.out (by have:=HQ.out;omega) (by omega)).mono ?_)
   rintro e W' ⟨b,rfl,hb,iq,hC⟩;refine ⟨_,rfl,aD hW it _ hC,?_⟩
   replace hW:=aD hW it _ hC
   have fP:=zh (Hm.out.seen (vH.out.trans hC) iq lF eA.out.1 lH.out);have xz : Hid (B ≤ W'.heap.size):=Nat.le_trans lH.out (vH.out.trans hC).size;clear hC iq
   (try simp only [zA])
   simp only [bA]
   have Er : a < m:=by have:=Ha.out;omega
   have Wu : b < m:=by omega
   clear hb;obtain ⟨w5,rfl⟩ : ∃ z,z = W':=⟨_,rfl⟩
   have Hx0:=zh hW;clear hW;obtain ⟨xa,E_⟩ : ∃ z,z = cG N a:=⟨_,rfl⟩
   obtain ⟨xb,Fa⟩ : ∃ z,z = cG N b:=⟨_,rfl⟩
   have MG:=cD (n:=N) (v:=a) (by have:=gx.out;omega)
   have FK:=cD (n:=N) (v:=b) (by have:=gx.out;omega)
   rw [← E_] at MG;rw [← Fa] at FK;have hla : xa.length ≤ 100:=i_.out.row _ _ MG;have pF : xb.length ≤ 100:=i_.out.row _ _ FK;obtain ⟨ua,Ta,II,-,Wv,-,-,-⟩:=fP.out.own.rowCell MG;obtain ⟨AUa,cUa,rfl,-,-,-⟩:=id Wv.read;obtain ⟨ub,Tb,LR,-,Ww,-,-,-⟩:=fP.out.own.rowCell FK;obtain ⟨AUb,cUb,rfl,-,-,-⟩:=id Ww.read;have Ov:=zh E_;have Sa:=zh Fa;have Hxa:=zh MG;have pa:=ae II;have pq:=ae LR;have p0:=ae Hx0.out;have p1:=ae fP.out.box.cells.2.1;have p2:=ae fP.out.box.cells.2.2.1
   have Ki : Hid (aT w5 (.slice (some ⟨g,0,none⟩) m jN) (.slice oS N.ids.length oU) (.slice wM N.inputs.length pZ) N):=by show aT _ _ _ _ _;have h9:=fP.out.own.read;rw [gx.out] at h9;exact h9
   clear E_ Fa MG FK Wv Ww II LR
   by_cases pt : a = b
   ·have e1 : ((a : Int) = (b : Int)) = True:=by simp;omega
    have q0:=p0 w5 (ad _);clear p0 p1 p2 pa pq;go_wp2;go_roundw
    case rel => exact ⟨k - 1,_,_,_,N,S2,by omega,by rw [show ((k - 1 : Nat) : Int) = (k : Int) - 1 by omega],(⟨fP.out.own,fP.out.box,fP.out.nb,fP.out.cur.mono (by omega),fP.out.far⟩),i_.out,gx.out,xz.out⟩
    case measure => simp [intOf];omega
   ·have e1 : ((a : Int) = (b : Int)) = False:=by simp;omega
    have q0:=p0 w5 (ad _);have q1:=p1 w5 (ad _);have q2:=p2 w5 (ad _);go_wp2_with fail;refine (kz _ _ _ N a xa w5 Ki.out Hxa.out (by omega)).mono ?_;rintro e w6 ⟨u6,rfl,gX,Fb⟩;have yq : aa w5 w6:=Fb;have oC:=zh (fP.out.since yq lF eA.out.1 xz.out);have xA : Hid (B ≤ w6.heap.size):=Nat.le_trans xz.out yq.below.size;obtain ⟨A6,c6,rfl,-,-,-⟩:=id gX.ints;have Ho6:=zh gX;clear gX q0 q1 q2;go_wp2_with fail
    refine (n_ _ (xa.map (·.1)) (b : Int) w6 (by have h9:=Ho6.out.ints;rw [List.length_map] at h9;exact h9)).mono ?_
    rintro e w7 ⟨rfl,nT⟩;subst nT;have q0:=p0 w6 yq;have q1:=p1 w6 yq;have q2:=p2 w6 yq;have qa:=pa w6 yq;have qb:=pq w6 yq;clear p0 p1 p2 pa pq yq Fb;cases hh : jP (xa.map (·.1)) (b : Int)
    ·by_cases h5 : xa.length < 5
     ·have e5 : ((xa.length : Int) < 5) = True:=by simp;omega
      by_cases h6 : xb.length < 5
      ·have e6 : ((xb.length : Int) < 5) = True:=by simp;omega
       go_wp2_with fail
       refine (mI _ _ _ N a b w6 (by have h9:=oC.out.own.read;rw [gx.out] at h9;exact h9) (by rw [gx.out];exact Er) (by rw [gx.out];exact Wu) ((i_.out.mono (R':=100) (M':=40) (by omega) hM).small (by omega) (by omega))).mono ?_
       rintro e w8 ⟨Wj,Wk,Wl,S3,rfl,dL,b_⟩;have oP : aa w6 w8:=b_;obtain ⟨D0,d0,rfl,-,-,-⟩:=id dL.read.1;obtain ⟨D1,d1,rfl,-,-,-⟩:=id dL.read.2.1;obtain ⟨D2,d2,rfl,-,-,-⟩:=id dL.read.2.2;have CC:=oC.out.assign (CB.of oP) (oC.out.cur.since oP) dL oC.out.box.lt lF eA.out.1 xA.out;clear q0 q1 q2 qa qb;obtain ⟨k0,k1,k2,f0,f1,f2⟩:=(oC.out.box.below oP oC.out.box.lt).cells;have p7:=zh CC
       have nV : B ≤ (set3 w8 pb (.slice D0 (dq N a b).ends.length d0) (.slice D1 (dq N a b).ids.length d1) (.slice D2 (dq N a b).inputs.length d2)).heap.size:=by rw [eH];exact Nat.le_trans xA.out oP.below.size
       have v_:=zh nV
       have xo:=zh (i_.out.joinLow (v:=a) (u:=b) (by rw [gx.out];exact Er) (by rw [gx.out];exact Wu) pt (by rw [← Ov.out];omega) (by rw [← Sa.out];omega) (by omega))
       have Cb:=zh ((d8 N a b).trans gx.out);clear CC dL b_ oP nV;go_wp2;go_roundw
       case rel => exact ⟨k - 1,_,_,_,dq N a b,S3,by omega,by rw [show ((k - 1 : Nat) : Int) = (k : Int) - 1 by omega],⟨p7.out.own,p7.out.box,p7.out.nb,p7.out.cur.mono (by omega),p7.out.far⟩,xo.out,Cb.out,v_.out⟩
       case measure => simp [intOf];omega
      ·have e6 : ((xb.length : Int) < 5) = False:=by simp;omega
       go_wp2;go_roundw
       case rel => exact ⟨k - 1,_,_,_,N,S2,by omega,by rw [show ((k - 1 : Nat) : Int) = (k : Int) - 1 by omega],(⟨oC.out.own,oC.out.box,oC.out.nb,oC.out.cur.mono (by omega),oC.out.far⟩),i_.out,gx.out,xA.out⟩
       case measure => simp [intOf];omega
     ·have e5 : ((xa.length : Int) < 5) = False:=by simp;omega
      go_wp2;go_roundw
      case rel => exact ⟨k - 1,_,_,_,N,S2,by omega,by rw [show ((k - 1 : Nat) : Int) = (k : Int) - 1 by omega],(⟨oC.out.own,oC.out.box,oC.out.nb,oC.out.cur.mono (by omega),oC.out.far⟩),i_.out,gx.out,xA.out⟩
      case measure => simp [intOf];omega
    ·go_wp2;go_roundw
     case rel => exact ⟨k - 1,_,_,_,N,S2,by omega,by rw [show ((k - 1 : Nat) : Int) = (k : Int) - 1 by omega],(⟨oC.out.own,oC.out.box,oC.out.nb,oC.out.cur.mono (by omega),oC.out.far⟩),i_.out,gx.out,xA.out⟩
     case measure => simp [intOf];omega
  ·obtain rfl : k = 0:=by omega
   obtain ⟨k0,k1,k2,-,-,-⟩:=Hm.out.box.cells;have IH:=i_;have je:=Hm;have pJ:=lH;obtain ⟨w5,rfl⟩ : ∃ z,z = wr:=⟨_,rfl⟩
   go_upto_region 8 with (fail);go_wp2_with fail
   refine (tr cb A L c _ B 100 M _ _ _ N S2 w5 je.out.cur (by have:=HQ.out;omega) je.out.own lF pJ.out IH.out (by omega) (by omega) (by have:=gx.out;omega)).mono ?_
   rintro e w6 ⟨PA,PB,PC,N6,S6,rfl,gX,⟨wd,sq⟩,gn,lK⟩;obtain ⟨D0,d0,rfl,-,-,-⟩:=id gX.read.1;obtain ⟨D1,d1,rfl,-,-,-⟩:=id gX.read.2.1;obtain ⟨D2,d2,rfl,-,-,-⟩:=id gX.read.2.2;have co:=(je.out.far.mono (Nat.le_refl B)).trans lK
   have iQ:=co.blkN nP.out (by have:=iy.out;omega) (by omega)
   obtain ⟨e0,e1,e2,f0,f1,f2⟩:=iQ.box.cells;have aY:=gX;rw [iy.out] at aY co;have ez:=zh (gC pK.out aY gn co iw);have EZ:=zh wd;have Af:=zh sq;clear co iQ aY wd sq gn lK gX k0 k1 k2;go_wp2;refine bodyPost_ret (v:=.agg #[.slice D0 N6.ends.length d0,.slice D1 N6.ids.length d1,.slice D2 N6.inputs.length d2]) (by simp [results,Tryz.results191,go_sem, *]) rfl ?_;obtain ⟨r1,r2,r3⟩:=ez.out
   exact ⟨_,_,_,N6,S6,rfl,r1,⟨Af.out.mono (by omega) (Nat.le_refl _),by have:=gx.out;have:=EZ.out.len;omega⟩,r2.mono (by have:=HQ.out;omega),r3⟩
theorem aA.turnIds {w w' : World} {base : Nat} {ve vi vn vi' : Value} {N : am} {S T : List Nat} {ids' : List Int} (h : aA w base ve vi vn N S) (ho : nj w' base vi' ids' T) (fm : aU vi.ownBlock.toList w w') (hT : ∀ j ∈ T,j ∈ vi.ownBlock.toList ∨ w.heap.size ≤ j) :
  ∃ S',aA w' base ve vi' vn { N with ids:=ids' } S' ∧ ∀ j ∈ S',j ∈ S ∨ w.heap.size ≤ j:=by
 have wV:=h.range;obtain ⟨S1,S2,S3,h1,h2,h3,h4,h5⟩:=h;have e2 : S2 = vi.ownBlock.toList:=h2.2;rw [← e2] at fm hT;have rV:=h5;rw [h4,List.nodup_append,List.nodup_append] at h5;obtain ⟨n1,⟨n2,n3,d23⟩,d1⟩:=h5
 have m1 : ∀ j ∈ S1,j ∈ S:=fun j hj => by rw [h4];exact List.mem_append_left _ hj
 have m2 : ∀ j ∈ S2,j ∈ S:=fun j hj => by rw [h4];exact List.mem_append_right _ (List.mem_append_left _ hj)
 have m3 : ∀ j ∈ S3,j ∈ S:=fun j hj => by rw [h4];exact List.mem_append_right _ (List.mem_append_right _ hj)
 have x1 : ∀ j ∈ S1,j ∉ S2:=fun j hj hk => d1 j hj j (List.mem_append_left _ hk) rfl
 have x3 : ∀ j ∈ S3,j ∉ S2:=fun j hj hk => d23 j hk j hj rfl
 have t1 : ∀ j ∈ S1,j ∉ T:=fun j hj hk => by
  rcases hT j hk with h | h
  ·exact x1 j hj h
  ·have:=(wV j (m1 j hj)).2;omega
 have t3 : ∀ j ∈ S3,j ∉ T:=fun j hj hk => by
  rcases hT j hk with h | h
  ·exact x3 j hj h
  ·have:=(wV j (m3 j hj)).2;omega
 refine ⟨S1 ++ (T ++ S3),⟨S1,T,S3,kv.only h1 fm x1,ho,gQ.only h3 fm x3,rfl,?_⟩,?_⟩
 ·rw [List.nodup_append,List.nodup_append];refine ⟨n1,⟨gQ.nodup ho,n3,fun a ha b hb e => t3 b hb (e ▸ ha)⟩,fun a ha b hb e => ?_⟩
  rcases List.mem_append.1 hb with hb | hb
  ·exact t1 a ha (e ▸ hb)
  ·exact d1 a ha b (List.mem_append_right _ hb) e
 ·intro j hj;rcases List.mem_append.1 hj with hj | hj
  ·exact .inl (m1 j hj)
  ·rcases List.mem_append.1 hj with hj | hj
   ·rcases hT j hj with h | h
    ·exact .inl (m2 j h)
    ·exact .inr h
   ·exact .inl (m3 j hj)
theorem aA.turnIn {w w' : World} {base : Nat} {ve vi vn YB : Value} {N : am} {S T : List Nat} {Wx : List Int} (h : aA w base ve vi vn N S) (ho : nj w' base YB Wx T) (fm : aU vn.ownBlock.toList w w') (hT : ∀ j ∈ T,j ∈ vn.ownBlock.toList ∨ w.heap.size ≤ j) :
  ∃ S',aA w' base ve vi YB { N with inputs:=Wx } S' ∧ ∀ j ∈ S',j ∈ S ∨ w.heap.size ≤ j:=by
 have wV:=h.range;obtain ⟨S1,S2,S3,h1,h2,h3,h4,h5⟩:=h;have e3 : S3 = vn.ownBlock.toList:=h3.2;rw [← e3] at fm hT;rw [h4,List.nodup_append,List.nodup_append] at h5;obtain ⟨n1,⟨n2,n3,d23⟩,d1⟩:=h5
 have m1 : ∀ j ∈ S1,j ∈ S:=fun j hj => by rw [h4];exact List.mem_append_left _ hj
 have m2 : ∀ j ∈ S2,j ∈ S:=fun j hj => by rw [h4];exact List.mem_append_right _ (List.mem_append_left _ hj)
 have m3 : ∀ j ∈ S3,j ∈ S:=fun j hj => by rw [h4];exact List.mem_append_right _ (List.mem_append_right _ hj)
 have x1 : ∀ j ∈ S1,j ∉ S3:=fun j hj hk => d1 j hj j (List.mem_append_right _ hk) rfl
 have x2 : ∀ j ∈ S2,j ∉ S3:=fun j hj hk => d23 j hj j hk rfl
 have t1 : ∀ j ∈ S1,j ∉ T:=fun j hj hk => by
  rcases hT j hk with h | h
  ·exact x1 j hj h
  ·have:=(wV j (m1 j hj)).2;omega
 have t2 : ∀ j ∈ S2,j ∉ T:=fun j hj hk => by
  rcases hT j hk with h | h
  ·exact x2 j hj h
  ·have:=(wV j (m2 j hj)).2;omega
 refine ⟨S1 ++ (S2 ++ T),⟨S1,S2,T,kv.only h1 fm x1,gQ.only h2 fm x2,ho,rfl,?_⟩,?_⟩
 ·rw [List.nodup_append,List.nodup_append];refine ⟨n1,⟨n2,gQ.nodup ho,fun a ha b hb e => t2 a ha (e ▸ hb)⟩,fun a ha b hb e => ?_⟩
  rcases List.mem_append.1 hb with hb | hb
  ·exact d1 a ha b (List.mem_append_left _ hb) e
  ·exact t1 a ha (e ▸ hb)
 ·intro j hj;rcases List.mem_append.1 hj with hj | hj
  ·exact .inl (m1 j hj)
  ·rcases List.mem_append.1 hj with hj | hj
   ·exact .inl (m2 j hj)
   ·rcases hT j hj with h | h
    ·exact .inl (m3 j h)
    ·exact .inr h
def fX (k : Nat) (e : Int × Int) : Int × Int:=(e.1 + (k : Int),e.2)
def gO (a b : am) : am:=⟨a.ends ++ b.ends.map (List.map (fX a.ends.length)),a.ids ++ b.ids,a.inputs ++ b.inputs⟩
theorem Gd.union {R M M' : Nat} {a b : am} (ha : Gd R M a) (hb : Gd R M' b) : Gd R (M + M') (gO a b):=by
 have hl : (gO a b).ends.length = a.ends.length + b.ends.length:=by simp [gO]
 have dG : ∀ (k : Nat) (es : List (Int × Int)),(gO a b).ends[k]? = some es → (k < a.ends.length ∧ a.ends[k]? = some es) ∨ (∃ fs,b.ends[k - a.ends.length]? = some fs ∧ es = fs.map (fX a.ends.length) ∧ a.ends.length ≤ k):=fun k es h => by
  unfold gO at h;rcases Nat.lt_or_ge k a.ends.length with hk | hk
  ·left;exact ⟨hk,by simpa [List.getElem?_append_left hk] using h⟩
  ·right
   simp only [List.getElem?_append_right hk,List.getElem?_map] at h
   cases hf : b.ends[k - a.ends.length]? with
   | none => rw [hf] at h;simp at h
   | some fs => rw [hf] at h;simp at h;exact ⟨fs,rfl,h.symm,hk⟩
 refine ⟨by have:=ha.ends;have:=hb.ends;omega,fun k es h => ?_,by simp only [gO,List.length_append];have:=ha.ids;have:=hb.ids;omega,by rw [hl];simp only [gO,List.length_append];rw [ha.inputs,hb.inputs],fun k es h e he => ?_⟩
 ·rcases dG k es h with ⟨-,h1⟩ | ⟨fs,h1,rfl,-⟩
  ·exact ha.row k es h1
  ·rw [List.length_map];exact hb.row _ fs h1
 ·rcases dG k es h with ⟨-,h1⟩ | ⟨fs,h1,rfl,-⟩
  ·obtain ⟨x,y,gs,q1,q2,q3⟩:=ha.wf k es h1 e he;refine ⟨x,y,gs,q1,?_,q3⟩;unfold gO;simp only [];rw [List.getElem?_append_left (aq q2)];exact q2
  ·obtain ⟨e0,h2,rfl⟩:=List.mem_map.1 he;obtain ⟨x,y,gs,rfl,q2,q3⟩:=hb.wf _ fs h1 e0 h2
   refine ⟨x + a.ends.length,y,gs.map (fX a.ends.length),by simp [fX],?_,by rw [List.length_map];exact q3⟩
   unfold gO;simp only [];rw [List.getElem?_append_right (by omega),Nat.add_sub_cancel,List.getElem?_map,q2];rfl
theorem jh {w : World} {ops : Array Oper} {rest : List Oper} {o : Oper} {a : Act} {Q : Exit → Act → World → Prop} (iS : o.guard = none) (s x : Operand)
  (ho : o.op = .call { callee:=.builtin .append,args:=#[s,x],argTypes:=#[25,25] }) {base : Nat} {v u : Value} {xs ys : List Int} (hs : a.eval s = v) (h : Own w base v xs) (hx : a.eval x = u) (hu : bD w u ys) (hl : xs.length + ys.length ≤ 17592186044416) (ky : base ≤ w.heap.size)
  (k : ∀ v' w' T,nj w' base v' (xs ++ ys) T → aU v.ownBlock.toList w w' → (∀ j ∈ T,j ∈ v.ownBlock.toList ∨ w.heap.size ≤ j) → wpList Tryz.prog ops Q rest (a.put o.dst v') w') : wpList Tryz.prog ops Q (o :: rest) a w:=by
 obtain ⟨A,c,rfl,ft,hm,hA⟩:=hu;rcases Nat.eq_zero_or_pos ys.length with h0 | h0
 ·obtain rfl : ys = []:=List.eq_nil_of_length_eq_zero h0
  refine rK iS s x ho hs h A c hx ?_;exact k v w _ ⟨by simpa using h,rfl⟩ (aU.refl _ _) (fun j hj => .inl hj)
 ·obtain ⟨y0,yW⟩:=aW ys 0 h0;obtain ⟨b,off,rfl,_⟩:=hA 0 y0 yW
  refine Ba iS s x ho hs h b off c ys hx (fun j y hj => by
   obtain ⟨b',pl,e,hc⟩:=hA j y hj;cases e
   exact hc) h0 hl ky ?_
  intro g cap w' h1 h2 h3 h4;refine k _ w' [g] ⟨h1,by simp [Value.ownBlock]⟩ (aU.of_grown h2) (fun j hj => ?_)
  simp at hj
  subst hj;rcases h3 with h3 | h3
  ·left;rw [h3];simp
  ·right;omega
theorem CG (ve vi vn ue ui un : Value) (a b : am) (w : World) (h : aT w ve vi vn a) (h' : aT w ue ui un b) (ha : pT a) (hb : pT b) (Wb : MF b) :
  Calls Tryz.prog 192 #[.agg #[ve,vi,vn],.agg #[ue,ui,un]] w (pu w (gO a b)):=by
 obtain ⟨A1,c1,rfl,rj,k9,-⟩:=id h.1;obtain ⟨AI,cI,rfl,-,-,-⟩:=id h.2.1;obtain ⟨AN,cN,rfl,-,-,-⟩:=id h.2.2;obtain ⟨B1,d1,rfl,lp,f6,-⟩:=id h'.1;obtain ⟨BI,dI,rfl,-,-,-⟩:=id h'.2.1;obtain ⟨BN,dN,rfl,-,-,-⟩:=id h'.2.2;unfold maxLen at k9 f6;obtain ⟨w0,ck⟩ : ∃ z,z = (w.alloc (.cells #[.slice A1 a.ends.length c1,.slice AI a.ids.length cI,.slice AN a.inputs.length cN] 27)).alloc (.cells #[.slice B1 b.ends.length d1,.slice BI b.ids.length dI,.slice BN b.inputs.length dN] 27):=⟨_,rfl⟩
 obtain ⟨wa,kH⟩ : ∃ z,z = w0.alloc (.cells #[.slice none 0 0,.slice none 0 0,.slice none 0 0] 27):=⟨_,rfl⟩
 have cX : aa w w0:=by rw [ck];exact ah _ (ah _ (ad _))
 have oy : aa w0 wa:=by rw [kH];exact ah _ (ad _)
 have qc : w0.heap.size = w.heap.size + 1 + 1:=by rw [ck];simp
 have p0 : ∀ W,aa w0 W → W.cell? ⟨w.heap.size,0,none⟩ = some (.slice A1 a.ends.length c1):=ae (by rw [ck];simp)
 have p1 : ∀ W,aa w0 W → W.cell? ⟨w.heap.size,1,none⟩ = some (.slice AI a.ids.length cI):=ae (by rw [ck];simp)
 have p2 : ∀ W,aa w0 W → W.cell? ⟨w.heap.size,2,none⟩ = some (.slice AN a.inputs.length cN):=ae (by rw [ck];simp)
 have q0 : ∀ W,aa w0 W → W.cell? ⟨w.heap.size + 1,0,none⟩ = some (.slice B1 b.ends.length d1):=ae (by rw [ck];simp)
 have q1 : ∀ W,aa w0 W → W.cell? ⟨w.heap.size + 1,1,none⟩ = some (.slice BI b.ids.length dI):=ae (by rw [ck];simp)
 have q2 : ∀ W,aa w0 W → W.cell? ⟨w.heap.size + 1,2,none⟩ = some (.slice BN b.inputs.length dN):=ae (by rw [ck];simp)
 have HA:=zh (show ∀ X,aa w0 X → aT X (.slice A1 a.ends.length c1) (.slice AI a.ids.length cI) (.slice AN a.inputs.length cN) a from fun X hX => h.keep (cX.after hX).below)
 have HB:=zh (show ∀ X,aa w0 X → aT X (.slice B1 b.ends.length d1) (.slice BI b.ids.length dI) (.slice BN b.inputs.length dN) b from fun X hX => h'.keep (cX.after hX).below)
 have Mu : Hid (∀ X,aa wa X → bQ X (w.heap.size + 1 + 1) (.slice none 0 0) (.slice none 0 0) (.slice none 0 0)):=fun X hX => by
  refine bQ.since (W:=wa) ?_ hX;rw [kH,← qc];show (w0.heap.push _)[w0.heap.size]? = _
  rw [Array.getElem?_push_size]
 have H4 : Hid (wa.heap.size = w.heap.size + 1 + 1 + 1):=by show _ = _;rw [kH,← qc];simp
 have dh:=zh ck;have DW:=zh kH;have pK:=zh cX;have CW:=zh oy;have zW:=zh ha;have Pt:=zh hb;have Yt:=zh Wb;clear Wb;clear ck cX h h' kH oy qc ha hb
 go_enter Tryz.func192,Tryz.ntmps192
 go_upto_region 1 with (fail);rw [← dh.out,← DW.out];have a0:=p0 wa CW.out;have a1:=p1 wa CW.out;have a2:=p2 wa CW.out;go_wp2_with fail;refine (kp _ _ _ a wa (HA.out wa CW.out) zW.out.ends zW.out.row zW.out.sz).mono ?_;rintro e w1 ⟨we,wi,wn,S,rfl,ho,bj⟩;obtain ⟨E1,e1,rfl,-,-,-⟩:=id ho.read.1;obtain ⟨EI,eI,rfl,-,-,-⟩:=id ho.read.2.1;obtain ⟨EN,eN,rfl,-,-,-⟩:=id ho.read.2.2;obtain ⟨w2,dK⟩ : ∃ z,z = w1.alloc (.cells #[.slice E1 a.ends.length e1,.slice EI a.ids.length eI,.slice EN a.inputs.length eN] 27):=⟨_,rfl⟩
 obtain ⟨bo,vV⟩ : ∃ z,z = w1.heap.size:=⟨_,rfl⟩
 have dm : aa wa w1:=bj
 have jZ : aa w1 w2:=by rw [dK];exact ah _ (ad _)
 have y8 : bH w2 bo (.slice E1 a.ends.length e1) (.slice EI a.ids.length eI) (.slice EN a.inputs.length eN):=by rw [dK,vV];exact bH.new _ _ _ _ _
 have G7 : bo ∉ S:=fun hj => by have:=(ho.range _ hj).2;omega
 have j7:=zh dK;have Pu:=zh vV;have z_:=zh (ho.keep jZ.below);have vx:=zh y8;have EK:=zh G7;have cw:=zh (dm.after jZ);have vz : aa w0 w2:=CW.out.after cw.out;have b1:=q1 w2 vz;have vy:=zh vz
 have vj : Hid (wa.heap.size ≤ bo ∧ bo < w2.heap.size):=⟨by rw [vV];exact dm.below.size,by rw [dK,vV];simp⟩
 obtain ⟨k0,k1,k2,f0,f1,f2⟩:=y8.cells;clear dK vV ho y8 G7 dm jZ bj a0 a1 a2 vz;go_upto_region 2 with (fail);rw [← j7.out,← Pu.out];obtain ⟨S1,S2,S3,-,tR,-,Pz,-⟩:=id z_.out;have Hi2:=zh tR;have HS2:=zh Pz;clear tR Pz
 have PF : a.ids.length + b.ids.length ≤ 17592186044416:=by have h1:=zW.out.sz;have h2:=Pt.out.sz;unfold f_ at h1 h2;omega
 have PG : a.inputs.length + b.inputs.length ≤ 17592186044416:=by have h1:=zW.out.sz;have h2:=Pt.out.sz;unfold f_ at h1 h2;omega
 have Pe:=zh PF;have Cb:=zh PG;clear PF PG
 have aaN : Hid (bo ∉ (Value.slice EI a.ids.length eI).ownBlock.toList):=fun hm => EK.out (by rw [HS2.out];rw [← Hi2.out.2] at hm;exact List.mem_append_right _ (List.mem_append_left _ hm))
 go_upto_region 3 with (at_builtin;refine jh (base:=wa.heap.size) rfl _ _ rfl rfl Hi2.out.1 rfl (HB.out w2 vy.out).2.1 Pe.out cw.out.below.size ?_;intro v' w3 T ie DX UK;obtain ⟨V,mV,cV,rfl⟩:=gQ.one ie;have M9 : bH w3 bo (.slice E1 a.ends.length e1) (.slice EI a.ids.length eI) (.slice EN a.inputs.length eN):=vx.out.blk (DX.block bo vj.out.2 aaN.out);clear k0 k1 k2 f0 f1 f2;obtain ⟨k0,k1,k2,f0,f1,f2⟩:=M9.cells)
 obtain ⟨w4,gZ⟩ : ∃ z,z = w3.setCell ⟨bo,1,none⟩ (.slice V mV cV):=⟨_,rfl⟩
 rw [← gZ];obtain ⟨S',LU,CH⟩:=z_.out.turnIds ie DX UK
 have hn4 : bo ∉ S':=fun hj => by
  rcases CH _ hj with h | h
  ·exact EK.out h
  ·have:=vj.out;omega
 have Uh : Hid (aA w4 wa.heap.size (.slice E1 a.ends.length e1) (.slice V mV cV) (.slice EN a.inputs.length eN) { a with ids:=a.ids ++ b.ids } S'):=by show aA _ _ _ _ _ _ _;rw [gZ];exact LU.stable (fun k hk => Below.heap_setCell _ _ _ _ (fun e => hn4 (by have e' : k = bo:=e;exact e' ▸ hk)))
 have M_ : Hid (bH w4 bo (.slice E1 a.ends.length e1) (.slice V mV cV) (.slice EN a.inputs.length eN)):=by show bH _ _ _ _ _;rw [gZ];exact M9.put1
 have UF:=zh hn4
 have mg : Hid (aa wa w4):=by
  show Below _ _ _
  rw [gZ];refine Below.setCell (Below.trans cw.out (DX.below _ cw.out.below.size (fun j hj => ?_))) vj.out.1 _
  have xF : j ∈ S2:=by rw [Hi2.out.2];exact hj
  exact (z_.out.range j (by rw [HS2.out];exact List.mem_append_right _ (List.mem_append_left _ xF))).1
 have Wy : bo < w4.heap.size:=M_.out.lt;obtain ⟨MS,S2',S3',-,-,Mk,Wz,-⟩:=id Uh.out;have Hi3:=zh Mk;have O1:=zh Wz;have WA:=zh Wy;have NL:=zh (CW.out.after mg.out)
 have aaO : Hid (bo ∉ (Value.slice EN a.inputs.length eN).ownBlock.toList):=fun hm => UF.out (by rw [O1.out];rw [← Hi3.out.2] at hm;exact List.mem_append_right _ (List.mem_append_right _ hm))
 clear gZ LU CH hn4 M9 ie DX UK k0 k1 k2 f0 f1 f2 Mk Wz Wy;have b2:=q2 w4 NL.out;obtain ⟨k0,k1,k2,f0,f1,f2⟩:=M_.out.cells;clear b1
 go_upto_region 4 with (at_builtin;refine jh (base:=wa.heap.size) rfl _ _ rfl rfl Hi3.out.1 rfl (HB.out w4 NL.out).2.2 Cb.out mg.out.below.size ?_;intro v' w5 T5 Jc Ow hT5;obtain ⟨V5,PH,PI,rfl⟩:=gQ.one Jc;have hB5 : bH w5 bo (.slice E1 a.ends.length e1) (.slice V mV cV) (.slice EN a.inputs.length eN):=M_.out.blk (Ow.block bo WA.out aaO.out);clear k0 k1 k2 f0 f1 f2;obtain ⟨k0,k1,k2,f0,f1,f2⟩:=hB5.cells)
 obtain ⟨w6,zL⟩ : ∃ z,z = w5.setCell ⟨bo,2,none⟩ (.slice V5 PH PI):=⟨_,rfl⟩
 rw [← zL];obtain ⟨S6,LU,CH⟩:=Uh.out.turnIn Jc Ow hT5
 have xi : bo ∉ S6:=fun hj => by
  rcases CH _ hj with h | h
  ·exact UF.out h
  ·have:=WA.out;omega
 have HO6 : Hid (aA w6 wa.heap.size (.slice E1 a.ends.length e1) (.slice V mV cV) (.slice V5 PH PI) { a with ids:=a.ids ++ b.ids,inputs:=a.inputs ++ b.inputs } S6):=by show aA _ _ _ _ _ _ _;rw [zL];exact LU.stable (fun k hk => Below.heap_setCell _ _ _ _ (fun e => xi (by have e' : k = bo:=e;exact e' ▸ hk)))
 have HB6 : Hid (bH w6 bo (.slice E1 a.ends.length e1) (.slice V mV cV) (.slice V5 PH PI)):=by show bH _ _ _ _ _;rw [zL];exact hB5.put2
 have YC:=zh xi
 have TE : Hid (aa wa w6):=by
  show Below _ _ _
  rw [zL];refine Below.setCell (Below.trans mg.out (Ow.below _ mg.out.below.size (fun j hj => ?_))) vj.out.1 _
  have xF : j ∈ S3':=by rw [Hi3.out.2];exact hj
  exact (Uh.out.range j (by rw [O1.out];exact List.mem_append_right _ (List.mem_append_right _ xF))).1
 have aaP:=zh (CW.out.after TE.out);clear zL LU CH xi hB5 Jc Ow hT5 k0 k1 k2 f0 f1 f2 b2 p1 p2 q1 q2;have b0:=q0 w6 aaP.out;have yq:=TE.out;go_wp2;clear b0;obtain ⟨W6,rfl⟩ : ∃ z,z = w6:=⟨_,rfl⟩
 go_loopw [28] (fun i wr => ∃ (k : Nat) (v : Value) (S : List Nat),k ≤ b.ends.length ∧ i = .int .i64 k ∧ aA wr wa.heap.size v (.slice V mV cV) (.slice V5 PH PI) ⟨a.ends ++ (b.ends.take k).map (List.map (fX a.ends.length)),a.ids ++ b.ids,a.inputs ++ b.inputs⟩ S ∧ bo ∉ S ∧ bH wr bo v (.slice V mV cV) (.slice V5 PH PI) ∧ aa wa wr) (fun i _ => b.ends.length - (intOf i).toNat)
 case atStart => exact ⟨0,_,S6,Nat.zero_le _,rfl,by have:=HO6.out;simpa using this,YC.out,HB6.out,TE.out⟩
 case round =>
  obtain ⟨k,v,S7,hk,rfl,fm,MH,fO,cJ⟩:=hrel
  obtain ⟨AV,WB,WC,rfl⟩ : ∃ A m c,v = .slice A m c:=by obtain ⟨A,c,hv,-⟩:=fm.read.1;exact ⟨A,_,c,hv⟩
  have zY:=zh fm;have Hnb:=zh MH;have Mv:=zh fO;have lw:=zh cJ;have q9:=CW.out.after cJ;have xp:=zh q9;clear fm MH fO cJ yq;obtain ⟨wo,rfl⟩ : ∃ z,z = wr:=⟨_,rfl⟩
  by_cases hlt : k < b.ends.length
  ·obtain ⟨es,cM⟩:=aW b.ends k hlt;obtain ⟨g0,o0,cr,ur,Dc,-,eS,hE1⟩:=jQ (HB.out w0 (ad _)).es cM;cases Dc;obtain ⟨A9,y9,rfl,eF,eD,Ik⟩:=hE1;unfold maxLen at eD;have r1:=ae eS wo q9;have HA9:=zh Ik;have ml:=zh cM;have GK : es.length ≤ 1000:=Pt.out.row _ _ cM
   have m1 : IntKind.i64.wrap ((k : Int) + 1) = (k : Int) + 1:=aL _ (by omega) (by have h1:=Pt.out.ends;omega)
   clear Ik eS cM q9;go_upto_region 9 with (fail);clear r1
   go_loopw [8,34] (fun u i wr => ∃ (j : Nat) (T : List Nat),j ≤ es.length ∧ i = .int .i64 j ∧ eU wr wo.heap.size u ((es.take j).map (fX a.ends.length)) T ∧ aa wo wr) (fun _ i _ => es.length - (intOf i).toNat)
   case atStart => exact ⟨0,[],Nat.zero_le _,rfl,tT _ _,ad _⟩
   case round =>
    obtain ⟨j,T,hj,rfl,TI,Jb⟩:=hrel;obtain ⟨AU,mU,cU,rfl⟩:=jA.one TI;have YD:=zh TI;have vo:=zh Jb;clear TI
    by_cases wG : j < es.length
    ·obtain ⟨e,he⟩:=aW es j wG;obtain ⟨x,y,fs,rfl,hfs,IT⟩:=Yt.out k es ml.out e (List.mem_of_getElem? he);obtain ⟨g1,o1,rfl,t1,t2⟩:=HA9.out j _ he;have Ox:=xp.out.after vo.out;have R0:=ae t1 wr Ox;have R4:=ae t2 wr Ox;have AG : x < b.ends.length:=aq hfs
     have m2 : IntKind.i64.wrap ((x : Int) + (a.ends.length : Int)) = (x : Int) + (a.ends.length : Int):=aL _ (by omega) (by have h1:=zW.out.ends;have h2:=Pt.out.ends;omega)
     have m3 : IntKind.i64.wrap ((j : Int) + 1) = (j : Int) + 1:=aL _ (by omega) (by omega);obtain ⟨w8,rl⟩ : ∃ z,z = wr.alloc (.cells #[.int .i64 (x : Int),.int .i64 (y : Int)] 83):=⟨_,rfl⟩
     obtain ⟨eb,Oi⟩ : ∃ z,z = wr.heap.size:=⟨_,rfl⟩
     have h8 : aa wr w8:=by rw [rl];exact ah _ (ad _)
     have v1 : w8.cell? ⟨eb,0,none⟩ = some (.int .i64 (x : Int)):=by rw [rl,Oi];simp
     have v2 : w8.cell? ⟨eb,1,none⟩ = some (.int .i64 (y : Int)):=by rw [rl,Oi];simp
     have v3:=p0 w8 (Ox.after h8);have Qd:=zh rl;have Heb:=zh Oi;have k_ : Hid (aa wo w8):=vo.out.after h8;have rY : Hid (eU w8 wo.heap.size (.slice AU mU cU) ((es.take j).map (fX a.ends.length)) T):=jA.keep YD.out h8.below
     have zf : Hid (((es.take j).map (fX a.ends.length)).length + 1 ≤ 1000000):=by show _ ≤ _;rw [List.length_map,List.length_take];omega
     have Hsn : Hid ((es.take (j + 1)).map (fX a.ends.length) = (es.take j).map (fX a.ends.length) ++ [((x : Int) + (a.ends.length : Int),(y : Int))]):=by show _ = _;rw [bk he,List.map_append];rfl
     clear rl Oi h8 Ox t1 t2 he hfs Jb;go_upto_region 11 with (fail);rw [← Qd.out,← Heb.out];clear R0 R4
     go_upto_region 12 with (at_builtin;refine kN (base:=wo.heap.size) (v:=.slice AU mU cU) (xs:=(es.take j).map (fX a.ends.length)) (T:=T) rfl _ _ rfl rfl (jA.keep rY.out (au _ _)) w8.heap.size ((x : Int) + (a.ends.length : Int),(y : Int)) rfl (by simp) (by simp) zf.out (by have:=k_.out.below.size;simp;omega) ?_;intro g9 Je w9 ix rr xr)
     have Fx:=zh ix
     have CR : Hid (aa wo w9):=Below.grown (ah _ k_.out) rr (by have:=k_.out.below.size;simp;omega) (fun q hq => (jA.range rY.out q (by rw [rY.out.2,hq];simp)).1)
     clear ix rr xr v1 v2 v3;go_wp2;go_roundw
     case rel => exact ⟨j + 1,[g9],by omega,by first | rfl | go_num,by rw [Hsn.out];have h9:=Fx.out;rw [show ((es.take j).map (fX a.ends.length)).length = j by rw [List.length_map,List.length_take];omega] at h9;simpa using h9,CR.out⟩
     case measure => simp [intOf];omega
    ·obtain rfl : j = es.length:=by omega
     have xM : bH wr bo (.slice AV WB WC) (.slice V mV cV) (.slice V5 PH PI):=Mv.out.below vo.out.below Mv.out.lt
     have dG : Hid (eU wr wo.heap.size (.slice AU mU cU) (es.map (fX a.ends.length)) T):=by have h9:=YD.out;rw [List.take_length] at h9;exact h9
     have XY : Hid (∀ q,(Value.slice AV WB WC).ownBlock = some q → wa.heap.size ≤ q):=fun q hq => by
      obtain ⟨S1,S2,S3,h1,-,-,h4,-⟩:=id zY.out;obtain ⟨vs,Ss,-,-,-,e4,-⟩:=id h1
      exact (zY.out.range q (by rw [h4,e4,hq];simp)).1
     have UC : Hid (∀ j ∈ T,j ∉ S7):=fun j hj hS => by have h1:=(jA.range YD.out j hj).1;have h2:=(zY.out.range j hS).2;omega
     have p_ : Hid ((a.ends ++ (b.ends.take k).map (List.map (fX a.ends.length))).length + 1 ≤ 1000000):=by show _ ≤ _;rw [List.length_append,List.length_map,List.length_take];have h1:=zW.out.ends;have h2:=Pt.out.ends;omega
     have Oy : Hid (wa.heap.size ≤ wo.heap.size):=lw.out.below.size;have UP : Hid (aa wa wr):=lw.out.after vo.out;have Db:=zh xM;obtain ⟨k0,k1,k2,f0,f1,f2⟩:=xM.cells;clear xM Jb
     go_upto_region 14 with (at_builtin;refine uN (wT:=wa) (base:=wa.heap.size) (v:=.slice AV WB WC) (u:=.slice AU mU cU) (T:=T) (es:=es.map (fX a.ends.length)) rfl _ _ rfl rfl ((zY.out.keep vo.out.below).keep (au _ _)) wr.heap.size rfl (by simp) (jA.mono (jA.keep dG.out (au _ _)) Oy.out) UC.out p_.out (ah _ UP.out) (by have:=UP.out.below.size;simp;omega) XY.out ?_;intro v8 w8 S8 hv8 Sb Sc LV oP;obtain ⟨A8,m8,c8,rfl⟩ : ∃ A m c,v8 = Value.slice A m c:=(by obtain ⟨A,c,hv,-⟩:=Sb.read.1;exact ⟨A,_,c,hv⟩);have yH : bH w8 bo (.slice AV WB WC) (.slice V mV cV) (.slice V5 PH PI):=((Db.out.alloc _).blk (LV.block bo (by have:=Db.out.lt;simp;omega) Hnb.out));clear k0 k1 k2 f0 f1 f2;obtain ⟨k0,k1,k2,f0,f1,f2⟩:=yH.cells)
     have Se : bo ∉ S8:=fun hm => by
      rcases Sc bo hm with h | h | h
      ·exact Hnb.out h
      ·have h1:=(jA.range YD.out bo h).1;have h2:=Mv.out.lt;omega
      ·have h2:=Db.out.lt;simp at h;omega
     have Cd : a.ends ++ (b.ends.take (k + 1)).map (List.map (fX a.ends.length)) = (a.ends ++ (b.ends.take k).map (List.map (fX a.ends.length))) ++ [es.map (fX a.ends.length)]:=by
      rw [bk ml.out,List.map_append,List.append_assoc];rfl
     have Hl9:=zh Cd
     have WD:=zh (Sb.stable (w':=w8.setCell ⟨bo,0,none⟩ (.slice A8 m8 c8)) (fun q hq => Below.heap_setCell _ _ _ _ (fun e => Se (by have e' : q = bo:=e;exact e' ▸ hq))))
     have Ag:=zh (yH.put0 (u:=.slice A8 m8 c8));have CR:=zh (Below.setCell oP (p:=⟨bo,0,none⟩) vj.out.1 (.slice A8 m8 c8));have aaQ:=zh Se;clear Se Cd Sb yH oP LV Sc hv8 k0 k1 k2 f0 f1 f2;go_wp2;go_roundw
     case rel => exact ⟨k + 1,_,S8,by omega,by first | rfl | go_num,by rw [Hl9.out];exact WD.out,aaQ.out,Ag.out,CR.out⟩
     case measure => simp [intOf];omega
  ·obtain rfl : k = b.ends.length:=by omega
   have iQ:=Mu.out wo lw.out;obtain ⟨k0,k1,k2,-,-,-⟩:=Mv.out.cells;obtain ⟨e0,IJ,e2,f0,f1,f2⟩:=iQ.box.cells;clear iQ;go_wp2;refine bodyPost_ret (v:=.agg #[.slice AV WB WC,.slice V mV cV,.slice V5 PH PI]) (by simp [results,Tryz.results192,go_sem, *]) rfl ?_;have Ys:=H4.out;have h9:=zY.out;rw [List.take_length] at h9;refine ⟨_,_,_,S7,rfl,(h9.stable (fun j hj => ?_)).mono (by omega),?_⟩
   ·have sD:=(h9.range j hj).1;rw [Below.heap_setCell _ _ _ j (by simp;omega),Below.heap_setCell _ _ _ j (by simp;omega),Below.heap_setCell _ _ _ j (by simp;omega)]
   ·have hk : Below w.heap.size w wo:=Below.trans pK.out.below (xp.out.below.mono pK.out.below.size)
    exact ((hk.setCell (by simp;omega) _).setCell (by simp;omega) _).setCell (by simp;omega) _
theorem Gd.joinLow4 {R M : Nat} {n : am} {v u : Nat} (h : Gd R M n) (hv : v < n.ends.length) (hu : u < n.ends.length) (h1 : (cG n v).length ≤ 4) (h2 : (cG n u).length ≤ 4) (hR : 6 ≤ R) : Gd R M (dq n v u):=by
 refine ⟨by rw [d8];exact h.ends,fun k es hk => ?_,h.ids,by rw [d8];exact h.inputs,ts h.wf hv hu⟩
 have h3:=nW hk
 have lq : k < n.ends.length:=by have:=aq hk;rwa [d8] at this
 rw [← h3,kT hv hu];have h4:=h.row k _ (cD lq)
 by_cases a : k = u
 ·subst a
  by_cases b : k = v
  ·subst b;rw [if_pos rfl];omega
  ·rw [if_pos rfl,if_neg b];omega
 ·rw [if_neg a]
  by_cases b : k = v
  ·subst b;rw [if_pos rfl];omega
  ·rw [if_neg b];omega
theorem Gd.stubLow4 {R M : Nat} {n : am} {v : Nat} (h : Gd R M n) (hv : v < n.ends.length) (h1 : (cG n v).length ≤ 4) (hR : 6 ≤ R) : Gd R M (kR n v):=by
 refine ⟨by rw [ra];exact h.ends,fun k es hk => ?_,h.ids,by rw [ra];exact h.inputs,Ot h.wf hv⟩
 have h3:=nW hk
 have lq : k < n.ends.length:=by have:=aq hk;rwa [ra] at this
 rw [← h3,LI hv];have h4:=h.row k _ (cD lq)
 by_cases b : k = v
 ·subst b;rw [if_pos rfl];omega
 ·rw [if_neg b];omega
theorem PJ (cb : Nat) (A : Option Addr) (L c P most M : Nat) (w : World) (hc : dQ w cb A L c P) (hP : P ≤ 4000000000000000000) (tg : 1 ≤ most) (xt : most ≤ M) (hM : M ≤ 38) :
  Calls Tryz.prog 127 #[.pointer (some ⟨cb,0,none⟩),.int .i64 most] w (CA cb w.heap.size A L c (P + 200000000000000000) w (TN 100 (M + 2))):=by
 have iw:=hc.lt;obtain ⟨B,wb⟩ : ∃ z,z = w.heap.size + 1:=⟨_,rfl⟩
 obtain ⟨w0,ck⟩ : ∃ z,z = w.alloc (.cells #[.slice none 0 0,.slice none 0 0,.slice none 0 0] 27):=⟨_,rfl⟩
 have cX : aa w w0:=by rw [ck];exact ah _ (ad _)
 have kg : w0.heap.size = B:=by rw [ck,wb];simp
 have kq : bQ w0 w.heap.size (.slice none 0 0) (.slice none 0 0) (.slice none 0 0):=by
  rw [ck];show (w.heap.push _)[w.heap.size]? = _
  rw [Array.getElem?_push_size]
 have nP:=zh kq;have pK:=zh cX;have dh:=zh ck;have iy:=zh wb;have vS:=zh kg;have LK:=zh (hc.since cX);clear kq cX ck hc wb kg
 go_enter Tryz.func127,Tryz.ntmps127
 go_upto_region 1 with (fail);rw [← dh.out];go_wp2_with fail;refine (ew cb A L c P 6 w0 LK.out (by omega) (by omega)).mono ?_;rintro e w1 ⟨x,rfl,hx,nX,lJ⟩;have xx:=zh nX
 have IG : Hid (CB cb B w0 w1):=by show CB _ _ _ _;rw [← vS.out];exact lJ
 have j6 : B ≤ w1.heap.size:=by rw [← vS.out];exact lJ.size
 have lF : cb < B:=by have:=iy.out;omega
 have hx6 : x < 6:=by omega
 clear nX lJ hx
 have WE:=IG.out.blkN nP.out (by have:=iy.out;omega) (by omega)
 have abw:=zh WE;clear WE;rcases (show x = 0 ∨ x = 1 ∨ x = 2 ∨ x = 3 ∨ x = 4 ∨ x = 5 by omega) with rfl | rfl | rfl | rfl | rfl | rfl
 ·go_wp2_with fail;refine (LJ cb A L c (P + 2) most M w1 xx.out (by omega) tg xt (by omega)).mono ?_;rintro e w6 ⟨PA,PB,PC,N6,S6,rfl,gX,⟨sq,xi⟩,gn,lK⟩;obtain ⟨D0,d0,rfl,-,-,-⟩:=id gX.read.1;obtain ⟨D1,d1,rfl,-,-,-⟩:=id gX.read.2.1;obtain ⟨D2,d2,rfl,-,-,-⟩:=id gX.read.2.2;have co : CB cb B w0 w6:=IG.out.trans (lK.mono j6)
  have iQ:=co.blkN nP.out (by have:=iy.out;omega) (by omega)
  obtain ⟨e0,e1,e2,f0,f1,f2⟩:=iQ.box.cells;have aY:=gX.mono j6;rw [iy.out] at aY co;have ez:=zh (gC pK.out aY gn co iw);have Af:=zh sq;have I8:=zh xi;clear co iQ aY sq gn lK gX xi;go_wp2;refine bodyPost_ret (v:=.agg #[.slice D0 N6.ends.length d0,.slice D1 N6.ids.length d1,.slice D2 N6.inputs.length d2]) (by simp [results,Tryz.results127,go_sem, *]) rfl ?_;obtain ⟨r1,r2,r3⟩:=ez.out;exact ⟨_,_,_,N6,S6,rfl,r1,⟨Af.out.mono (Nat.le_refl _) (by omega),I8.out⟩,r2.mono (by omega),r3⟩
 ·go_wp2_with fail;refine (E9 cb A L c (P + 2) most M w1 xx.out (by omega) tg xt (by omega)).mono ?_;rintro e w6 ⟨PA,PB,PC,N6,S6,rfl,gX,⟨sq,xi⟩,gn,lK⟩;obtain ⟨D0,d0,rfl,-,-,-⟩:=id gX.read.1;obtain ⟨D1,d1,rfl,-,-,-⟩:=id gX.read.2.1;obtain ⟨D2,d2,rfl,-,-,-⟩:=id gX.read.2.2;have co : CB cb B w0 w6:=IG.out.trans (lK.mono j6)
  have iQ:=co.blkN nP.out (by have:=iy.out;omega) (by omega)
  obtain ⟨e0,e1,e2,f0,f1,f2⟩:=iQ.box.cells;have aY:=gX.mono j6;rw [iy.out] at aY co;have ez:=zh (gC pK.out aY gn co iw);have Af:=zh sq;have I8:=zh xi;clear co iQ aY sq gn lK gX xi;go_wp2;refine bodyPost_ret (v:=.agg #[.slice D0 N6.ends.length d0,.slice D1 N6.ids.length d1,.slice D2 N6.inputs.length d2]) (by simp [results,Tryz.results127,go_sem, *]) rfl ?_;obtain ⟨r1,r2,r3⟩:=ez.out;exact ⟨_,_,_,N6,S6,rfl,r1,⟨Af.out.mono (Nat.le_refl _) (by omega),I8.out⟩,r2.mono (by omega),r3⟩
 ·go_wp2_with fail;refine (wg cb A L c (P + 2) most M w1 xx.out (by omega) tg xt (by omega)).mono ?_;rintro e w6 ⟨PA,PB,PC,N6,S6,rfl,gX,⟨sq,xi⟩,gn,lK⟩;obtain ⟨D0,d0,rfl,-,-,-⟩:=id gX.read.1;obtain ⟨D1,d1,rfl,-,-,-⟩:=id gX.read.2.1;obtain ⟨D2,d2,rfl,-,-,-⟩:=id gX.read.2.2;have co : CB cb B w0 w6:=IG.out.trans (lK.mono j6)
  have iQ:=co.blkN nP.out (by have:=iy.out;omega) (by omega)
  obtain ⟨e0,e1,e2,f0,f1,f2⟩:=iQ.box.cells;have aY:=gX.mono j6;rw [iy.out] at aY co;have ez:=zh (gC pK.out aY gn co iw);have Af:=zh sq;have I8:=zh xi;clear co iQ aY sq gn lK gX xi;go_wp2;refine bodyPost_ret (v:=.agg #[.slice D0 N6.ends.length d0,.slice D1 N6.ids.length d1,.slice D2 N6.inputs.length d2]) (by simp [results,Tryz.results127,go_sem, *]) rfl ?_;obtain ⟨r1,r2,r3⟩:=ez.out;exact ⟨_,_,_,N6,S6,rfl,r1,⟨Af.out.mono (Nat.le_refl _) (by omega),I8.out⟩,r2.mono (by omega),r3⟩
 ·go_wp2_with fail;refine (wg cb A L c (P + 2) most M w1 xx.out (by omega) tg xt (by omega)).mono ?_;rintro e w6 ⟨PA,PB,PC,N6,S6,rfl,gX,⟨sq,xi⟩,gn,lK⟩;obtain ⟨D0,d0,rfl,-,-,-⟩:=id gX.read.1;obtain ⟨D1,d1,rfl,-,-,-⟩:=id gX.read.2.1;obtain ⟨D2,d2,rfl,-,-,-⟩:=id gX.read.2.2;have co : CB cb B w0 w6:=IG.out.trans (lK.mono j6)
  have iQ:=co.blkN nP.out (by have:=iy.out;omega) (by omega)
  obtain ⟨e0,e1,e2,f0,f1,f2⟩:=iQ.box.cells;have aY:=gX.mono j6;rw [iy.out] at aY co;have ez:=zh (gC pK.out aY gn co iw);have Af:=zh sq;have I8:=zh xi;clear co iQ aY sq gn lK gX xi;go_wp2;refine bodyPost_ret (v:=.agg #[.slice D0 N6.ends.length d0,.slice D1 N6.ids.length d1,.slice D2 N6.inputs.length d2]) (by simp [results,Tryz.results127,go_sem, *]) rfl ?_;obtain ⟨r1,r2,r3⟩:=ez.out;exact ⟨_,_,_,N6,S6,rfl,r1,⟨Af.out.mono (Nat.le_refl _) (by omega),I8.out⟩,r2.mono (by omega),r3⟩
 ·obtain ⟨hf,hhd⟩ : ∃ z : Nat,z = most / 2:=⟨_,rfl⟩
  obtain ⟨h1,NT⟩ : ∃ z : Nat,z = hf + 1:=⟨_,rfl⟩
  have d1 : (most : Int).tdiv 2 = (hf : Int):=by rw [hhd,Int.tdiv_eq_ediv_of_nonneg (by omega)];simp
  have d2 : (most : Int) / 2 = (hf : Int):=by omega
  have d3 : IntKind.i64.wrap (hf : Int) = (hf : Int):=aL _ (by omega) (by omega)
  have d4 : IntKind.i64.wrap ((hf : Int) + 1) = (h1 : Int):=by rw [aL _ (by omega) (by omega)];omega
  have bj : 1 ≤ h1 ∧ 2 * h1 ≤ M + 2:=by omega
  clear hhd NT;go_wp2_with fail;refine (wg cb A L c (P + 2) h1 h1 w1 xx.out (by omega) bj.1 (Nat.le_refl _) (by omega)).mono ?_;rintro e w6 ⟨PA,PB,PC,N6,S6,rfl,gX,⟨sq,xi⟩,gn,lK⟩;obtain ⟨D0,d0,rfl,-,-,-⟩:=id gX.read.1;obtain ⟨D1,WF,rfl,-,-,-⟩:=id gX.read.2.1;obtain ⟨D2,WG,rfl,-,-,-⟩:=id gX.read.2.2;obtain ⟨w7,nT⟩ : ∃ z,z = w6.alloc (.cells #[.slice D0 N6.ends.length d0,.slice D1 N6.ids.length WF,.slice D2 N6.inputs.length WG] 27):=⟨_,rfl⟩
  obtain ⟨pb,fo⟩ : ∃ z,z = w6.heap.size:=⟨_,rfl⟩
  have WH : aa w6 w7:=by rw [nT];exact ah _ (ad _)
  have fO : bH w7 pb (.slice D0 N6.ends.length d0) (.slice D1 N6.ids.length WF) (.slice D2 N6.inputs.length WG):=by rw [nT,fo];exact bH.new _ _ _ _ _
  have HO7:=zh ((gX.mono j6).keep WH.below);have HC7 : Hid (CB cb B w0 w7):=(IG.out.trans (lK.mono j6)).trans ((CB.of WH).mono (Nat.le_trans j6 lK.size));have LW:=zh (gn.since WH);have Af:=zh sq;have I8:=zh xi
  have it : pb ≠ cb:=by have:=lK.size;omega
  have HB7 : Hid (B ≤ w7.heap.size):=Nat.le_trans (Nat.le_trans j6 lK.size) WH.below.size;have Mv:=zh fO;have Hw7:=zh nT;have eA:=zh fo;obtain ⟨k0,k1,k2,-,-,-⟩:=fO.cells;have ot:=zh (And.intro k0 (And.intro k1 k2));clear gX sq xi gn lK nT fo WH fO k0 k1 k2;go_upto_region 11 with (fail);rw [← Hw7.out,← eA.out];refine aI (fun W => W.cell? ⟨pb,0,none⟩ = some (.slice D0 N6.ends.length d0) ∧ W.cell? ⟨pb,1,none⟩ = some (.slice D1 N6.ids.length WF) ∧ W.cell? ⟨pb,2,none⟩ = some (.slice D2 N6.inputs.length WG)) 7 [false,false,false,false,false,true,true] (by kernel_rfl) (by kernel_rfl) (show (World.drew w7).cell? ⟨pb,0,none⟩ = some (.slice D0 N6.ends.length d0) ∧ (World.drew w7).cell? ⟨pb,1,none⟩ = some (.slice D1 N6.ids.length WF) ∧ (World.drew w7).cell? ⟨pb,2,none⟩ = some (.slice D2 N6.inputs.length WG) from ot.out) ?_
  simp only [d_,dO,zT]
  iterate 5 (apply bY rfl;(intro W hW;(obtain ⟨k0,k1,k2⟩:=hW);go_simp;with_reducible rfl);simp only [zA])
  obtain ⟨W,dr⟩ : ∃ W,W = World.drew w7:=⟨_,rfl⟩
  rw [← dr];have hW:=(show (World.drew w7).cell? ⟨pb,0,none⟩ = some (.slice D0 N6.ends.length d0) ∧ (World.drew w7).cell? ⟨pb,1,none⟩ = some (.slice D1 N6.ids.length WF) ∧ (World.drew w7).cell? ⟨pb,2,none⟩ = some (.slice D2 N6.inputs.length WG) from ot.out);rw [← dr] at hW;have fV:=zh dr;clear dr;refine Or.inl ⟨rfl,?_⟩
  go_simp
  (with_reducible refine (LJ cb A L c _ h1 h1 W (by rw [fV.out];exact LW.out.since (ak (ad _))) (by omega) bj.1 (Nat.le_refl _) (by omega)).mono ?_)
  rintro e W' ⟨ve8,vi8,vn8,N8,S8,rfl,MI,⟨hT8,-⟩,WI,PK⟩;refine ⟨_,rfl,And.intro (aD hW.1 it _ PK) (And.intro (aD hW.2.1 it _ PK) (aD hW.2.2 it _ PK)),?_⟩
  replace hW:=And.intro (aD hW.1 it _ PK) (And.intro (aD hW.2.1 it _ PK) (aD hW.2.2 it _ PK))
  have oL : aa w7 W:=(by rw [fV.out];exact ak (ad _))
  have HC8:=zh (((gB.refl cb w7).after oL).trans PK);have rY:=zh MI;have HT8:=zh hT8;have aaR:=zh WI;clear MI hT8 WI PK oL;obtain ⟨wp,rfl⟩ : ∃ z,z = W':=⟨_,rfl⟩
  (try simp only [zA])
  refine Or.inl ⟨rfl,?_⟩
  go_simp
  (with_reducible refine (CG _ _ _ _ _ _ N6 N8 _ (HO7.out.seen HC8.out lF).read rY.out.read (Af.out.small (by omega) (by omega)) (HT8.out.small (by omega) (by omega)) HT8.out.wf).mono ?_)
  rintro e W' ⟨ve9,vi9,vn9,S9,rfl,ix,ne⟩;refine ⟨_,rfl,And.intro (bc ne hW.1) (And.intro (bc ne hW.2.1) (bc ne hW.2.2)),?_⟩
  replace hW:=And.intro (bc ne hW.1) (And.intro (bc ne hW.2.1) (bc ne hW.2.2))
  skip
  (try simp only [zA])
  simp only [bA];obtain ⟨F0,t0,rfl,-,-,-⟩:=id ix.read.1;obtain ⟨F1,t1,rfl,-,-,-⟩:=id ix.read.2.1;obtain ⟨F2,t2,rfl,-,-,-⟩:=id ix.read.2.2;have Jh : B ≤ wp.heap.size:=Nat.le_trans HB7.out HC8.out.size;have SQ : aa wp W':=ne;have co : CB cb B w0 W':=(HC7.out.trans (CB.mono HC8.out HB7.out)).trans ((CB.of SQ.below).mono Jh)
  have iQ:=co.blkN nP.out (by have:=iy.out;omega) (by omega)
  obtain ⟨e0,e1,e2,f0,f1,f2⟩:=iQ.box.cells;have aY:=ix.mono Jh;rw [iy.out] at aY co;have ez:=zh (gC pK.out aY (aaR.out.since SQ) co iw);have Hg9:=zh (Af.out.union HT8.out)
  have Hl9 : Hid (0 < (gO N6 N8).ends.length):=by show _ < _;unfold gO;rw [List.length_append];have:=I8.out;omega
  clear co iQ aY SQ ix ne Jh hW;go_wp2;refine bodyPost_ret (v:=.agg #[.slice F0 (gO N6 N8).ends.length t0,.slice F1 (gO N6 N8).ids.length t1,.slice F2 (gO N6 N8).inputs.length t2]) (by simp [results,Tryz.results127,go_sem, *]) rfl ?_;obtain ⟨r1,r2,r3⟩:=ez.out;exact ⟨_,_,_,gO N6 N8,S9,rfl,r1,⟨Hg9.out.mono (Nat.le_refl _) (by omega),Hl9.out⟩,r2.mono (by omega),r3⟩
 ·go_wp2_with fail;refine (ew cb A L c (P + 2) most w1 xx.out (by omega) (by omega)).mono ?_;rintro e w2 ⟨x2,rfl,pw,sO,vJ⟩;obtain ⟨m,hm⟩ : ∃ m : Nat,m = x2 + 1:=⟨_,rfl⟩
  have m1 : IntKind.i64.wrap (1 + (x2 : Int)) = (m : Int):=by rw [aL _ (by omega) (by omega)];omega
  have TD : m ≤ M:=by omega
  have kW : 0 < m:=by omega
  have Oo:=zh sO;have Ti : Hid (CB cb B w0 w2):=IG.out.trans (vJ.mono j6);have vx : Hid (B ≤ w2.heap.size):=Nat.le_trans j6 vJ.size;clear sO vJ pw hm;go_wp2_with fail;refine (lj m (by omega) w2).mono ?_;rintro e w3 ⟨Wr,Ws,Wt,S0,rfl,ho,bg⟩;obtain ⟨N0,zM⟩ : ∃ z,z = dl m:=⟨_,rfl⟩
  rw [← zM] at ho
  have mS : N0.ends.length = m:=by rw [zM];simp [dl]
  have EX : Gd 100 M N0:=by rw [zM];exact (Gd.empty TD).mono (by omega) (Nat.le_refl _)
  obtain ⟨A1,c1,rfl,-,k9,-⟩:=id ho.read.1;obtain ⟨AI,cI,rfl,-,-,-⟩:=id ho.read.2.1;obtain ⟨AN,cN,rfl,-,-,-⟩:=id ho.read.2.2;obtain ⟨w4,gZ⟩ : ∃ z,z = w3.alloc (.cells #[.slice A1 N0.ends.length c1,.slice AI N0.ids.length cI,.slice AN N0.inputs.length cN] 27):=⟨_,rfl⟩
  obtain ⟨pb,fo⟩ : ∃ z,z = w3.heap.size:=⟨_,rfl⟩
  have MJ : aa w3 w4:=by rw [gZ];exact ah _ (ad _)
  have iB : aa w2 w3:=bg
  have hmb : Mb cb B pb A L c (P + 2 + 2) w0 w4 (.slice A1 N0.ends.length c1) (.slice AI N0.ids.length cI) (.slice AN N0.inputs.length cN) N0 S0:=
   ⟨(ho.keep MJ.below).mono vx.out,by rw [gZ,fo];exact bH.new _ _ _ _ _,fun hj => by have:=(ho.range _ hj).2;omega,(Oo.out.since iB).since MJ,Ti.out.trans ((CB.of (iB.after MJ).below).mono vx.out)⟩
  have qe:=zh hmb
  have eA : Hid (B ≤ pb ∧ pb < w4.heap.size):=⟨by rw [fo];exact Nat.le_trans vx.out iB.below.size,by rw [gZ,fo];simp⟩
  have FL:=zh gZ;have nY:=zh fo;have EY:=zh EX;have R_:=zh mS;have fO:=hmb.box.cells.1
  have it : pb ≠ cb:=by have:=eA.out;omega
  rw [mS] at fO;obtain ⟨m2,f6⟩ : ∃ m2 : Nat,m2 = 2 * m:=⟨_,rfl⟩
  have e2m : (2 : Int) * (m : Int) = (m2 : Int):=by omega
  have m20 : IntKind.i64.wrap (2 * (m : Int)) = (m2 : Int):=by rw [e2m];exact aL _ (by omega) (by omega)
  have je:=zh f6;clear f6;clear hmb gZ fo EX mS ho bg iB MJ zM e2m;go_upto_region 13 with (fail);rw [← FL.out,← nY.out];go_wp2_with fail
  refine (ew cb A L c _ (m2 : Int) w4 qe.out.cur (by omega) (by have:=je.out;omega)).mono ?_
  rintro e w5 ⟨x5,rfl,aaS,mY,tu⟩
  have hx5 : x5 ≤ 100:=by have:=je.out;omega
  have fP:=zh (qe.out.seen tu mY lF eA.out.1 (by have:=eA.out;omega))
  have Hz5 : Hid (B ≤ w5.heap.size):=by show _ ≤ _;have:=eA.out;have:=tu.size;omega
  clear mY tu fO aaS;go_upto_region 14 with (fail);obtain ⟨Q,hQ⟩ : ∃ z,z = P + 2 + 2 + 2:=⟨_,rfl⟩
  have HQ : Hid (Q = P + 2 + 2 + 2):=hQ;rw [← hQ] at fP;clear hQ
  go_loopw [7] (fun i wr => ∃ (k : Nat) (ve vi vn : Value) (N : am) (S : List Nat),k ≤ 100 ∧ i = .int .i64 k ∧ Mb cb B pb A L c (Q + 6 * (100 - k)) w0 wr ve vi vn N S ∧ Gd 100 M N ∧ N.ends.length = m ∧ B ≤ wr.heap.size) (fun i _ => (intOf i).toNat)
  case atStart => exact ⟨x5,_,_,_,N0,S0,hx5,rfl,⟨fP.out.own,fP.out.box,fP.out.nb,fP.out.cur.mono (by omega),fP.out.far⟩,EY.out,R_.out,Hz5.out⟩
  case round =>
   obtain ⟨k,ve,vi,vn,N,S2,hk,rfl,hm,iS,mS,ed⟩:=hrel;obtain ⟨Fo,jN,rfl,-,qt,-⟩:=id hm.own.read.1;obtain ⟨oS,oU,rfl,-,-,-⟩:=id hm.own.read.2.1;obtain ⟨wM,pZ,rfl,-,-,-⟩:=id hm.own.read.2.2;obtain ⟨g,rfl,-⟩:=hm.own.head (by omega);have Hm:=zh hm;have i_:=zh iS;have gx:=zh mS;have lH:=zh ed;clear hm iS mS ed
   by_cases hlt : 0 < k
   ·have e0 : ((0 : Int) < (k : Int)) = True:=by simp;omega
    have m4 : IntKind.i64.wrap ((k : Int) - 1) = (k : Int) - 1:=aL _ (by omega) (by omega)
    have ot:=zh (show wr.cell? ⟨pb,0,none⟩ = some (.slice (some ⟨g,0,none⟩) m jN) from by obtain ⟨a,-⟩:=Hm.out.box.cells;rw [gx.out] at a;exact a)
    obtain ⟨wo,rfl⟩ : ∃ z,z = wr:=⟨_,rfl⟩
    go_upto_region 16 with (fail);refine aI (fun W => W.cell? ⟨pb,0,none⟩ = some (.slice (some ⟨g,0,none⟩) m jN)) 10 [false,false,false,false,true,false,false,false,false,true] (by kernel_rfl) (by kernel_rfl) (show (World.drew wo).cell? ⟨pb,0,none⟩ = some (.slice (some ⟨g,0,none⟩) m jN) from ot.out) ?_
    simp only [d_,dO,zT]
    iterate 8 (apply bY rfl;(intro W hW;(have k0:=hW);go_simp;with_reducible rfl);simp only [zA])
    obtain ⟨W,dr⟩ : ∃ W,W = World.drew wo:=⟨_,rfl⟩
    rw [← dr];have hW:=(show (World.drew wo).cell? ⟨pb,0,none⟩ = some (.slice (some ⟨g,0,none⟩) m jN) from ot.out);rw [← dr] at hW;have fV:=zh dr;clear dr;refine Or.inl ⟨rfl,?_⟩
    go_simp
    (with_reducible refine (ew cb A L c (Q + 6 * (100 - k)) (m : Int) W (by rw [fV.out];exact Hm.out.cur.since (ak (ad _))) (by have:=HQ.out;omega) (by omega)).mono ?_)
    rintro e W' ⟨a,rfl,ha,iq,hC⟩;refine ⟨_,rfl,aD hW it _ hC,?_⟩
    replace hW:=aD hW it _ hC
    have oL : aa wo W:=(by rw [fV.out];exact ak (ad _))
    have vH:=zh (((gB.refl cb wo).after oL).trans hC);have LG:=zh iq;have Ha:=zh ha;clear hC iq oL ha;obtain ⟨wp,rfl⟩ : ∃ z,z = W':=⟨_,rfl⟩
    (try simp only [zA])
    refine Or.inl ⟨rfl,?_⟩
    go_simp
    (with_reducible refine (ew cb A L c (Q + 6 * (100 - k) + 2) (m : Int) _ LG.out (by have:=HQ.out;omega) (by omega)).mono ?_)
    rintro e W' ⟨b,rfl,hb,iq,hC⟩;refine ⟨_,rfl,aD hW it _ hC,?_⟩
    replace hW:=aD hW it _ hC
    have fP:=zh (Hm.out.seen (vH.out.trans hC) iq lF eA.out.1 lH.out);have xz : Hid (B ≤ W'.heap.size):=Nat.le_trans lH.out (vH.out.trans hC).size;clear hC iq
    (try simp only [zA])
    simp only [bA]
    have Er : a < m:=by have:=Ha.out;omega
    have Wu : b < m:=by omega
    clear hb;obtain ⟨w5,rfl⟩ : ∃ z,z = W':=⟨_,rfl⟩
    have Hx0:=zh hW;clear hW;obtain ⟨xa,E_⟩ : ∃ z,z = cG N a:=⟨_,rfl⟩
    obtain ⟨xb,Fa⟩ : ∃ z,z = cG N b:=⟨_,rfl⟩
    have MG:=cD (n:=N) (v:=a) (by have:=gx.out;omega)
    have FK:=cD (n:=N) (v:=b) (by have:=gx.out;omega)
    rw [← E_] at MG;rw [← Fa] at FK;have hla : xa.length ≤ 100:=i_.out.row _ _ MG;have pF : xb.length ≤ 100:=i_.out.row _ _ FK;obtain ⟨ua,Ta,II,-,Wv,-,-,-⟩:=fP.out.own.rowCell MG;obtain ⟨AUa,cUa,rfl,-,-,-⟩:=id Wv.read;obtain ⟨ub,Tb,LR,-,Ww,-,-,-⟩:=fP.out.own.rowCell FK;obtain ⟨AUb,cUb,rfl,-,-,-⟩:=id Ww.read;have Ov:=zh E_;have Sa:=zh Fa;have pa:=ae II;have pq:=ae LR;have p0:=ae Hx0.out;have q0:=p0 w5 (ad _);have qa:=pa w5 (ad _);have qb:=pq w5 (ad _);clear E_ Fa MG FK Wv Ww II LR p0 pa pq
    by_cases h5 : xa.length ≤ 4
    ·have e5 : ((4 : Int) < (xa.length : Int)) = False:=by simp;omega
     by_cases h6 : xb.length ≤ 4
     ·have e6 : ((4 : Int) < (xb.length : Int)) = False:=by simp;omega
      go_upto_region 18 with (fail);clear q0 qa qb;go_wp2_with fail
      refine (nR cb A L c (Q + 6 * (100 - k) + 2 + 2) 5 w5 fP.out.cur (by have:=HQ.out;omega) (by omega)).mono ?_
      rintro e w6 ⟨bb,rfl,gn,lK⟩;have oC:=zh (fP.out.seen lK gn lF eA.out.1 xz.out);have xA : Hid (B ≤ w6.heap.size):=Nat.le_trans xz.out lK.size;have LX:=oC.out.box.cells;rw [gx.out] at LX;obtain ⟨q0,q1,q2,-,-,-⟩:=LX
      have YC : Hid (aT w6 (.slice (some ⟨g,0,none⟩) m jN) (.slice oS N.ids.length oU) (.slice wM N.inputs.length pZ) N):=by show aT _ _ _ _ _;have h9:=oC.out.own.read;rw [gx.out] at h9;exact h9
      clear gn lK;cases bb
      ·go_wp2_with fail
       refine (mI _ _ _ N a b w6 YC.out (by rw [gx.out];exact Er) (by rw [gx.out];exact Wu) ((i_.out.mono (R':=100) (M':=40) (by omega) (by omega)).small (by omega) (by omega))).mono ?_
       rintro e w8 ⟨Wj,Wk,Wl,S3,rfl,dL,b_⟩;have oP : aa w6 w8:=b_;obtain ⟨D0,d0,rfl,-,-,-⟩:=id dL.read.1;obtain ⟨D1,d1,rfl,-,-,-⟩:=id dL.read.2.1;obtain ⟨D2,d2,rfl,-,-,-⟩:=id dL.read.2.2;have CC:=oC.out.assign (CB.of oP) (oC.out.cur.since oP) dL oC.out.box.lt lF eA.out.1 xA.out;clear q0 q1 q2;obtain ⟨k0,k1,k2,f0,f1,f2⟩:=(oC.out.box.below oP oC.out.box.lt).cells;have p7:=zh CC
       have nV : B ≤ (set3 w8 pb (.slice D0 (dq N a b).ends.length d0) (.slice D1 (dq N a b).ids.length d1) (.slice D2 (dq N a b).inputs.length d2)).heap.size:=by rw [eH];exact Nat.le_trans xA.out oP.below.size
       have v_:=zh nV
       have xo:=zh (i_.out.joinLow4 (v:=a) (u:=b) (by rw [gx.out];exact Er) (by rw [gx.out];exact Wu) (by rw [← Ov.out];exact h5) (by rw [← Sa.out];exact h6) (by omega))
       have Cb:=zh ((d8 N a b).trans gx.out);clear CC dL b_ oP nV;go_wp2;go_roundw
       case rel => exact ⟨k - 1,_,_,_,dq N a b,S3,by omega,by rw [show ((k - 1 : Nat) : Int) = (k : Int) - 1 by omega],⟨p7.out.own,p7.out.box,p7.out.nb,p7.out.cur.mono (by omega),p7.out.far⟩,xo.out,Cb.out,v_.out⟩
       case measure => simp [intOf];omega
      ·go_wp2_with fail
       refine (EJ _ _ _ N a w6 YC.out (by rw [gx.out];exact Er) ((i_.out.mono (R':=100) (M':=40) (by omega) (by omega)).small (by omega) (by omega))).mono ?_
       rintro e w8 ⟨Wj,Wk,Wl,S3,rfl,dL,b_⟩;have oP : aa w6 w8:=b_;obtain ⟨D0,d0,rfl,-,-,-⟩:=id dL.read.1;obtain ⟨D1,d1,rfl,-,-,-⟩:=id dL.read.2.1;obtain ⟨D2,d2,rfl,-,-,-⟩:=id dL.read.2.2;have CC:=oC.out.assign (CB.of oP) (oC.out.cur.since oP) dL oC.out.box.lt lF eA.out.1 xA.out;clear q0 q1 q2;obtain ⟨k0,k1,k2,f0,f1,f2⟩:=(oC.out.box.below oP oC.out.box.lt).cells;have p7:=zh CC
       have nV : B ≤ (set3 w8 pb (.slice D0 (kR N a).ends.length d0) (.slice D1 (kR N a).ids.length d1) (.slice D2 (kR N a).inputs.length d2)).heap.size:=by rw [eH];exact Nat.le_trans xA.out oP.below.size
       have v_:=zh nV
       have xo:=zh (i_.out.stubLow4 (v:=a) (by rw [gx.out];exact Er) (by rw [← Ov.out];exact h5) (by omega))
       have Cb:=zh ((ra N a).trans gx.out);clear CC dL b_ oP nV;go_wp2;go_roundw
       case rel => exact ⟨k - 1,_,_,_,kR N a,S3,by omega,by rw [show ((k - 1 : Nat) : Int) = (k : Int) - 1 by omega],⟨p7.out.own,p7.out.box,p7.out.nb,p7.out.cur.mono (by omega),p7.out.far⟩,xo.out,Cb.out,v_.out⟩
       case measure => simp [intOf];omega
     ·have e6 : ((4 : Int) < (xb.length : Int)) = True:=by simp;omega
      go_wp2;go_roundw
      case rel => exact ⟨k - 1,_,_,_,N,S2,by omega,by rw [show ((k - 1 : Nat) : Int) = (k : Int) - 1 by omega],(⟨fP.out.own,fP.out.box,fP.out.nb,fP.out.cur.mono (by omega),fP.out.far⟩),i_.out,gx.out,xz.out⟩
      case measure => simp [intOf];omega
    ·have e5 : ((4 : Int) < (xa.length : Int)) = True:=by simp;omega
     go_wp2;go_roundw
     case rel => exact ⟨k - 1,_,_,_,N,S2,by omega,by rw [show ((k - 1 : Nat) : Int) = (k : Int) - 1 by omega],(⟨fP.out.own,fP.out.box,fP.out.nb,fP.out.cur.mono (by omega),fP.out.far⟩),i_.out,gx.out,xz.out⟩
     case measure => simp [intOf];omega
   ·obtain rfl : k = 0:=by omega
    obtain ⟨k0,k1,k2,-,-,-⟩:=Hm.out.box.cells;have je:=Hm;have pJ:=lH;obtain ⟨w5,rfl⟩ : ∃ z,z = wr:=⟨_,rfl⟩
    go_upto_region 21 with (fail);go_wp2_with fail
    refine (tr cb A L c _ B 100 M _ _ _ N S2 w5 je.out.cur (by have:=HQ.out;omega) je.out.own lF pJ.out i_.out (by omega) (by omega) (by have:=gx.out;omega)).mono ?_
    rintro e w6 ⟨PA,PB,PC,N6,S6,rfl,gX,⟨wd,sq⟩,gn,lK⟩;obtain ⟨D0,d0,rfl,-,-,-⟩:=id gX.read.1;obtain ⟨D1,d1,rfl,-,-,-⟩:=id gX.read.2.1;obtain ⟨D2,d2,rfl,-,-,-⟩:=id gX.read.2.2;have co:=(je.out.far.mono (Nat.le_refl B)).trans lK
    have iQ:=co.blkN nP.out (by have:=iy.out;omega) (by omega)
    obtain ⟨e0,e1,e2,f0,f1,f2⟩:=iQ.box.cells;have aY:=gX;rw [iy.out] at aY co;have ez:=zh (gC pK.out aY gn co iw);have EZ:=zh wd;have Af:=zh sq;clear co iQ aY wd sq gn lK gX k0 k1 k2;go_wp2;refine bodyPost_ret (v:=.agg #[.slice D0 N6.ends.length d0,.slice D1 N6.ids.length d1,.slice D2 N6.inputs.length d2]) (by simp [results,Tryz.results127,go_sem, *]) rfl ?_;obtain ⟨r1,r2,r3⟩:=ez.out
    exact ⟨_,_,_,N6,S6,rfl,r1,⟨Af.out.mono (by omega) (by omega),by have:=gx.out;have:=EZ.out.len;omega⟩,r2.mono (by have:=HQ.out;omega),r3⟩
end Go.Proofs.YtgmdpppljkmabaaGreat
