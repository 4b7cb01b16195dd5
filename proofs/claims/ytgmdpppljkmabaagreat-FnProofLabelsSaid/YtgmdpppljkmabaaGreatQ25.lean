/- Parts of the proof: walks of functions and plain laws. -/
import Derived.Test.YtgmdpppljkmabaaGreatQ0
import Derived.Test.YtgmdpppljkmabaaGreatQ1
import Derived.Test.YtgmdpppljkmabaaGreatQ21
import Derived.Test.YtgmdpppljkmabaaGreatQ11
import Derived.Test.YtgmdpppljkmabaaGreatQ10
import Derived.Test.YtgmdpppljkmabaaGreatQ6
import Derived.Test.YtgmdpppljkmabaaGreatQ9
import Derived.Test.YtgmdpppljkmabaaGreatQ8
import Derived.Test.YtgmdpppljkmabaaGreatQ2
import Derived.Test.YtgmdpppljkmabaaGreatQ3
import Derived.Test.YtgmdpppljkmabaaGreatQ12
import Derived.BigRegion
set_option maxRecDepth 100000
set_option maxHeartbeats 16000000
namespace Go.Proofs.YtgmdpppljkmabaaGreat
open Go Go.RowKit
theorem jc (ve vi vn:Value) (n:ak) (w:World) (fr fl:FuncId) (cr cl:Array Value) (R:Nat->Nat) (F:Nat->Int) (h:aQ w ve vi vn n) (hn:al n=true)
  (er:∀args w,(callFunc fr args).run Tryz.prog w=.ok (.enter fr args) w) (el:∀args w,(callFunc fl args).run Tryz.prog w=.ok (.enter fl args) w)
  (hR:∀v,v<n.ends.length->R v<n.ends.length/\∀W,aa w W->Calls Tryz.prog fr (#[.int .i64 (ai n v)]++cr) W fun e w'=>e=.returned (.int .i64 (R v))/\Below W.heap.size W w')
  (hF:∀v,v<n.ends.length->∀W,aa w W->Calls Tryz.prog fl (#[.int .i64 v,.int .i64 (R v),.int .i64 (aw n (R v) v)]++cl) W fun e w'=>e=.returned (.int .i64 (F v))/\Below W.heap.size W w'):
  Calls Tryz.prog 82 #[.agg #[ve,vi,vn],.func (.func fr) #[] cr,.func (.func fl) #[] cl] w fun e w'=>∃u,e=.returned u/\Own w' w.heap.size u ((List.range n.ends.length).map F)/\Below w.heap.size w w':=by
 have eS:=aE hn;have kz:=eS.1;have np:=eS.2;have Hn:=zh hn;have HR:=zh hR;have HF:=zh hF;clear eS hn hR hF
 obtain⟨w0,A,c,A2,c2,A3,c3,rfl,rfl,rfl,eV,hm,fJ,fB,HA,bK,aT,H,dL,dR,dU⟩:=zB h;clear h
 go_enter Tryz.func82,Tryz.ntmps82
 go_upto_region 1 with(fail);rw[<- bK.out];have bB:aa w0 w0:=ad _;go_wp2_with fail;refine(fV _ _ _ n w0 H.out Hn.out).mono ?_;rintro e w1 ⟨uR,rfl,vE,ay⟩;have cY:aa w0 w1:=ay;obtain⟨AR,cR,rfl,-,-,-⟩:=id vE.ints;have uY:(bn n).length=n.ends.length:=mN n;rw[uY]at vE;obtain⟨bR,oR,rfl,JB⟩:=ik vE.ints uY (by omega);have RY:=zh JB;have dC:=zh cY;have RZ:=zh uY;clear vE JB uY bB ay;rw[RZ.out];go_wp2
 go_loopw [7,14] (fun u i wr=>∃k:Nat,k<=n.ends.length/\i=.int .i64 k/\Own wr w1.heap.size u ((List.range k).map F)/\aa w1 wr) (fun _ i _=>n.ends.length-(intOf i).toNat)
 case atStart=>exact⟨0,Nat.zero_le _,rfl,by simpa using bH _ w1.heap.size,ad _⟩
 case round=>
  obtain⟨k,hk,rfl,ho,bA⟩:=hrel;have Ho:=zh ho;have Hs:=zh bA;clear ho bA cY
  by_cases hlt:k<n.ends.length
  ·have m3:IntKind.i64.wrap ((k:Int)+1)=(k:Int)+1:=aF _ (by omega) (by omega)
   have cJ:Hid (((List.range k).map F).length+1<=17592186044416):=by show _<=_;simp;omega
   have jm:=zh (sY (f:=F) k)
   have uy:(bn n)[k]?=some (ai n k:Int):=by unfold bn;rw[List.getElem?_map,List.getElem?_range hlt];rfl
   have c0:=RY.out k _ uy wr Hs.out;obtain⟨p,hp⟩:∃z,z=ai n k:=⟨_,rfl⟩
   obtain⟨r,hr⟩:∃z,z=R k:=⟨_,rfl⟩
   obtain⟨rF,jf⟩:=HR.out k hlt;rw[<- hp]at c0 jf;rw[<- hr]at rF jf;have kG:=zh jf;have Hr:=zh hr;clear uy hp hr jf;have kh:aa w0 wr:=aa.trans dC.out Hs.out;have lE:=zh kh;go_wp2_with fail;refine(kG.out wr (aa.trans aT.out lE.out)).mono ?_;rintro e w2 ⟨rfl,bj⟩;have b_:=zh (aa.after Hs.out bj);have qo:=aa.after lE.out bj;have mr:=zh qo;have eX:=zh (Own.since Ho.out bj);clear bj c0 kh;go_wp2_with fail;refine(fq _ _ _ n r w2 (H.out.keep mr.out.below) Hn.out rF).mono ?_;rintro e w4 ⟨uF,rfl,qd,tn⟩;obtain⟨AF,cF,rfl,-,-,-⟩:=id qd.ints;rw[fw Hn.out rF]at qd;obtain⟨bF,oF,rfl,EB⟩:=jX Hn.out rF qd.ints;rw[fw Hn.out rF];have mG:=zh (aa.after b_.out tn);have oK:=zh (aa.after mr.out tn);have ut:=zh (Own.since eX.out tn);have cd:=EB k hlt w4 (ad _);obtain⟨d,hd⟩:∃z,z=aw n r k:=⟨_,rfl⟩
   have We:=HF.out k hlt w4 (aa.trans aT.out oK.out);rw[<- Hr.out,<- hd]at We;rw[<- hd]at cd;have acZ:=zh We;clear hd qd EB tn We qo;go_wp2_with fail;refine acZ.out.mono ?_;rintro e w5 ⟨rfl,kT⟩;have nl:=zh (aa.after mG.out kT);have FR:=zh (Own.since ut.out kT);obtain⟨y,hy⟩:∃z,z=F k:=⟨_,rfl⟩
   rw[<- hy]at jm ⊢;clear kT cd hy
   go_wp2_with (at_builtin;refine dy rfl _ _ rfl rfl (FR.out.since (ag _ (ad _))) w5.heap.size y rfl (by simp[go_sem]) cJ.out (ag _ nl.out) ?_;intro g cc w3 eH hZ)
   have i8:=zh eH;have ew:Hid (aa w1 w3):=hZ;clear eH hZ;go_wp2;go_roundw
   case rel=>exact⟨k+1,by omega,by first | rfl | go_num,by rw[jm.out];have:=i8.out;simpa using this,ew.out⟩
   case measure=>simp[intOf];omega
  ·obtain rfl:k=n.ends.length:=by omega
   clear hk hlt;go_wp2;go_ret;exact⟨_,rfl,Ho.out.mono (Nat.le_trans aT.out.size dC.out.below.size),aa.trans aT.out (aa.trans dC.out Hs.out)⟩
section
variable {α : Type} {p : α → Bool} {xs : List α}
theorem Sg (h:xs.any p=false):xs.findIdx? p=none:=by
 rw[List.findIdx?_eq_none_iff];intro x hx;rw[List.any_eq_false]at h;simpa using h x hx
theorem PC {k:Nat} {x:α} (hx:xs[k]?=some x) (hp:p x=true) (h:(xs.take k).any p=false):xs.findIdx? p=some k:=by
 obtain⟨hk,rfl⟩:=List.getElem?_eq_some_iff.1 hx;rw[List.findIdx?_eq_some_iff_getElem];refine⟨hk,hp,fun j hj=>?_⟩
 rw[List.any_eq_false]at h
 have:=h xs[j] (List.mem_take_iff_getElem.2 ⟨j,by omega,rfl⟩)
 simpa using this
theorem Lz {k:Nat} {x:α} (hx:xs[k]?=some x) (h:(xs.take k).any p=false) (hp:p x=false):(xs.take (k+1)).any p=false:=by
 rw[bh hx,List.any_append,h];simp[hp]
end
def yo (p:Int×Int->Bool) (es:List (Int×Int)):Int:=match es.findIdx? p with | some i=>(i:Int) | none => -1
def Wf (w0:World) (gH:FuncId) (dF:Array Value) (p:Int×Int->Bool) (xs:List (Int×Int)):Prop:=
 ∀x∈xs,∀w,aa w0 w->Calls Tryz.prog gH (#[.agg #[.int .i64 x.1,.int .i64 x.2]]++dF) w fun e w'=>e=.returned (.bool (p x))/\Below w.heap.size w w'
theorem vF (v:Value) (xs:List (Int×Int)) (gH:FuncId) (dF:Array Value) (p:Int×Int->Bool) (w:World) (h:wG w v xs) (iW:∀args w,(callFunc gH args).run Tryz.prog w=.ok (.enter gH args) w) (hp:Wf w gH dF p xs):
  Calls Tryz.prog 203 #[v,.func (.func gH) #[] dF] w fun e w'=>e=.returned (.int .i64 (yo p xs))/\Below w.heap.size w w':=by
 have H:=zh h;obtain⟨A,c,rfl,eV,hm,hA⟩:=h;unfold maxLen at hm;have HA:=zh hA;clear hA;have Hp:=zh hp;have eg:=iW;clear hp
 go_enter Tryz.func203,Tryz.ntmps203
 go_wp2
 go_loopw [8] (fun i wr=>∃k:Nat,k<=xs.length/\i=.int .i64 k/\(xs.take k).any p=false/\aa w wr) (fun i _=>xs.length-(intOf i).toNat)
 case atStart=>exact⟨0,Nat.zero_le _,rfl,rfl,ad _⟩
 case round=>
  obtain⟨k,hk,rfl,oU,hb⟩:=hrel;have ww:=zh oU;have Hb:=zh hb;clear oU hb
  by_cases hlt:k<xs.length
  ·obtain⟨x,hx⟩:=aM xs k hlt;obtain⟨b,off,rfl,FU,dS⟩:=HA.out k x hx;have d0:=Hb.out.cell FU;have d1:=Hb.out.cell dS;have Hx:=zh hx;have jf:=Hp.out x (List.mem_of_getElem? hx) wr Hb.out;obtain⟨y,hy⟩:∃y,y=p x:=⟨_,rfl⟩
   have Hy:=zh hy;rw[<- hy]at jf;have kG:=zh jf;clear hy jf hx FU dS;go_wp2_with fail;refine kG.out.mono ?_;rintro e w1 ⟨rfl,ay⟩;have eD:=zh (Hb.out.trans ay);clear ay;cases y
   ·go_wp2;go_roundw
    case rel=>exact⟨k+1,by omega,by go_num,Lz Hx.out ww.out Hy.out.symm,eD.out⟩
    case measure=>simp[intOf];omega
   ·have Hr:Hid (yo p xs=k):=by show _=_;unfold yo;rw[PC Hx.out Hy.out.symm ww.out]
    go_wp2;go_ret;exact⟨congrArg (fun i=>Ending.returned (.int .i64 i)) Hr.out.symm,eD.out⟩
  ·obtain rfl:k=xs.length:=by omega
   have Hr:Hid (yo p xs = -1):=by show _=_;unfold yo;rw[Sg (by have:=ww.out;rwa [List.take_length]at this)]
   go_wp2;go_ret;exact⟨congrArg (fun i=>Ending.returned (.int .i64 i)) Hr.out.symm,Hb.out⟩
theorem Cs:∀args w,(callFunc 204 args).run Tryz.prog w=.ok (.enter 204 args) w:=enters_of Tryz.func204 (by kernel_rfl) rfl
theorem LA (x y dv dx:Int) (N v b1 b2 bF oF cF:Nat) (w:World) (hx:0<=x/\x<N) (hv:v<N) (hN:N<=1000)
  (h1:w.cell? ⟨b1,0,none⟩=some (.slice (some ⟨bF,oF,none⟩) N cF)) (h2:w.cell? ⟨b2,0,none⟩=some (.int .i64 v)) (h3:w.cell? ⟨bF,oF+v,none⟩=some (.int .i64 dv)) (h4:w.cell? ⟨bF,oF+x.toNat,none⟩=some (.int .i64 dx)) (hd : -1000<=dv/\dv<=1000):
  Calls Tryz.prog 204 #[.agg #[.int .i64 x,.int .i64 y],.pointer (some ⟨b1,0,none⟩),.pointer (some ⟨b2,0,none⟩)] w fun e w'=>e=.returned (.bool (decide (0<dv)&&decide (dx=dv-1)))/\Below w.heap.size w w':=by
 obtain⟨a,rfl⟩:=Int.eq_ofNat_of_zero_le hx.1;rw[Int.toNat_natCast]at h4;have ha:a<N:=by omega
 have m0:IntKind.i64.wrap (dv-1)=dv-1:=aF _ (by omega) (by omega);obtain⟨w0,cG⟩:∃z,z=w.alloc (.cells #[.int .i64 (a:Int),.int .i64 y] 83):=⟨_,rfl⟩
 have bB:aa w w0:=by rw[cG];exact ag _ (ad _)
 have c0:w0.cell? ⟨w.heap.size,0,none⟩=some (.int .i64 (a:Int)):=by rw[cG];simp
 have p0:=ae c0;have p1:∀W,aa w0 W->W.cell? ⟨b1,0,none⟩=some (.slice (some ⟨bF,oF,none⟩) N cF):=ae (ae h1 w0 bB);have p2:∀W,aa w0 W->W.cell? ⟨b2,0,none⟩=some (.int .i64 v):=ae (ae h2 w0 bB);have p3:∀W,aa w0 W->W.cell? ⟨bF,oF+v,none⟩=some (.int .i64 dv):=ae (ae h3 w0 bB);have p4:∀W,aa w0 W->W.cell? ⟨bF,oF+a,none⟩=some (.int .i64 dx):=ae (ae h4 w0 bB);have bK:=zh cG;have lC:=zh bB;clear hx h1 h2 h3 h4 hd cG bB c0
 go_enter Tryz.func204,Tryz.ntmps204
 go_upto_region 1 with(fail);rw[<- bK.out];refine ar 18 (aa w0) (by kernel_rfl) (by kernel_rfl) (by simp) (aj (ad _)) ?_;simp only[zT]
 apply de rfl;(intro W hW;have k1:=p1 W hW;go_simp;with_reducible rfl);simp only[zA]
 apply de rfl;(intro W hW;have k1:=p2 W hW;go_simp;with_reducible rfl);simp only[zA]
 refine bU rfl ?_;simp only[zA]
 apply de rfl;(intro W hW;have k1:=p3 W hW;go_simp;with_reducible rfl);simp only[zA]
 iterate 2 (refine bU rfl ?_;simp only[zA])
 apply eQ rfl rfl;(intro hb;intro W hW;have k1:=p1 W hW;go_simp;with_reducible rfl);simp only[zA]
 refine im rfl rfl ?_;simp only[zA]
 apply eQ rfl rfl;(intro hb;intro W hW;have k1:=p0 W hW;go_simp;with_reducible rfl);simp only[zA]
 refine im rfl rfl ?_;simp only[zA]
 apply eQ rfl rfl;(intro hb;intro W hW;have k1:=p4 W hW;go_simp;with_reducible rfl);simp only[zA]
 apply eQ rfl rfl;(intro hb;intro W hW;have k1:=p1 W hW;go_simp;with_reducible rfl);simp only[zA]
 apply eQ rfl rfl;(intro hb;intro W hW;have k1:=p2 W hW;go_simp;with_reducible rfl);simp only[zA]
 refine im rfl rfl ?_;simp only[zA]
 apply eQ rfl rfl;(intro hb;intro W hW;have k1:=p3 W hW;go_simp;with_reducible rfl);simp only[zA]
 iterate 2 (refine im rfl rfl ?_;simp only[zA])
 (first | refine bC rfl rfl ?_ | (refine bU rfl ?_));simp only[zA]
 intro W hW;have HW:=zh hW;clear hW p0 p1 p2 p3 p4;obtain⟨bb,td⟩:∃z:Bool,z=(decide (0<dv)&&(dx==dv-1)):=⟨_,rfl⟩
 rw[<- td];have yM:=zh td;clear td;go_wp2;go_ret
 exact⟨by rw[yM.out];rfl,aa.after lC.out HW.out⟩
theorem tV (ve vi vn:Value) (n:ak) (r:Nat) (w:World) (h:aQ w ve vi vn n) (hn:al n=true) (hr:r<n.ends.length):
  Calls Tryz.prog 149 #[.agg #[ve,vi,vn],.int .i64 r] w fun e w'=>∃u,e=.returned (.tuple #[u,.bool true])/\Own w' w.heap.size u (oe n r)/\Below w.heap.size w w':=by
 have eS:=aE hn;have kz:=eS.1;have np:=eS.2;have Hn:=zh hn
 have si:Hid (n.ids.length<=17592186044416):=by
  show _<=_
  by_cases h0:n.ids.length=0
  ·omega
  ·have:=(pL hn h0).1;omega
 have Qn:ey 0 ((n.ends.length:Int)-1) (r:Int)=true:=ap.2 (by omega);have Hir:=zh Qn;clear eS hn Qn
 obtain⟨w0,A,c,A2,c2,A3,c3,rfl,rfl,rfl,eV,hm,fJ,fB,HA,bK,aT,H,dL,dR,dU⟩:=zB h;clear h
 go_enter Tryz.func149,Tryz.ntmps149
 go_upto_region 1 with(fail);rw[<- bK.out];refine aS 9 (aa w0) (ad _) ?_;simp only[zT]
 refine bU rfl ?_;simp only[zA]
 refine fI ?_ rfl ?_ ?_;rotate_left;(intro W hW;unfold dr;go_simp;(with_reducible refine(j1 _ _ _ n W (H.out.keep hW.below) si.out).mono ?_);rintro e W' ⟨rfl,bN⟩;first | (refine⟨?_,aa.trans hW bN⟩;with_reducible rfl) | (subst bN;refine⟨?_,hW⟩;with_reducible rfl))
 simp only[zA]
 iterate 2 (refine bU rfl ?_;simp only[zA])
 iterate 2 (refine im rfl rfl ?_;simp only[zA])
 refine dA (v:=?_) rfl rfl ?_ ?_;rotate_left;(intro hb;intro W hW;unfold dr;go_simp;(with_reducible refine(lY _ _ _ n.ends r W (H.out.keep hW.below).es).mono ?_);rintro e W' ⟨rfl,bN⟩;first | (refine⟨?_,aa.trans hW bN⟩;with_reducible rfl) | (subst bN;refine⟨?_,hW⟩;with_reducible rfl))
 simp only[zA]
 refine im rfl rfl ?_;simp only[zA]
 (first | refine dO rfl rfl ?_ | (refine bU rfl ?_));simp only[zA]
 intro W hW;rw[Hn.out,Hir.out];have HW:=zh hW;have vS:=hW;clear hW;go_wp2_with fail;refine(fq _ _ _ n r W (H.out.keep HW.out.below) Hn.out hr).mono ?_;rintro e w1 ⟨uF,rfl,qd,ay⟩;obtain⟨AF,cF,rfl,-,-,-⟩:=id qd.ints;rw[fw Hn.out hr]at qd;obtain⟨bF,oF,rfl,EB⟩:=jX Hn.out hr qd.ints;rw[fw Hn.out hr];obtain⟨w2,gR⟩:∃z,z=w1.alloc (.cells #[.slice (some ⟨bF,oF,none⟩) n.ends.length cF] 25):=⟨_,rfl⟩
 obtain⟨b1,Wg⟩:∃z,z=w1.heap.size:=⟨_,rfl⟩
 have d_:aa w1 w2:=by rw[gR];exact ag _ (ad _)
 have cb1:w2.cell? ⟨b1,0,none⟩=some (.slice (some ⟨bF,oF,none⟩) n.ends.length cF):=by rw[gR,Wg];simp
 have qo:aa w0 w2:=aa.after (aa.after HW.out ay) d_;have mr:=zh qo;have ac0:=zh (ae cb1);have HcF:Hid (∀x,x<n.ends.length->∀X,aa w2 X->X.cell? ⟨bF,oF+x,none⟩=some (.int .i64 (aw n r x))):=fun x hx X hX=>EB x hx X (aa.after d_ hX)
 have nX:=zh gR;have ac3:=zh Wg;clear qd ay d_ cb1 EB gR Wg;go_upto_region 4 with(fail);rw[<- nX.out,<- ac3.out];go_wp2
 go_loopw [7,25] (fun u i wr=>∃k:Nat,k<=n.ends.length/\i=.int .i64 k/\Own wr w2.heap.size u ((List.range k).map (fX n r))/\aa w2 wr) (fun _ i _=>n.ends.length-(intOf i).toNat)
 case atStart=>exact⟨0,Nat.zero_le _,rfl,by simpa using bH _ w2.heap.size,ad _⟩
 case round=>
  obtain⟨k,hk,rfl,ho,bA⟩:=hrel;have Ho:=zh ho;have Hs:=zh bA;clear ho bA qo vS
  by_cases hlt:k<n.ends.length
  ·have m3:IntKind.i64.wrap ((k:Int)+1)=(k:Int)+1:=aF _ (by omega) (by omega)
   have cJ:Hid (((List.range k).map (fX n r)).length+1<=17592186044416):=by show _<=_;simp;omega
   have jm:=zh (AE n r k);obtain⟨es,bW⟩:=aM n.ends k hlt;obtain⟨he6,eU⟩:=bX Hn.out bW;have kh:aa w0 wr:=aa.after mr.out Hs.out;have lE:=zh kh;obtain⟨bE,oE,cE,uE,hAE,-,dS,dB⟩:=gy H.out.es bW;obtain⟨A9,y9,rfl,dV,d8,BX⟩:=id dB;have d1:=ae dS wr kh;have Mw:=zh dB;have kw:=zh bW;have rL:=zh eU;cases hAE;obtain⟨w4,iC⟩:∃z,z=wr.alloc (.cells #[.int .i64 (k:Int)] 3):=⟨_,rfl⟩
   obtain⟨b2,Wh⟩:∃z,z=wr.heap.size:=⟨_,rfl⟩
   have nj:aa wr w4:=by rw[iC];exact ag _ (ad _)
   have cb2:w4.cell? ⟨b2,0,none⟩=some (.int .i64 (k:Int)):=by rw[iC,Wh];simp
   have mG:=zh (aa.after Hs.out nj);have ut:=zh (Own.since Ho.out nj);have J7:=zh iC;have ac4:=zh Wh
   have Mf:fX n r k=yo (fun e=>decide (0<aw n r k)&&decide (aw n r e.1.toNat=aw n r k-1)) es:=by
    unfold fX yo
    rw[au bW];rfl
   have Me:=nP Hn.out hr hlt
   have jf:=vF (.slice A9 es.length y9) es 204 #[.pointer (some ⟨b1,0,none⟩),.pointer (some ⟨b2,0,none⟩)] (fun e=>decide (0<aw n r k)&&decide (aw n r e.1.toNat=aw n r k-1)) w4 (wG.keep dB (aa.after kh nj)) Cs (fun e he X hX=>by
    have Ql:=eU e he;have hX2:aa w2 X:=aa.after (aa.after Hs.out nj) hX
    exact LA e.1 e.2 (aw n r k) (aw n r e.1.toNat) n.ends.length k b1 b2 bF oF cF X Ql hlt (by omega) (ac0.out X hX2) (ae cb2 X hX) (HcF.out k hlt X hX2) (HcF.out e.1.toNat (by omega) X hX2) (by omega))
   rw[<- Mf]at jf;have kG:=zh jf;obtain⟨y,hy⟩:∃y,y=fX n r k:=⟨_,rfl⟩
   rw[<- hy]at jm kG;clear bW eU dB BX iC Wh nj cb2 Mf Me jf hy dS kh d8;go_upto_region 8 with(fail);rw[<- J7.out,<- ac4.out];clear d1;go_wp2_with fail;refine kG.out.mono ?_;rintro e w5 ⟨rfl,kT⟩;have nl:=zh (aa.after mG.out kT);have FR:=zh (Own.since ut.out kT);clear kT
   go_wp2_with (at_builtin;refine dy rfl _ _ rfl rfl (FR.out.since (ag _ (ad _))) w5.heap.size y rfl (by simp[go_sem]) cJ.out (ag _ nl.out) ?_;intro g cc w3 eH hZ)
   have i8:=zh eH;have ew:Hid (aa w2 w3):=hZ;clear eH hZ;go_wp2;go_roundw
   case rel=>exact⟨k+1,by omega,by first | rfl | go_num,by rw[jm.out];have:=i8.out;simpa using this,ew.out⟩
   case measure=>simp[intOf];omega
  ·obtain rfl:k=n.ends.length:=by omega
   clear hk hlt;go_wp2
   go_ret2
   exact⟨_,rfl,Ho.out.mono (Nat.le_trans aT.out.size mr.out.below.size),aa.trans aT.out (aa.after mr.out Hs.out)⟩
def swp (xs:List Int) (i j:Nat):List Int:=(xs.set i (xs.getD j 0)).set j (xs.getD i 0)
theorem Sh (xs:List Int) (i j:Nat):(swp xs i j).length=xs.length:=by simp[swp]
theorem Ct (L1 L2 L3:List Int) (x y:Int):swp (L1++x::(L2++y::L3)) L1.length (L1.length+1+L2.length)=L1++y::(L2++x::L3):=by
 have e1:(L1++x::(L2++y::L3)).getD L1.length 0=x:=by simp[zDd]
 have e2:(L1++x::(L2++y::L3)).getD (L1.length+1+L2.length) 0=y:=by
  rw[zDd,List.getElem?_append_right (by omega),show L1.length+1+L2.length-L1.length=L2.length+1 by omega,List.getElem?_cons_succ,List.getElem?_append_right (Nat.le_refl _)]
  simp
 unfold swp;rw[e1,e2,List.set_append_right _ _ (Nat.le_refl _),Nat.sub_self,List.set_cons_zero,List.set_append_right _ _ (by omega),show L1.length+1+L2.length-L1.length=L2.length+1 by omega,List.set_cons_succ,List.set_append_right _ _ (Nat.le_refl _),Nat.sub_self,List.set_cons_zero]
theorem PD (xs:List Int) (i j:Nat) (h:i≠j):swp xs i j=swp xs j i:=by
 unfold swp;exact List.set_comm _ _ h
def JH (A P M Q B:List Int) (k:Nat):List Int:=A++(Q.take k++(P.drop k++(M++(P.take k++(Q.drop k++B)))))
theorem PE (A P M Q B:List Int):JH A P M Q B 0=A++(P++(M++(Q++B))):=by simp[JH]
theorem Si (A P M Q B:List Int) (h:P.length=Q.length):JH A P M Q B P.length=A++(Q++(M++(P++B))):=by simp[JH,h ▸ List.take_length,h]
theorem PF (A P M Q B:List Int) (h:P.length=Q.length) {k:Nat} (hk:k<P.length):swp (JH A P M Q B k) (A.length+k) (A.length+P.length+M.length+k)=JH A P M Q B (k+1):=by
 have hq:k<Q.length:=by omega
 have e1:P.drop k=P[k]::P.drop (k+1):=List.drop_eq_getElem_cons hk;have e2:Q.drop k=Q[k]::Q.drop (k+1):=List.drop_eq_getElem_cons hq;have e3:P.take (k+1)=P.take k++[P[k]]:=by simp
 have e4:Q.take (k+1)=Q.take k++[Q[k]]:=by simp
 have g:=Ct (A++Q.take k) (P.drop (k+1)++(M++P.take k)) (Q.drop (k+1)++B) P[k] Q[k]
 have l1:(A++Q.take k).length=A.length+k:=by rw[List.length_append,List.length_take];omega
 have l2:(P.drop (k+1)++(M++P.take k)).length=P.length-(k+1)+(M.length+k):=by rw[List.length_append,List.length_append,List.length_drop,List.length_take];omega
 rw[l1,l2]at g;unfold JH;rw[e1,e2,e3,e4];rw[show A.length+P.length+M.length+k=A.length+k+1+(P.length-(k+1)+(M.length+k))by omega]
 simp only[List.append_assoc,List.cons_append,List.nil_append]at g ⊢
 exact g
structure Il (A U V B:List Int) (m i j:Nat) (xs:List Int):Prop where
 ex:∃X1 P Q X2:List Int,xs=A++(X1++(P++(Q++(X2++B))))/\P.length=i/\Q.length=j/\A.length+X1.length+i=m/\A++(X1++(Q++(P++(X2++B))))=A++(V++(U++B))
theorem Il.start (A U V B:List Int):Il A U V B (A.length+U.length) U.length V.length (A++(U++(V++B))):=⟨[],U,V,[],by simp,rfl,rfl,by simp,by simp⟩
abbrev jE (K:Int->Int) (l:List Int):Prop:=l.Pairwise (fun x y=>K x<=K y)
structure Par (K:Int->Int) (U1 U2 V1 V2:List Int):Prop where
 u:∀x∈U1,∀y∈U2,K x<=K y
 v:∀x∈V1,∀y∈V2,K x<=K y
 uv:∀x∈U1,∀y∈V2,K x<=K y
 vu:∀x∈V1,∀y∈U2,K x<=K y
theorem PG {K:Int->Int} {a b:List Int} (ha:jE K a) (hb:jE K b) (h:∀x∈a,∀y∈b,K x<=K y):jE K (a++b):=List.pairwise_append.2 ⟨ha,hb,h⟩
theorem yp {K:Int->Int} {l:List Int} (h:jE K l) {k:Nat} (hk:k<l.length) (x:Int) (hx:x∈l.take (k+1)):K x<=K l[k]:=by
 obtain⟨i,hi,rfl⟩:=List.mem_iff_getElem.1 hx;rw[List.length_take]at hi;rw[List.getElem_take];rcases Nat.lt_or_eq_of_le (show i<=k by omega)with h1 | h1
 ·exact List.pairwise_iff_getElem.1 h i k (by omega) hk h1
 ·subst h1;exact Int.le_refl _
theorem tW {K:Int->Int} {l:List Int} (h:jE K l) {k:Nat} (hk:k<l.length) (x:Int) (hx:x∈l.drop k):K l[k]<=K x:=by
 obtain⟨i,hi,rfl⟩:=List.mem_iff_getElem.1 hx;rw[List.length_drop]at hi;rw[List.getElem_drop];rcases Nat.eq_zero_or_pos i with h1 | h1
 ·subst h1;exact Int.le_refl _
 ·exact List.pairwise_iff_getElem.1 h k (k+i) hk (by omega) (by omega)
theorem Cu {K:Int->Int} {l:List Int} (h:jE K l) (k:Nat):∀x∈l.take k,∀y∈l.drop k,K x<=K y:=by
 rw[<- List.take_append_drop k l]at h;exact(List.pairwise_append.1 h).2.2
theorem Wi {K:Int->Int} {U V:List Int} (hU:jE K U) (hV:jE K V) {s e:Nat} (hs:s<=U.length) (he:e<=V.length)
  (h1:s=0\/e=V.length\/∃(a:s-1<U.length) (b:e<V.length),K U[s-1]<=K V[e])
  (h2:s=U.length\/e=0\/∃(a:s<U.length) (b:e-1<V.length),K V[e-1]<=K U[s]):
  Par K (U.take s) (U.drop s) (V.take e) (V.drop e):=by
 refine⟨Cu hU s,Cu hV e,fun x hx y hy=>?_,fun x hx y hy=>?_⟩
 ·rcases h1 with h | h | ⟨a,b,h⟩
  ·subst h;simp at hx
  ·subst h;simp at hy
  ·rcases Nat.eq_zero_or_pos s with h0 | h0
   ·subst h0;simp at hx
   ·have g1:=yp hU a x (by rwa [show s-1+1=s by omega])
    have g2:=tW hV b y hy;omega
 ·rcases h2 with h | h | ⟨a,b,h⟩
  ·subst h;simp at hy
  ·subst h;simp at hx
  ·rcases Nat.eq_zero_or_pos e with h0 | h0
   ·subst h0;simp at hx
   ·have g1:=yp hV b x (by rwa [show e-1+1=e by omega])
    have g2:=tW hU a y hy;omega
theorem kp {K:Int->Int} {U1 U2 V1 V2 W1 W2:List Int} (h:Par K U1 U2 V1 V2) (p1:W1.Perm (U1++V1)) (p2:W2.Perm (U2++V2)) (s1:jE K W1) (s2:jE K W2):
  jE K (W1++W2)/\(W1++W2).Perm ((U1++U2)++(V1++V2)):=by
 refine⟨PG s1 s2 fun x hx y hy=>?_,(p1.append p2).trans ?_⟩
 ·rcases List.mem_append.1 (p1.mem_iff.1 hx)with a | a <;> rcases List.mem_append.1 (p2.mem_iff.1 hy)with b | b
  ·exact h.u x a y b
  ·exact h.uv x a y b
  ·exact h.vu x a y b
  ·exact h.v x a y b
 ·rw[List.append_assoc,List.append_assoc];refine List.Perm.append_left U1 ?_;rw[<- List.append_assoc,<- List.append_assoc];exact List.Perm.append_right V2 List.perm_append_comm
def fb (A:List Int) (x:Int) (V B:List Int) (t:Nat):List Int:=A++(V.take t++(x::(V.drop t++B)))
theorem LB (A:List Int) (x:Int) (V B:List Int):fb A x V B 0=A++([x]++(V++B)):=by simp[fb]
theorem LC (A:List Int) (x:Int) (V B:List Int) {t:Nat} (ht:t<V.length):swp (fb A x V B t) (A.length+t) (A.length+t+1)=fb A x V B (t+1):=by
 have e1:V.drop t=V[t]::V.drop (t+1):=List.drop_eq_getElem_cons ht;have e2:V.take (t+1)=V.take t++[V[t]]:=by simp
 have g:=Ct (A++V.take t) [] (V.drop (t+1)++B) x V[t]
 have l1:(A++V.take t).length=A.length+t:=by rw[List.length_append,List.length_take];omega
 rw[l1]at g;unfold fb;rw[e1,e2];simp only[List.append_assoc,List.cons_append,List.nil_append,List.length_nil,Nat.add_zero]at g ⊢
 exact g
theorem tX (A:List Int) (x:Int) (V B:List Int) {t:Nat} (ht:t<V.length):swp (fb A x V B (t+1)) (A.length+t+1) (A.length+t)=fb A x V B t:=by
 have e1:V.drop t=V[t]::V.drop (t+1):=List.drop_eq_getElem_cons ht;have e2:V.take (t+1)=V.take t++[V[t]]:=by simp
 have g:=Ct (A++V.take t) [] (V.drop (t+1)++B) V[t] x
 have l1:(A++V.take t).length=A.length+t:=by rw[List.length_append,List.length_take];omega
 rw[l1]at g;rw[PD _ _ _ (by omega)];unfold fb;rw[e1,e2];simp only[List.append_assoc,List.cons_append,List.nil_append,List.length_nil,Nat.add_zero]at g ⊢
 exact g
theorem EP (A:List Int) (x:Int) (V B:List Int):fb A x V B V.length=A++(V++([x]++B)):=by simp[fb]
theorem yq (x:Int) (V:List Int) (t:Nat):(V.take t++x::V.drop t).Perm ([x]++V):=by
 refine List.perm_middle.trans ?_;rw[List.take_append_drop];exact List.Perm.refl _
theorem Cv {K:Int->Int} {x:Int} {V:List Int} (h:jE K V) {t:Nat} (ht:t<=V.length) (h1:t=0\/∃a:t-1<V.length,K V[t-1]<=K x) (h2:t=V.length\/∃a:t<V.length,K x<=K V[t]):jE K (V.take t++x::V.drop t):=by
 have c:=Cu h t;have h0:=h;rw[<- List.take_append_drop t V]at h0;obtain⟨a1,a2,-⟩:=List.pairwise_append.1 h0
 have b1:∀y∈V.take t,K y<=K x:=fun y hy=>by
  rcases h1 with e | ⟨a,e⟩
  ·subst e;simp at hy
  ·rcases Nat.eq_zero_or_pos t with h0 | h0
   ·subst h0;simp at hy
   ·have:=yp h a y (by rwa [show t-1+1=t by omega])
    omega
 have b2:∀y∈V.drop t,K x<=K y:=fun y hy=>by
  rcases h2 with e | ⟨a,e⟩
  ·subst e;simp at hy
  ·have:=tW h a y hy
   omega
 refine List.pairwise_append.2 ⟨a1,List.pairwise_cons.2 ⟨b2,a2⟩,fun y hy z hz=>?_⟩
 rcases List.mem_cons.1 hz with e | e
 ·rw[e];exact b1 y hy
 ·exact c y hy z e
theorem Il.big {A U V B:List Int} {m i j:Nat} {xs:List Int} (h:Il A U V B m i j xs) (CW:j<i):
  ∃A' P' M' Q' B',xs=A'++(P'++(M'++(Q'++B')))/\A'.length+i=m/\P'.length=j/\Q'.length=j/\A'.length+P'.length+M'.length=m/\Il A U V B m (i-j) j (A'++(Q'++(M'++(P'++B')))):=by
 obtain⟨X1,P,Q,X2,rfl,hp,hq,hm,ht⟩:=h.ex;have hc:=List.take_append_drop j P;obtain⟨P1,hP1⟩:∃z,z=P.take j:=⟨_,rfl⟩
 obtain⟨P2,To⟩:∃z,z=P.drop j:=⟨_,rfl⟩
 have l1:P1.length=j:=by rw[hP1,List.length_take];omega
 have l2:P2.length=i-j:=by rw[To,List.length_drop];omega
 rw[<- hP1,<- To]at hc;clear hP1 To;subst hc
 refine⟨A++X1,P1,P2,Q,X2++B,by simp only[List.append_assoc],by rw[List.length_append];omega,l1,hq,by rw[List.length_append];omega,⟨X1++Q,P2,P1,X2,by simp only[List.append_assoc],l2,l1,by rw[List.length_append];omega,?_⟩⟩
 rw[<- ht];simp only[List.append_assoc]
theorem Il.less {A U V B:List Int} {m i j:Nat} {xs:List Int} (h:Il A U V B m i j xs) (CW:i<j):
  ∃A' P' M' Q' B',xs=A'++(P'++(M'++(Q'++B')))/\A'.length+i=m/\P'.length=i/\Q'.length=i/\A'.length+P'.length+M'.length=m+j-i/\Il A U V B m i (j-i) (A'++(Q'++(M'++(P'++B')))):=by
 obtain⟨X1,P,Q,X2,rfl,hp,hq,hm,ht⟩:=h.ex;have hc:=List.take_append_drop (j-i) Q;obtain⟨Q1,hQ1⟩:∃z,z=Q.take (j-i):=⟨_,rfl⟩
 obtain⟨Q2,hQ2⟩:∃z,z=Q.drop (j-i):=⟨_,rfl⟩
 have l1:Q1.length=j-i:=by rw[hQ1,List.length_take];omega
 have l2:Q2.length=i:=by rw[hQ2,List.length_drop];omega
 rw[<- hQ1,<- hQ2]at hc;clear hQ1 hQ2;subst hc
 refine⟨A++X1,P,Q1,Q2,X2++B,by simp only[List.append_assoc],by rw[List.length_append];omega,hp,l2,by rw[List.length_append];omega,⟨X1,Q2,Q1,P++X2,by simp only[List.append_assoc],l2,l1,by omega,?_⟩⟩
 rw[<- ht];simp only[List.append_assoc]
theorem Il.same {A U V B:List Int} {m i:Nat} {xs:List Int} (h:Il A U V B m i i xs):
  ∃A' P' Q' B',xs=A'++(P'++([]++(Q'++B')))/\A'.length+i=m/\P'.length=i/\Q'.length=i/\A'++(Q'++([]++(P'++B')))=A++(V++(U++B)):=by
 obtain⟨X1,P,Q,X2,rfl,hp,hq,hm,ht⟩:=h.ex
 refine⟨A++X1,P,Q,X2++B,by simp only[List.append_assoc,List.nil_append],by rw[List.length_append];omega,hp,hq,?_⟩
 rw[<- ht];simp only[List.append_assoc,List.nil_append]
theorem Il.len {A U V B:List Int} {m i j:Nat} {xs:List Int} (h:Il A U V B m i j xs):xs.length=A.length+U.length+V.length+B.length/\i<=m/\m+j<=xs.length:=by
 obtain⟨X1,P,Q,X2,rfl,hp,hq,hm,ht⟩:=h.ex
 have:=congrArg List.length ht
 simp only[List.length_append]at this ⊢
 omega
structure EQ (a m b mid n s0 r0:Nat):Prop where
 LD:mid=(a+b)/2
 hn:n=mid+m
 Jn:a+2<=m
 hmb:m+2<=b
 lo:(mid<m/\s0=n-b/\r0=mid)\/(m<=mid/\s0=a/\r0=m)
theorem EQ.rng {a m b mid n s0 r0:Nat} (h:EQ a m b mid n s0 r0):a<=s0/\s0<=r0/\r0<=m/\a<mid/\mid<b:=by
 obtain⟨h1,h2,h3,h4,h5⟩:=h
 rcases h5 with⟨h6,h7,h8⟩ | ⟨h6,h7,h8⟩ <;> omega
theorem EQ.at_ {a m b mid n s0 r0 c:Nat} (h:EQ a m b mid n s0 r0) (h1:s0<=c) (h2:c<r0):a<=c/\c<m/\m<=n-1-c/\n-1-c<b/\c+1<=n:=by
 obtain⟨e1,e2,h3,h4,h5⟩:=h
 rcases h5 with⟨h6,h7,h8⟩ | ⟨h6,h7,h8⟩ <;> omega
theorem EQ.end_ {a m b mid n s0 r0 s:Nat} (h:EQ a m b mid n s0 r0) (h1:s0<=s) (h2:s<=r0):a<=s/\s<=m/\m<=n-s/\n-s<=b/\s<=n/\(s-a)+(n-s-m)=mid-a/\mid<=n-s+(m-s)/\n-s=mid+(m-s):=by
 obtain⟨e1,e2,h3,h4,h5⟩:=h
 rcases h5 with⟨h6,h7,h8⟩ | ⟨h6,h7,h8⟩ <;> omega
theorem Sj {K:Int->Int} {U V:List Int} {a m b mid n s0 r0 s:Nat} (h:EQ a m b mid n s0 r0) (hU:jE K U) (hV:jE K V) (hul:U.length=m-a) (hvl:V.length=b-m) (h1:s0<=s) (h2:s<=r0)
  (hI:s=s0\/K (U.getD (s-1-a) 0)<=K (V.getD (n-s-m) 0)) (hJ:s=r0\/K (V.getD (n-1-s-m) 0)<K (U.getD (s-a) 0)):
  Par K (U.take (s-a)) (U.drop (s-a)) (V.take (n-s-m)) (V.drop (n-s-m)):=by
 have he:=h.end_ h1 h2
 have hd:∀(l:List Int) (k:Nat) (hk:k<l.length),l.getD k 0=l[k]:=fun l k hk=>by rw[zDd,List.getElem?_eq_getElem hk];rfl
 refine Wi hU hV (by omega) (by omega) ?_ ?_
 ·by_cases e0:s=a
  ·exact .inl (by omega)
  ·by_cases e1:n-s=b
   ·exact .inr (.inl (by omega))
   ·right;right
    rcases hI with hI | hI
    ·exfalso
     obtain⟨-,-,-,-,h5⟩:=h
     rcases h5 with⟨h6,h7,h8⟩ | ⟨h6,h7,h8⟩ <;> omega
    ·refine⟨by omega,by omega,?_⟩
     rw[hd _ _ (by omega),hd _ _ (by omega)]at hI
     have:s-a-1=s-1-a:=by omega
     simp only[this];exact hI
 ·by_cases e0:s=m
  ·exact .inl (by omega)
  ·by_cases e1:n-s=m
   ·exact .inr (.inl (by omega))
   ·right;right
    rcases hJ with hJ | hJ
    ·exfalso
     obtain⟨-,-,-,-,h5⟩:=h
     rcases h5 with⟨h6,h7,h8⟩ | ⟨h6,h7,h8⟩ <;> omega
    ·refine⟨by omega,by omega,?_⟩
     rw[hd _ _ (by omega),hd _ _ (by omega)]at hJ
     have:n-s-m-1=n-1-s-m:=by omega
     simp only[this];omega
structure Sd (w0 W:World) (base g c:Nat) (xs:List Int):Prop where
 own:Own W base (.slice (some ⟨g,0,none⟩) xs.length c) xs
 only:bg [g] w0 W
theorem Sd.drew {w0 W:World} {base g c:Nat} {xs:List Int} (h:Sd w0 W base g c xs):Sd w0 W.drew base g c xs:=⟨Own.keep h.own (aj (ad W)).below,h.only.drewN 1⟩
theorem Sd.since {w0 W W':World} {base g c:Nat} {xs:List Int} (h:Sd w0 W base g c xs) (hs:aa W W'):Sd w0 W' base g c xs:=⟨Own.keep h.own hs.below,h.only.trans (bg.aek hs.below)⟩
theorem Sd.swap {w0 W:World} {base g c:Nat} {xs:List Int} (h:Sd w0 W base g c xs) (i j:Nat):Sd w0 ((W.setCell ⟨g,i,none⟩ (.int .i64 (xs.getD j 0))).setCell ⟨g,j,none⟩ (.int .i64 (xs.getD i 0))) base g c (swp xs i j):=by
 refine⟨?_,(h.only.setCell (.inl (by simp)) _).setCell (.inl (by simp)) _⟩;have h1:=(h.own.set (k:=i) (xs.getD j 0)).set (k:=j) (xs.getD i 0);rw[Sh];exact h1
theorem Sd.cell {w0 W:World} {base g c:Nat} {xs:List Int} (h:Sd w0 W base g c xs) {k:Nat} (hk:k<xs.length):W.cell? ⟨g,k,none⟩=some (.int .i64 (xs.getD k 0)):=by
 refine h.own.cell ?_;rw[zDd,List.getElem?_eq_getElem hk];rfl
theorem zE (w0 w:World) (base g c:Nat) (A P M Q B:List Int) (fv:Value) (h:Sd w0 w base g c (A++(P++(M++(Q++B))))) (zg:P.length=Q.length) (hl:(A++(P++(M++(Q++B)))).length<=1000000):
  Calls Tryz.prog 248 #[.slice (some ⟨g,0,none⟩) (A++(P++(M++(Q++B)))).length c,.int .i64 A.length,.int .i64 ((A.length+P.length+M.length:Nat):Int),.int .i64 P.length,fv] w fun e w'=>e=.returned (.tuple #[])/\Sd w0 w' base g c (A++(Q++(M++(P++B)))):=by
 have H:=zh h;clear h;obtain⟨N,hN⟩:∃z,z=(A++(P++(M++(Q++B)))).length:=⟨_,rfl⟩
 obtain⟨a,ha⟩:∃z,z=A.length:=⟨_,rfl⟩
 obtain⟨b,hb⟩:∃z,z=A.length+P.length+M.length:=⟨_,rfl⟩
 obtain⟨n,hn⟩:∃z,z=P.length:=⟨_,rfl⟩
 have n_:N=a+n+M.length+n+B.length:=by rw[hN,ha,hn];simp only[List.length_append];omega
 have hlen:∀k,(JH A P M Q B k).length=N:=fun k=>by
  rw[hN];unfold JH;simp only[List.length_append,List.length_take,List.length_drop];omega
 rw[<- hN]at hl;rw[<- hN,<- hb,<- ha,<- hn];have HN:=zh hN;have Ha:=zh ha;have Hb:=zh hb;have Hn:=zh hn;have cJ:=zh hlen;have Fl:=zh zg;clear hN ha hb hn hlen zg
 go_enter Tryz.func248,Tryz.ntmps248
 go_wp2
 go_loopw [10] (fun i wr=>∃k:Nat,k<=n/\i=.int .i64 k/\Sd w0 wr base g c (JH A P M Q B k)) (fun i _=>n-(intOf i).toNat)
 case atStart=>exact⟨0,Nat.zero_le _,rfl,by rw[PE];exact H.out⟩
 case round=>
  obtain⟨k,hk,rfl,hs⟩:=hrel
  by_cases hlt:k<n
  ·have m1:IntKind.i64.wrap ((a:Int)+(k:Int))=((a+k:Nat):Int):=by rw[aF _ (by omega) (by omega)];omega
   have m2:IntKind.i64.wrap ((b:Int)+(k:Int))=((b+k:Nat):Int):=by rw[aF _ (by have:=Hb.out;omega) (by have:=Hb.out;have:=Ha.out;have:=Hn.out;omega)];omega
   have m3:IntKind.i64.wrap ((k:Int)+1)=(k:Int)+1:=aF _ (by omega) (by omega)
   have hbk:b+k<N:=by have:=Hb.out;have:=Ha.out;have:=Hn.out;omega
   have hak:a+k<N:=by omega
   have c1:=hs.cell (k:=a+k) (by rw[cJ.out];exact hak)
   have c2:=hs.cell (k:=b+k) (by rw[cJ.out];exact hbk)
   have f1:=hs.own.free (a+k);have f2:=hs.own.free (b+k);have lK:=hs.swap (a+k) (b+k)
   rw[show swp (JH A P M Q B k) (a+k) (b+k)=JH A P M Q B (k+1)by rw[Ha.out,Hb.out];exact PF A P M Q B Fl.out (by have:=Hn.out;omega)]at lK
   obtain⟨x,hx⟩:∃z,z=(JH A P M Q B k).getD (a+k) 0:=⟨_,rfl⟩
   obtain⟨y,hy⟩:∃z,z=(JH A P M Q B k).getD (b+k) 0:=⟨_,rfl⟩
   rw[<- hx]at c1 lK;rw[<- hy]at c2 lK;have Ap:=zh lK;obtain⟨i,hi⟩:∃z,z=a+k:=⟨_,rfl⟩
   obtain⟨j,hj⟩:∃z,z=b+k:=⟨_,rfl⟩
   have CW:i≠j:=by have:=Hb.out;have:=Ha.out;have:=Hn.out;omega
   rw[<- hi]at m1 hak c1 f1 Ap;rw[<- hj]at m2 hbk c2 f2 Ap;clear hs lK hx hy hi hj;go_upto_region 3 with(fail)
   go_region
   obtain⟨w2,gR⟩:∃z,z=(wr.setCell ⟨g,i,none⟩ (.int .i64 y)).setCell ⟨g,j,none⟩ (.int .i64 x):=⟨_,rfl⟩
   rw[<- gR]at Ap ⊢;clear gR c1 c2 f1 f2;go_wp2;go_roundw
   case rel=>exact⟨k+1,by omega,by first | rfl | go_num,Ap.out.drew⟩
   case measure=>simp[intOf];omega
  ·obtain rfl:k=n:=by omega
   have Hs:=zh hs;clear hs;go_wp2
   go_end0
   refine⟨rfl,?_⟩;have h9:=Hs.out;rw[Hn.out,Si _ _ _ _ _ Fl.out]at h9;exact h9
theorem pP (w0 w:World) (base g c N a b n:Nat) (A P M Q B xs:List Int) (fv:Value) (hx:xs=A++(P++(M++(Q++B)))) (h:Sd w0 w base g c xs) (zg:P.length=Q.length) (hN:xs.length=N) (ha:A.length=a) (hb:A.length+P.length+M.length=b) (hn:P.length=n) (hl:N<=1000000):
  Calls Tryz.prog 248 #[.slice (some ⟨g,0,none⟩) N c,.int .i64 a,.int .i64 b,.int .i64 n,fv] w fun e w'=>e=.returned (.tuple #[])/\Sd w0 w' base g c (A++(Q++(M++(P++B)))):=by
 subst hx hN ha hb hn;exact zE w0 w base g c A P M Q B fv h zg hl
theorem Im (w0 w:World) (base g c N a m b:Nat) (A U V B xs:List Int) (fv:Value) (hx:xs=A++(U++(V++B))) (h:Sd w0 w base g c xs) (hN:xs.length=N) (ha:A.length=a) (hm:a+U.length=m) (hb:m+V.length=b) (hU:0<U.length) (hV:0<V.length) (hl:N<=1000000):
  Calls Tryz.prog 246 #[.slice (some ⟨g,0,none⟩) N c,.int .i64 a,.int .i64 m,.int .i64 b,fv] w fun e w'=>e=.returned (.tuple #[])/\Sd w0 w' base g c (A++(V++(U++B))):=by
 have TX:b<=N:=by rw[<- hN,hx];simp only[List.length_append];omega
 have hR:Il A U V B m U.length V.length xs:=by rw[hx,<- hm,<- ha];exact Il.start A U V B
 have HR:=zh hR;have H:=zh h;have HN:=zh hN
 have Dd:A.length+U.length+V.length+B.length=N:=by rw[<- hN,hx];simp only[List.length_append];omega
 have Fp:=zh Dd;clear h hx hR hN Dd;obtain⟨i0,Mx⟩:∃z,z=U.length:=⟨_,rfl⟩
 obtain⟨j0,XA⟩:∃z,z=V.length:=⟨_,rfl⟩
 rw[<- Mx]at hm HR hU;rw[<- XA]at hb HR hV;have Hi0:=zh Mx;have Hj0:=zh XA;clear Mx XA ha
 have m1:IntKind.i64.wrap ((m:Int)-(a:Int))=(i0:Int):=by rw[aF _ (by omega) (by omega)];omega
 have m2:IntKind.i64.wrap ((b:Int)-(m:Int))=(j0:Int):=by rw[aF _ (by omega) (by omega)];omega
 have Hm:=zh hm;have Hb:=zh hb;clear hm hb
 go_enter Tryz.func246,Tryz.ntmps246
 go_wp2;clear m1 m2
 go_loopw [10,11] (fun ti tj wr=>∃(i j:Nat) (ys:List Int),ti=.int .i64 i/\tj=.int .i64 j/\0<i/\0<j/\ys.length=N/\Il A U V B m i j ys/\Sd w0 wr base g c ys) (fun ti tj _=>(intOf ti).toNat+(intOf tj).toNat)
 case atStart=>exact⟨i0,j0,xs,rfl,rfl,hU,hV,HN.out,HR.out,H.out⟩
 case round=>
  obtain⟨i,j,ys,rfl,rfl,hi,hj,IN,hr,hs⟩:=hrel;have qT:=hr.len;have Mc:i<=m/\m+j<=N:=by omega
  have Hr:=zh hr;have Hs:=zh hs;have FI:=zh IN;clear hr hs IN qT
  have e1:IntKind.i64.wrap ((m:Int)-(i:Int))=((m-i:Nat):Int):=by rw[aF _ (by omega) (by omega)];omega
  rcases Nat.lt_trichotomy i j with hlt | rfl | hlt
  ·obtain⟨A',P',M',Q',B',hx,q1,q2,q3,q4,q5⟩:=Hr.out.less hlt;have QG:=zh q5
   have hlen:(A'++(Q'++(M'++(P'++B')))).length=N:=by rw[<- FI.out,hx];simp only[List.length_append];omega
   have cJ:=zh hlen;have Hx:=zh hx;clear q5 hx hlen
   have t0:((i:Int)=(j:Int))=False:=by simp;omega
   have t0':(i=j)=False:=by simp;omega
   have t1:((j:Int)<(i:Int))=False:=by simp;omega
   have e2:IntKind.i64.wrap ((m:Int)+(j:Int))=((m+j:Nat):Int):=by rw[aF _ (by omega) (by omega)];omega
   have e3:IntKind.i64.wrap (((m+j:Nat):Int)-(i:Int))=((m+j-i:Nat):Int):=by rw[aF _ (by omega) (by omega)];omega
   have e4:IntKind.i64.wrap ((j:Int)-(i:Int))=((j-i:Nat):Int):=by rw[aF _ (by omega) (by omega)];omega
   obtain⟨mj,UH⟩:∃z,z=m+j:=⟨_,rfl⟩
   obtain⟨mji,Wj⟩:∃z,z=m+j-i:=⟨_,rfl⟩
   obtain⟨mi,Bg⟩:∃z,z=m-i:=⟨_,rfl⟩
   obtain⟨ji,oo⟩:∃z,z=j-i:=⟨_,rfl⟩
   rw[<- UH]at e2 e3;rw[<- Bg]at e1;rw[UH,<- Wj,<- UH]at e3;rw[<- oo]at e4;have Vg:=zh UH;have ac5:=zh Wj;have Hmi:=zh Bg;have Hji:=zh oo;have Hq:=zh (And.intro q1 (And.intro q2 (And.intro q3 q4)));clear UH Wj Bg oo q1 q2 q3 q4 t0';go_wp2_with fail
   refine(pP w0 wr base g c N mi mji i A' P' M' Q' B' ys fv Hx.out Hs.out (by have:=Hq.out;omega) FI.out (by have:=Hq.out;have:=Hmi.out;omega) (by have:=Hq.out;have:=ac5.out;omega) Hq.out.2.1 hl).mono ?_
   rintro e w2 ⟨rfl,d_⟩;have b_:=zh d_;clear d_ Hs;go_wp2;go_roundw
   case rel=>exact⟨i,ji,_,by first | rfl | go_num,by first | rfl | go_num,hi,by have:=Hji.out;omega,cJ.out,by rw[Hji.out];exact QG.out,b_.out⟩
   case measure=>have:=Hji.out;simp[intOf];omega
  ·obtain⟨A',P',Q',B',hx,q1,q2,q3,q5⟩:=Hr.out.same;have QG:=zh q5;have Hx:=zh hx;clear q5 hx;have t0:((i:Int)=(i:Int))=True:=by simp
   obtain⟨mi,Bg⟩:∃z,z=m-i:=⟨_,rfl⟩
   rw[<- Bg]at e1;have Hmi:=zh Bg;have Hq:=zh (And.intro q1 (And.intro q2 q3));clear Bg q1 q2 q3;go_wp2_with fail
   refine(pP w0 wr base g c N mi m i A' P' [] Q' B' ys fv Hx.out Hs.out (by have:=Hq.out;omega) FI.out (by have:=Hq.out;have:=Hmi.out;omega) (by have:=Hq.out;simp;omega) Hq.out.2.1 hl).mono ?_
   rintro e w2 ⟨rfl,d_⟩;have b_:=zh d_;clear d_ Hs;go_wp2
   go_end0
   refine⟨rfl,?_⟩;have h9:=b_.out;rw[QG.out]at h9;exact h9
  ·obtain⟨A',P',M',Q',B',hx,q1,q2,q3,q4,q5⟩:=Hr.out.big hlt;have QG:=zh q5
   have hlen:(A'++(Q'++(M'++(P'++B')))).length=N:=by rw[<- FI.out,hx];simp only[List.length_append];omega
   have cJ:=zh hlen;have Hx:=zh hx;clear q5 hx hlen
   have t0:((i:Int)=(j:Int))=False:=by simp;omega
   have t0':(i=j)=False:=by simp;omega
   have t1:((j:Int)<(i:Int))=True:=by simp;omega
   have e4:IntKind.i64.wrap ((i:Int)-(j:Int))=((i-j:Nat):Int):=by rw[aF _ (by omega) (by omega)];omega
   obtain⟨mi,Bg⟩:∃z,z=m-i:=⟨_,rfl⟩
   obtain⟨ij,CW⟩:∃z,z=i-j:=⟨_,rfl⟩
   rw[<- Bg]at e1;rw[<- CW]at e4;have Hmi:=zh Bg;have Hij:=zh CW;have Hq:=zh (And.intro q1 (And.intro q2 (And.intro q3 q4)));clear Bg CW q1 q2 q3 q4 t0';go_wp2_with fail
   refine(pP w0 wr base g c N mi m j A' P' M' Q' B' ys fv Hx.out Hs.out (by have:=Hq.out;omega) FI.out (by have:=Hq.out;have:=Hmi.out;omega) Hq.out.2.2.2 Hq.out.2.1 hl).mono ?_
   rintro e w2 ⟨rfl,d_⟩;have b_:=zh d_;clear d_ Hs;go_wp2;go_roundw
   case rel=>exact⟨ij,j,_,by first | rfl | go_num,by first | rfl | go_num,by have:=Hij.out;omega,hj,cJ.out,by rw[Hij.out];exact QG.out,b_.out⟩
   case measure=>have:=Hij.out;simp[intOf];omega
structure JI (w0:World) (g:Nat) (gH:FuncId) (dF:Array Value) (K:Int->Int) (D:Int->Prop):Prop where
 call:∀x y,D x->D y->∀W,bg [g] w0 W->Calls Tryz.prog gH (#[.int .i64 x,.int .i64 y]++dF) W fun e w'=>∃z,e=.returned (.int .i64 z)/\(z<0↔K x<K y)/\aa W w'
 enter:∀args w,(callFunc gH args).run Tryz.prog w=.ok (.enter gH args) w
theorem Sd.aei {w0 W:World} {base g c:Nat} {xs:List Int} (h:Sd w0 W base g c xs) {k:Nat} (hk:k<xs.length):∀X,aa W X->X.cell? ⟨g,k,none⟩=some (.int .i64 (xs.getD k 0)):=ae (h.cell hk)
theorem Io {i j:Nat} (h:i<j):i<=(i+j)/2/\(i+j)/2<j:=by omega
theorem wk (s:Nat) (h:s<=4000000):IntKind.u64.wrap (s:Int)=(s:Int):=by
 unfold IntKind.wrap;simp[IntKind.bits,IntKind.signed]
 omega
theorem wl (s:Nat) (h:s<=4000000):wrap64 ((s:Int)/2)=((s/2:Nat):Int):=by
 unfold wrap64;omega
theorem AY {A U R:List Int} {k:Nat} (h:k<U.length):(A++(U++R)).getD (A.length+k) 0=U.getD k 0:=by
 rw[zDd,zDd,List.getElem?_append_right (by omega),show A.length+k-A.length=k by omega,List.getElem?_append_left h]
theorem PH {A U V R:List Int} {k:Nat} (h:k<V.length):(A++(U++(V++R))).getD (A.length+U.length+k) 0=V.getD k 0:=by
 rw[<- List.append_assoc,show A.length+U.length+k=(A++U).length+k by rw[List.length_append]]
 exact AY h
theorem jY {l:List Int} {k:Nat} (h:k<l.length):l.getD k 0∈l:=by rw[zDd,List.getElem?_eq_getElem h];exact List.getElem_mem h
theorem getD_lt {l:List Int} {k:Nat} (h:k<l.length):l.getD k 0=l[k]:=by rw[zDd,List.getElem?_eq_getElem h];rfl
theorem yr (w0:World) (base g c N:Nat) (gH:FuncId) (dF:Array Value) (K:Int->Int) (D:Int->Prop) (hc:JI w0 g gH dF K D) (hl:N<=1000000) (A U V B xs:List Int) (a m b:Nat) (w:World) (hx:xs=A++(U++(V++B))) (hs:Sd w0 w base g c xs) (hN:xs.length=N) (ha:A.length=a) (hm:a+U.length=m) (hb:m+V.length=b) (hU:0<U.length) (hV:0<V.length) (sU:jE K U) (sV:jE K V) (hD:∀x∈U++V,D x) (Fb:U.length=1\/V.length=1):
  Calls Tryz.prog 237 #[.slice (some ⟨g,0,none⟩) N c,.int .i64 a,.int .i64 m,.int .i64 b,.func (.func gH) #[] dF] w fun e w'=>e=.returned (.tuple #[])/\∃W,Sd w0 w' base g c (A++(W++B))/\W.Perm (U++V)/\jE K W:=by
 have eg:=hc.enter;have Hc:=zh hc;have Hs:=zh hs;have HN:=zh hN;have Hx:=zh hx;have Ha:=zh ha;have Hm:=zh hm;have Hb:=zh hb;have HsU:=zh sU;have HsV:=zh sV;have HD:=zh hD
 have TX:b<=N:=by rw[<- hN,hx];simp only[List.length_append];omega
 have Dd:A.length+U.length+V.length+B.length=N:=by rw[<- hN,hx];simp only[List.length_append];omega
 have Fp:=zh Dd;have Jn:a<m:=by omega
 have hmb:m<b:=by omega
 have m1:IntKind.i64.wrap ((m:Int)-(a:Int))=(U.length:Int):=by rw[aF _ (by omega) (by omega)];omega
 have m2:IntKind.i64.wrap ((b:Int)-(m:Int))=(V.length:Int):=by rw[aF _ (by omega) (by omega)];omega
 clear hs hN hx ha hm hb sU sV hD hc Dd
 go_enter Tryz.func237,Tryz.ntmps237
 by_cases h1:U.length=1
 ·obtain⟨x,rfl⟩:=List.length_eq_one_iff.1 h1;have t0:((([x]:List Int).length:Int)=1)=True:=by simp
  go_wp2;have Sk:Hid (a+1=m):=Hm.out
  go_loopw [10,11] (fun ti tj wr=>∃(i j:Nat),ti=.int .i64 i/\tj=.int .i64 j/\m<=i/\i<=j/\j<=b/\(i=m\/K (V.getD (i-1-m) 0)<K x)/\(j=b\/K x<=K (V.getD (j-m) 0))/\Sd w0 wr base g c xs) (fun ti tj _=>(intOf tj).toNat-(intOf ti).toNat)
  case atStart=>exact⟨m,b,rfl,rfl,Nat.le_refl _,by omega,Nat.le_refl _,.inl rfl,.inl rfl,Hs.out⟩
  case round=>
   obtain⟨i,j,rfl,rfl,hi,CW,hj,hI,hJ,hs⟩:=hrel;have HI:=zh hI;have HJ:=zh hJ;have b_:=zh hs;clear hI hJ hs
   by_cases hlt:i<j
   ·have e1:IntKind.i64.wrap ((i:Int)+(j:Int))=((i+j:Nat):Int):=by rw[aF _ (by omega) (by omega)];omega
    obtain⟨s,Mj⟩:∃z,z=i+j:=⟨_,rfl⟩
    obtain⟨h,hh⟩:∃z,z=s/2:=⟨_,rfl⟩
    have e2:=wl s (by omega);rw[<- Mj]at e1;rw[<- hh]at e2;have e3:=wk s (by omega)
    have Af:i<=h/\h<j:=by rw[hh,Mj];exact Io hlt
    have Hhd:=zh (And.intro Mj hh);clear Mj hh
    have c1:=b_.out.aei (k:=h) (by rw[HN.out];omega)
    have c2:=b_.out.aei (k:=a) (by rw[HN.out];omega)
    have hb':=Hb.out;have LZ:=Sk.out;have Yu:=Ha.out;have hhV:h-m<V.length:=by omega
    have lc:h=A.length+([x]:List Int).length+(h-m):=by simp only[List.length_singleton];omega
    have g1:xs.getD h 0=V.getD (h-m) 0:=by
     rw[Hx.out];exact(congrArg (fun k=>List.getD _ k 0) lc).trans (PH hhV)
    have g2:xs.getD a 0=x:=by
     rw[Hx.out];exact(congrArg (fun k=>List.getD _ k 0) (show a=A.length+0 by omega)).trans (AY (by simp))
    rw[g1]at c1;rw[g2]at c2;obtain⟨y,hy⟩:∃z,z=V.getD (h-m) 0:=⟨_,rfl⟩
    have hyV:y∈V:=by rw[hy];exact jY hhV
    rw[<- hy]at c1;have Hy:=zh hy;have Hd:=zh (And.intro (HD.out y (by simp[hyV])) (HD.out x (by simp)));clear hy g1 g2 hyV lc hb' LZ Yu;have hhN:h<N:=by omega
    have Qm:a<N:=by omega
    go_upto_region 5 with(fail);obtain⟨wo,rfl⟩:∃z,z=wr:=⟨_,rfl⟩
    refine cH (w0:=wo) 10 [false,false,false,false,false,false,false,false,false,true] (by kernel_rfl) (by kernel_rfl) (ad _) ?_;simp only[eE,ea,zT]
    iterate 4 (apply aR rfl;(intro W hW;go_simp;with_reducible rfl);simp only[zA])
    apply aR rfl;(intro W hW;have k1:=c1 W hW;go_simp;with_reducible rfl);simp only[zA]
    iterate 3 (apply aR rfl;(intro W hW;go_simp;with_reducible rfl);simp only[zA])
    apply aR rfl;(intro W hW;have k2:=c2 W hW;go_simp;with_reducible rfl);simp only[zA]
    intro W hW;refine Or.inl ⟨rfl,?_⟩
    go_simp
    (with_reducible refine(Hc.out.call y x Hd.out.1 Hd.out.2 W (b_.out.since hW).only).mono ?_)
    rintro e W' ⟨z,rfl,hz,hb⟩;refine⟨_,rfl,hW.after hb,?_⟩
    replace hW:=hW.after hb
    (try simp only[zA])
    simp only[bz];have ew:=zh (b_.out.since hW);clear hW hb c1 c2
    by_cases jG:K y<K x
    ·have d8:(z<0)=True:=by simp[hz.2 jG]
     have Hz:=zh hz;clear hz
     have e5:IntKind.i64.wrap ((h:Int)+1)=((h+1:Nat):Int):=by rw[aF _ (by omega) (by omega)];omega
     obtain⟨MC,K5⟩:∃z,z=h+1:=⟨_,rfl⟩
     rw[<- K5]at e5;have Sl:=zh K5;clear K5;go_wp2;go_roundw
     case rel=>exact⟨MC,j,by first | rfl | go_num,by first | rfl | go_num,by have:=Sl.out;omega,by have:=Sl.out;omega,hj,.inr (by rw[Sl.out,show h+1-1-m=h-m by omega,<- Hy.out];exact jG),HJ.out,ew.out⟩
     case measure=>have:=Sl.out;simp[intOf];omega
    ·have d8:(z<0)=False:=by rw[hz];simp;omega
     have Hz:=zh hz;clear hz;go_wp2;go_roundw
     case rel=>exact⟨i,h,by first | rfl | go_num,by first | rfl | go_num,hi,Af.1,by omega,HI.out,.inr (by rw[<- Hy.out];omega),ew.out⟩
     case measure=>simp[intOf];omega
   ·obtain rfl:i=j:=by omega
    have LZ:=Sk.out;have hb':=Hb.out
    have Wk:Hid (jE K (V.take (i-m)++x::V.drop (i-m))):=by
     refine Cv HsV.out (by omega) ?_ ?_
     ·rcases HI.out with h9 | h9
      ·exact .inl (by omega)
      ·by_cases e0:i=m
       ·exact .inl (by omega)
       ·refine .inr ⟨by omega,?_⟩;rw[getD_lt (by omega)]at h9;simp only[show i-m-1=i-1-m by omega]
        omega
     ·rcases HJ.out with h9 | h9
      ·exact .inl (by omega)
      ·by_cases e0:i=b
       ·exact .inl (by omega)
       ·refine .inr ⟨by omega,?_⟩;rw[getD_lt (by omega)]at h9;exact h9
    have H0:Hid (Sd w0 wr base g c (fb A x V B 0)):=by show Sd _ _ _ _ _ _;rw[LB,<- Hx.out];exact b_.out
    have hlen:∀t,(fb A x V B t).length=N:=fun t=>by
     rw[<- Fp.out];unfold fb;simp only[List.length_append,List.length_cons,List.length_take,List.length_drop,List.length_nil];omega
    have cJ:=zh hlen;have e1:IntKind.i64.wrap ((i:Int)-1)=(i:Int)-1:=aF _ (by omega) (by omega);obtain⟨wo,rfl⟩:∃z,z=wr:=⟨_,rfl⟩
    clear hlen hlt b_ LZ hb';go_wp2
    go_loopw [13] (fun tk wr=>∃(t:Nat),tk=.int .i64 ((a+t:Nat):Int)/\t<=i-m/\Sd w0 wr base g c (fb A x V B t)) (fun tk _=>i-(intOf tk).toNat)
    case atStart=>exact⟨0,rfl,Nat.zero_le _,H0.out⟩
    case round=>
     obtain⟨t,rfl,ht,hs⟩:=hrel
     by_cases hlt:t<i-m
     ·have m3:IntKind.i64.wrap (((a+t:Nat):Int)+1)=((a+t+1:Nat):Int):=by have:=Sk.out;rw[aF _ (by omega) (by omega)];omega
      have c1:=hs.cell (k:=a+t) (by rw[cJ.out];have:=Sk.out;omega)
      have c2:=hs.cell (k:=a+t+1) (by rw[cJ.out];have:=Sk.out;omega)
      have f1:=hs.own.free (a+t);have f2:=hs.own.free (a+t+1);have lK:=hs.swap (a+t) (a+t+1)
      rw[show swp (fb A x V B t) (a+t) (a+t+1)=fb A x V B (t+1)by rw[<- Ha.out];exact LC A x V B (by have:=Hb.out;omega)]at lK
      obtain⟨y1,Jv⟩:∃z,z=(fb A x V B t).getD (a+t) 0:=⟨_,rfl⟩
      obtain⟨y2,Mc⟩:∃z,z=(fb A x V B t).getD (a+t+1) 0:=⟨_,rfl⟩
      rw[<- Jv]at c1 lK;rw[<- Mc]at c2 lK
      have ay:a+t<N:=by have:=Sk.out;omega
      have bj:a+t+1<N:=by have:=Sk.out;omega
      have hgo:((a+t:Nat):Int)<(i:Int)-1:=by have:=Sk.out;omega
      obtain⟨p,hp⟩:∃z,z=a+t:=⟨_,rfl⟩
      obtain⟨q,hq⟩:∃z,z=a+t+1:=⟨_,rfl⟩
      rw[<- hp]at c1 f1 ay m3 lK hgo ⊢;rw[hp,<- hq,<- hp]at m3 lK;rw[<- hq]at c2 f2 bj;have Ap:=zh lK;have Fl:=zh (And.intro hp hq);have zg:p≠q:=by omega
      clear lK hs Jv Mc hp hq;go_upto_region 11 with(fail)
      go_region
      obtain⟨w2,gR⟩:∃z,z=(wr.setCell ⟨g,p,none⟩ (.int .i64 y2)).setCell ⟨g,q,none⟩ (.int .i64 y1):=⟨_,rfl⟩
      rw[<- gR]at Ap ⊢;clear gR c1 c2 f1 f2;go_wp2;go_roundw
      case rel=>exact⟨t+1,by rw[Fl.out.2];first | rfl | go_num,by omega,Ap.out.drew⟩
      case measure=>have:=Fl.out;simp[intOf];omega
     ·obtain rfl:t=i-m:=by omega
      have ew:=zh hs
      have hgo:¬((a+(i-m):Nat):Int)<(i:Int)-1:=by have:=Sk.out;omega
      clear hs;go_wp2;refine bodyPost_ret (results_none rfl _ _ _) rfl ?_;refine⟨rfl,V.take (i-m)++x::V.drop (i-m),?_,yq x V (i-m),Wk.out⟩;have h9:=ew.out;unfold fb at h9;simp only[List.append_assoc,List.cons_append]at h9 ⊢
      exact h9
 ·have t0:((U.length:Int)=1)=False:=by simp;omega
  have t0':(U.length=1)=False:=by simp;omega
  have t0b:((U.length:Int)==1)=false:=beq_eq_false_iff_ne.2 (by omega)
  by_cases h2:V.length=1
  ·obtain⟨x,rfl⟩:=List.length_eq_one_iff.1 h2;have t1:((([x]:List Int).length:Int)=1)=True:=by simp
   have HV1:Hid (m+1=b):=Hb.out;go_wp2
   go_loopw [14,15] (fun ti tj wr=>∃(i j:Nat),ti=.int .i64 i/\tj=.int .i64 j/\a<=i/\i<=j/\j<=m/\(i=a\/K (U.getD (i-1-a) 0)<=K x)/\(j=m\/K x<K (U.getD (j-a) 0))/\Sd w0 wr base g c xs) (fun ti tj _=>(intOf tj).toNat-(intOf ti).toNat)
   case atStart=>exact⟨a,m,rfl,rfl,Nat.le_refl _,by omega,Nat.le_refl _,.inl rfl,.inl rfl,Hs.out⟩
   case round=>
    obtain⟨i,j,rfl,rfl,hi,CW,hj,hI,hJ,hs⟩:=hrel;have HI:=zh hI;have HJ:=zh hJ;have b_:=zh hs;clear hI hJ hs
    by_cases hlt:i<j
    ·have e1:IntKind.i64.wrap ((i:Int)+(j:Int))=((i+j:Nat):Int):=by rw[aF _ (by omega) (by omega)];omega
     obtain⟨s,Mj⟩:∃z,z=i+j:=⟨_,rfl⟩
     obtain⟨h,hh⟩:∃z,z=s/2:=⟨_,rfl⟩
     have e2:=wl s (by omega);rw[<- Mj]at e1;rw[<- hh]at e2;have e3:=wk s (by omega)
     have Af:i<=h/\h<j:=by rw[hh,Mj];exact Io hlt
     have Hhd:=zh (And.intro Mj hh);clear Mj hh
     have c1:=b_.out.aei (k:=h) (by rw[HN.out];omega)
     have c2:=b_.out.aei (k:=m) (by rw[HN.out];omega)
     have hb':=HV1.out;have LZ:=Hm.out;have Yu:=Ha.out;have hhV:h-a<U.length:=by omega
     have lc:h=A.length+(h-a):=by omega
     have g1:xs.getD h 0=U.getD (h-a) 0:=by
      rw[Hx.out];exact(congrArg (fun k=>List.getD _ k 0) lc).trans (AY hhV)
     have g2:xs.getD m 0=x:=by
      rw[Hx.out];exact(congrArg (fun k=>List.getD _ k 0) (show m=A.length+U.length+0 by omega)).trans (PH (by simp))
     rw[g1]at c1;rw[g2]at c2;obtain⟨y,hy⟩:∃z,z=U.getD (h-a) 0:=⟨_,rfl⟩
     have hyV:y∈U:=by rw[hy];exact jY hhV
     rw[<- hy]at c1;have Hy:=zh hy;have Hd:=zh (And.intro (HD.out y (by simp[hyV])) (HD.out x (by simp)));clear hy g1 g2 hyV lc hb' LZ Yu;have hhN:h<N:=by omega
     have Qm:m<N:=by omega
     go_upto_region 17 with(fail);obtain⟨wo,rfl⟩:∃z,z=wr:=⟨_,rfl⟩
     refine cH (w0:=wo) 10 [false,false,false,false,false,false,false,false,false,true] (by kernel_rfl) (by kernel_rfl) (ad _) ?_;simp only[eE,ea,zT]
     iterate 4 (apply aR rfl;(intro W hW;go_simp;with_reducible rfl);simp only[zA])
     apply aR rfl;(intro W hW;have k1:=c2 W hW;go_simp;with_reducible rfl);simp only[zA]
     iterate 3 (apply aR rfl;(intro W hW;go_simp;with_reducible rfl);simp only[zA])
     apply aR rfl;(intro W hW;have k2:=c1 W hW;go_simp;with_reducible rfl);simp only[zA]
     intro W hW;refine Or.inl ⟨rfl,?_⟩
     go_simp
     (with_reducible refine(Hc.out.call x y Hd.out.2 Hd.out.1 W (b_.out.since hW).only).mono ?_)
     rintro e W' ⟨z,rfl,hz,hb⟩;refine⟨_,rfl,hW.after hb,?_⟩
     replace hW:=hW.after hb
     (try simp only[zA])
     simp only[bz];have ew:=zh (b_.out.since hW);clear hW hb c1 c2
     by_cases jG:K x<K y
     ·have d8:(z<0)=True:=by simp[hz.2 jG]
      have Hz:=zh hz;clear hz;go_wp2;go_roundw
      case rel=>exact⟨i,h,by first | rfl | go_num,by first | rfl | go_num,hi,Af.1,by omega,HI.out,.inr (by rw[<- Hy.out];exact jG),ew.out⟩
      case measure=>simp[intOf];omega
     ·have d8:(z<0)=False:=by rw[hz];simp;omega
      have Hz:=zh hz;clear hz
      have e5:IntKind.i64.wrap ((h:Int)+1)=((h+1:Nat):Int):=by rw[aF _ (by omega) (by omega)];omega
      obtain⟨MC,K5⟩:∃z,z=h+1:=⟨_,rfl⟩
      rw[<- K5]at e5;have Sl:=zh K5;clear K5;go_wp2;go_roundw
      case rel=>exact⟨MC,j,by first | rfl | go_num,by first | rfl | go_num,by have:=Sl.out;omega,by have:=Sl.out;omega,hj,.inr (by rw[Sl.out,show h+1-1-a=h-a by omega,<- Hy.out];omega),HJ.out,ew.out⟩
      case measure=>have:=Sl.out;simp[intOf];omega
    ·obtain rfl:i=j:=by omega
     have LZ:=HV1.out;have hb':=Hm.out
     have Wk:Hid (jE K (U.take (i-a)++x::U.drop (i-a))):=by
      refine Cv HsU.out (by omega) ?_ ?_
      ·rcases HI.out with h9 | h9
       ·exact .inl (by omega)
       ·by_cases e0:i=a
        ·exact .inl (by omega)
        ·refine .inr ⟨by omega,?_⟩;rw[getD_lt (by omega)]at h9;simp only[show i-a-1=i-1-a by omega]
         exact h9
      ·rcases HJ.out with h9 | h9
       ·exact .inl (by omega)
       ·by_cases e0:i=m
        ·exact .inl (by omega)
        ·refine .inr ⟨by omega,?_⟩;rw[getD_lt (by omega)]at h9;omega
     have H0:Hid (Sd w0 wr base g c (fb A x U B U.length)):=by show Sd _ _ _ _ _ _;rw[EP,<- Hx.out];exact b_.out
     have hlen:∀t,(fb A x U B t).length=N:=fun t=>by
      rw[<- Fp.out];unfold fb;simp only[List.length_append,List.length_cons,List.length_take,List.length_drop,List.length_nil];omega
     have cJ:=zh hlen;obtain⟨wo,rfl⟩:∃z,z=wr:=⟨_,rfl⟩
     clear hlen hlt b_ LZ hb';go_wp2
     go_loopw [17] (fun tk wr=>∃(t:Nat),tk=.int .i64 ((a+t:Nat):Int)/\i-a<=t/\t<=U.length/\Sd w0 wr base g c (fb A x U B t)) (fun tk _=>(intOf tk).toNat)
     case atStart=>exact⟨U.length,by rw[<- Hm.out],by have:=Hm.out;omega,Nat.le_refl _,H0.out⟩
     case round=>
      obtain⟨t,rfl,ht,ht2,hs⟩:=hrel
      by_cases hlt:i-a<t
      ·obtain⟨r,rfl⟩:∃r,t=r+1:=⟨t-1,by omega⟩
       have m3:IntKind.i64.wrap (((a+(r+1):Nat):Int)-1)=((a+r:Nat):Int):=by have:=Hm.out;rw[aF _ (by omega) (by omega)];omega
       have c1:=hs.cell (k:=a+(r+1)) (by rw[cJ.out];have:=Hm.out;omega)
       have c2:=hs.cell (k:=a+r) (by rw[cJ.out];have:=Hm.out;omega)
       have f1:=hs.own.free (a+(r+1));have f2:=hs.own.free (a+r);have lK:=hs.swap (a+(r+1)) (a+r)
       rw[show swp (fb A x U B (r+1)) (a+(r+1)) (a+r)=fb A x U B r by rw[<- Ha.out];exact tX A x U B (by omega)]at lK
       obtain⟨y1,Jv⟩:∃z,z=(fb A x U B (r+1)).getD (a+(r+1)) 0:=⟨_,rfl⟩
       obtain⟨y2,Mc⟩:∃z,z=(fb A x U B (r+1)).getD (a+r) 0:=⟨_,rfl⟩
       rw[<- Jv]at c1 lK;rw[<- Mc]at c2 lK
       have ay:a+(r+1)<N:=by have:=Hm.out;omega
       have bj:a+r<N:=by have:=Hm.out;omega
       have hgo:(i:Int)<((a+(r+1):Nat):Int):=by omega
       obtain⟨p,hp⟩:∃z,z=a+(r+1):=⟨_,rfl⟩
       obtain⟨q,hq⟩:∃z,z=a+r:=⟨_,rfl⟩
       rw[<- hp]at c1 f1 ay m3 lK hgo ⊢;rw[<- hq]at c2 f2 bj m3 lK;have Ap:=zh lK;have Fl:=zh (And.intro hp hq);have zg:p≠q:=by omega
       clear lK hs Jv Mc hp hq;go_upto_region 23 with(fail)
       go_region
       obtain⟨w2,gR⟩:∃z,z=(wr.setCell ⟨g,p,none⟩ (.int .i64 y2)).setCell ⟨g,q,none⟩ (.int .i64 y1):=⟨_,rfl⟩
       rw[<- gR]at Ap ⊢;clear gR c1 c2 f1 f2;go_wp2;go_roundw
       case rel=>exact⟨r,by first | (rw[Fl.out.2];done) | (rw[Fl.out.2];go_num),by omega,by omega,Ap.out.drew⟩
       case measure=>have:=Fl.out;first | (simp[intOf];done) | (simp[intOf];omega)
      ·obtain rfl:t=i-a:=by omega
       have ew:=zh hs;have hgo:¬(i:Int)<((a+(i-a):Nat):Int):=by omega
       clear hs;go_wp2;refine bodyPost_ret (results_none rfl _ _ _) rfl ?_;refine⟨rfl,U.take (i-a)++x::U.drop (i-a),?_,(yq x U (i-a)).trans List.perm_append_comm,Wk.out⟩;have h9:=ew.out;unfold fb at h9;simp only[List.append_assoc,List.cons_append]at h9 ⊢
       exact h9
  ·omega
end Go.Proofs.YtgmdpppljkmabaaGreat
