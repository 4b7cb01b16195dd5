/- Parts of the proof: walks of functions and plain laws. -/
import Derived.Test.YtgmdpppljkmabaaGreatP0
import Derived.Test.YtgmdpppljkmabaaGreatP1
import Derived.Test.YtgmdpppljkmabaaGreatP13
import Derived.Test.YtgmdpppljkmabaaGreatP22
import Derived.Test.YtgmdpppljkmabaaGreatP9
import Derived.Test.YtgmdpppljkmabaaGreatP20
import Derived.Test.YtgmdpppljkmabaaGreatP3
import Derived.Test.YtgmdpppljkmabaaGreatP5
import Derived.Test.YtgmdpppljkmabaaGreatP8
import Derived.Laws.EntriesVeiled
import Derived.Test.YtgmdpppljkmabaaGreatP11
import Derived.Lib.BitFns
import Derived.Test.YtgmdpppljkmabaaGreatP6
import Derived.Test.YtgmdpppljkmabaaGreatP7
set_option maxRecDepth 100000
set_option maxHeartbeats 16000000
namespace Go.Proofs.YtgmdpppljkmabaaGreat
open Go Go.RowKit
theorem EY {w:World} {base:Nat} {v:Value} {zK:List (List Bool)} {S:List Nat} (h:k6 w base v zK S) (hl:0<zK.length):∃g c,v=.slice (some ⟨g,0,none⟩) zK.length c:=by
 obtain⟨vs,Ss,h1,-⟩:=h;rcases dF h1 with⟨-,h0⟩ | ⟨g,c,rfl,-⟩
 ·omega
 ·exact⟨g,c,rfl⟩
def acu (K:List (List Bool)) (v i:Nat):List (List Bool):=K.set v ((K.getD v []).set i false)
theorem pz.acu {n:aj} {K:List (List Bool)} {kf:Nat->Nat->Bool} (h:pz n K kf) (v i:Nat):pz n (acu K v i) (fun x j=>kf x j && !(x==v&&j==i)) where
 len:=by unfold Proofs.YtgmdpppljkmabaaGreat.acu;rw[List.length_set];exact h.len
 row:=fun x es bM=>by
  obtain⟨row,h1,h2,h3⟩:=h.row x es bM;unfold Proofs.YtgmdpppljkmabaaGreat.acu
  by_cases e:v=x
  ·subst e
   refine⟨row.set i false,by rw[List.getElem?_set_self (al h1),zDd,h1];rfl,by rw[List.length_set];exact h2,fun j hj=>?_⟩
   rw[List.getElem?_set]
   by_cases e2:i=j
   ·subst e2;rw[if_pos rfl,if_pos (by omega)];simp
   ·rw[if_neg e2,h3 j hj]
    have:(v==v&&j==i)=false:=by simp;exact fun e=>e2 e.symm
    rw[this];simp
  ·refine⟨row,by rw[List.getElem?_set_ne e];exact h1,h2,fun j hj=>?_⟩
   rw[h3 j hj]
   have:(x==v&&j==i)=false:=by simp;exact fun e2=>absurd e2.symm e
   rw[this];simp
theorem Cu (n:aj):pz n (jW n n.ends.length) (fun _ _=>true) where
 len:=nT (Nat.le_refl _)
 row:=fun v es bM=>by
  unfold jW;rw[List.take_length]
  exact⟨List.replicate es.length true,by rw[List.getElem?_map,bM];rfl,by simp,fun i hi=>by rw[List.getElem?_replicate,if_pos hi]⟩
theorem Cv {n:aj} {v i:Nat} {f:Int×Int}:pz n (acu (acu (jW n n.ends.length) v i) f.1.toNat f.2.toNat) (fk v i f):=by
 have h:=((Cu n).acu v i).acu f.1.toNat f.2.toNat
 have e:(fun x j=>(true && !(x==v&&j==i)) && !(x==f.1.toNat&&j==f.2.toNat))=fk v i f:=by
  funext x j
  unfold fk
  cases (x==v&&j==i) <;> cases (x==f.1.toNat&&j==f.2.toNat) <;> rfl
 rwa [e]at h
theorem nE {w:World} {base g c n:Nat} {K:List (List Bool)} {S:List Nat} (h:k6 w base (.slice (some ⟨g,0,none⟩) n c) K S) {v i:Nat} {row:List Bool} (hr:K[v]?=some row) (hi:i<row.length):
  ∃gr cr y,w.cell? ⟨g,v,none⟩=some (.slice (some ⟨gr,0,none⟩) row.length cr)/\row.length<=cr/\cr<=9223372036854775807/\w.cell? ⟨gr,i,none⟩=some (.bool y)/\w.frozen? ⟨gr,i,none⟩=false/\base<=gr /\
   k6 (w.setCell ⟨gr,i,none⟩ (.bool false)) base (.slice (some ⟨g,0,none⟩) n c) (acu K v i) S:=by
 obtain⟨u,T,h1,h2,h3,h4⟩:=bu.acX G5 h hr;rcases dF h2.row with⟨-,h0⟩ | ⟨gr,cr,rfl,hb,hg,hc,hm⟩
 ·omega
 ·obtain⟨y,hy⟩:=aA row i hi;unfold maxLen at hm;refine⟨gr,cr,y,h1,hc,by omega,h2.cell hy,qj h2.row i,hb,?_⟩
  have h5:=h4 (row.set i false) (w.setCell ⟨gr,i,none⟩ (.bool false)) (h2.set i false) ((aX.refl _ _).setCell (.inl (by rw[h2.2];simp[Value.ownBlock])) _)
  have e:acu K v i=K.set v (row.set i false):=by unfold acu;rw[zDd,hr];rfl
  rw[e];exact h5
theorem LO {n:aj} (hn:ak n=true) {v i:Nat} (hv:v<n.ends.length) (hi:i<(n.ends.getD v []).length) : -1<=lk n v i/\lk n v i<=40:=by
 have hp:aZ n v i (fT n v i):=fJ.2 ⟨hi,rfl⟩;obtain⟨p1,p2,p3,p4,p5⟩:=cY hn hp;have hc:=rE hn (fk v i (fT n v i)) (kc hn hp);have eG:(ij n (fk v i (fT n v i))).ends.length=n.ends.length:=by simp[ij]
 have h1:=qx hc (v:=v) (w:=(fT n v i).1.toNat) (by omega) (by omega);have h2:=(aB hn).2;unfold lk;omega
theorem Cw (ve vi vn:Value) (n:aj) (v i:Nat) (w:World) (h:aC w ve vi vn n) (hn:ak n=true) (hv:v<n.ends.length) (hi:i<(n.ends.getD v []).length):
  Calls Tryz.prog 225 #[.agg #[ve,vi,vn],.int .i64 v,.int .i64 i] w fun e w'=>e=.returned (.int .i64 (lk n v i))/\Below w.heap.size w w':=by
 have jU:=(aB hn).1;have pj:=(aB hn).2;have Hn:=zh hn;obtain⟨es,bM⟩:=aA n.ends v hv;have iG:n.ends.getD v []=es:=ao bM;rw[iG]at hi;obtain⟨⟨x1,x2⟩,hx⟩:=aA es i hi
 have IV:aZ n v i (x1,x2):=by unfold aZ;rw[iG];exact hx
 have Pf:fT n v i=(x1,x2):=(fJ.1 IV).2;obtain⟨-,p2,p3,p4,p5⟩:=cY hn IV;obtain⟨a1,rfl⟩:=Int.eq_ofNat_of_zero_le p2;obtain⟨a2,rfl⟩:=Int.eq_ofNat_of_zero_le p4;simp only[Int.toNat_natCast]at p5;have BJ:a1<n.ends.length:=by omega
 obtain⟨es2,R7⟩:=aA n.ends a1 BJ
 have Pe:a2<es2.length:=by have:=(fJ.1 p5).1;rwa [ao R7]at this
 obtain⟨C,hC⟩:∃C,ij n (fk v i ((a1:Int),(a2:Int)))=C:=⟨_,rfl⟩
 have Xt:ak C=true:=by rw[<- hC];exact rE hn _ (kc hn IV)
 have hCl:C.ends.length=n.ends.length:=by rw[<- hC];simp[ij]
 obtain⟨D,hD⟩:∃D,lk n v i=D:=⟨_,rfl⟩
 have HD:Hid ((bC C v).getD a1 0=D):=by show _=_;rw[<- hD,<- hC];unfold lk;rw[Pf];rfl
 rw[hD];have HC:=zh hC;have Xu:=zh Xt;have Y3:=zh hCl;have sI:=(bV hn bM).1
 obtain⟨w0,A,c,A2,c2,A3,c3,rfl,rfl,rfl,fg,hm,f8,fP,HA,bS,aT,H,dP,d9,dV⟩:=zB h;clear h
 obtain⟨b,tY,cr,ur,gh,wj,eD,vQ⟩:=fi H.out.es bM;cases gh;obtain⟨A1,z1,rfl,dh,dt,gh⟩:=vQ;unfold maxLen at dt;obtain⟨b1,mJ,rfl,ju,gC⟩:=gh i _ hx;have t0:=ae eD;have t1:=ae ju;have t2:=ae gC;have aU:ab w0 w0:=aa _;have jZ:=zh bM;have aa7:=zh R7;obtain⟨w1,pf⟩:∃w1,w1=w0.alloc (.cells #[.int .i64 (a1:Int),.int .i64 (a2:Int)] 83):=⟨_,rfl⟩
 have dr:ab w0 w1:=by rw[pf];exact ad _ (aa _)
 obtain⟨eb,OC⟩:∃eb,eb=w0.heap.size:=⟨_,rfl⟩
 have k0:∀W,ab w1 W->W.cell? ⟨eb,0,none⟩=some (.int .i64 (a1:Int)):=ae (by rw[pf,OC];simp)
 have k1:∀W,ab w1 W->W.cell? ⟨eb,1,none⟩=some (.int .i64 (a2:Int)):=ae (by rw[pf,OC];simp)
 have dM:=zh dr;have Rz:=zh pf;have NC:=zh OC;clear hn iG hx IV Pf p2 p3 p4 p5 hC Xt hCl hD eD gh ju gC bM R7 pf OC
 go_enter Tryz.func225,Tryz.ntmps225
 go_upto_region 1 with(fail);rw[<- bS.out];go_upto_region 2 with(fail);rw[<- Rz.out,<- NC.out];clear aU;go_wp2_with fail;refine(G_ _ _ _ n w1 (H.out.keep dM.out.below) Hn.out).mono ?_;rintro e w2 ⟨u2,S2,rfl,cZ,bx⟩
 obtain⟨gB,cB,yl⟩:=EY cZ (by rw[nT (Nat.le_refl _)];omega)
 rw[nT (Nat.le_refl _)]at yl;subst yl;have Xv:ab w1 w2:=bx
 have yK:(jW n n.ends.length)[v]?=some (List.replicate es.length true):=by unfold jW;rw[List.take_length,List.getElem?_map,jZ.out];rfl
 obtain⟨gr,cr0,y0,m1,m2,m3,m4,m5,m6,LP⟩:=nE cZ yK (i:=i) (by simpa using hi);rw[List.length_replicate]at m1 m2;obtain⟨K1,Y4⟩:∃K1,acu (jW n n.ends.length) v i=K1:=⟨_,rfl⟩
 rw[Y4]at LP;obtain⟨acg,F5,aa8,-⟩:=(((Cu n).acu v i)).row a1 es2 aa7.out;rw[Y4]at F5;obtain⟨w3,i8⟩:∃w3,w3=w2.setCell ⟨gr,i,none⟩ (.bool false):=⟨_,rfl⟩
 have xf:ab w1 w3:=by rw[i8];exact Below.setCell Xv m6 _
 rw[<- i8]at LP;obtain⟨gr2,cr2,y2,q1,q2,q3,q4,q5,q6,aa9⟩:=nE LP F5 (i:=a2) (by omega);rw[aa8]at q1 q2;have aa_:=zh LP;have Xw:=zh F5
 have HKI:Hid (pz n (acu K1 a1 a2) (fk v i ((a1:Int),(a2:Int)))):=by rw[<- Y4];exact Cv (f:=((a1:Int),(a2:Int)))
 have aba:=zh xf;have AC:=zh i8;have r1:=ae q1;have e0:=ag k0 xf;have e1:=ag k1 xf;have Xx:=ag dP dM.out;have kY:=ag d9 dM.out;have Ys:=ag dV dM.out;clear cZ bx yK LP aa9 xf i8 Y4 F5 q1 q4 q5 m6 q6 t0 t1 t2 dP d9 dV;go_upto_region 4 with(fail);rw[<- AC.out];clear Xv m1 m4 m5;refine av 8 (ab w3) (by kernel_rfl) (by kernel_rfl) (by simp) (ah (aa _)) ?_;simp only[zT]
 iterate 8 (refine b_ rfl ?_;simp only[zA])
 intro W hW;have Xy:=sp.keep aa_.out hW.below;obtain⟨gr3,cr3,y3,n1,n2,n3,n4,n5,n6,R8⟩:=nE Xy Xw.out (i:=a2) (by omega);have hn:=(r1 W hW).symm.trans n1;simp only[Option.some.injEq,Value.slice.injEq,Addr.mk.injEq,and_true]at hn;obtain⟨rfl,-,rfl⟩:=hn;obtain⟨w4,gU⟩:∃w4,w4=W.setCell ⟨gr2,a2,none⟩ (.bool false):=⟨_,rfl⟩
 have Iv:ab w1 w4:=by rw[gU];exact Below.setCell (aba.out.after hW) n6 _
 rw[<- gU]at R8;have Uk:=zh R8;have Xz:=zh Iv;have Ju:=zh gU;have u0:=ag k0 Iv;have u1:=ag Xx Iv;have u2:=ag kY Iv;have u3:=ag Ys Iv;have HKr:Hid (∀X,ab w4 X->nl X (.slice (some ⟨gB,0,none⟩) n.ends.length cB) (acu K1 a1 a2)):=fun X hX=>(k6.read Uk.out).keep hX.below
 have HNr:Hid (∀X,ab w4 X->aC X (.slice (some ⟨b,tY,none⟩) n.ends.length c) (.slice A2 n.ids.length c2) (.slice A3 n.acn.length c3) n):=fun X hX=>H.out.keep (dM.out.after (Xz.out.after hX)).below
 clear hW r1 e0 e1 n1 n6 R8 gU Iv Xy k0 k1 Xx kY Ys;go_upto_region 5 with(fail);rw[<- Ju.out];clear n4 n5;refine eP (w0:=w4) 9 [false,false,true,false,true,false,false,true,true] (by kernel_rfl) (by kernel_rfl) (aa _) ?_;simp only[er,dS,zT]
 iterate 5 (apply bv rfl;(intro W hW;go_simp;with_reducible rfl);simp only[zA])
 intro W hW;refine Or.inl ⟨rfl,?_⟩
 go_simp
 (with_reducible refine(H0 _ _ _ _ n _ _ W (HNr.out W hW) Hn.out (HKr.out W hW) HKI.out).mono ?_)
 rintro e W' ⟨qe,qi,qn,Sq,rfl,Vc,Ac⟩;refine⟨_,rfl,hW.trans Ac,?_⟩
 replace hW:=hW.trans Ac
 have HCq:Hid (∀X,ab W' X->aC X qe qi qn C):=(fun X hX=>by have h9:=Vc.read;rw[HC.out]at h9;exact h9.keep hX.below)
 clear Vc Ac
 (try simp only[zA])
 refine Or.inl ⟨rfl,?_⟩
 go_simp
 (with_reducible refine(iv _ _ _ C v _ (HCq.out _ (aa _)) Xu.out (by rw[Y3.out];exact hv)).mono ?_)
 rintro e W' ⟨ud,rfl,I9,vO⟩;refine⟨_,rfl,hW.trans vO,?_⟩
 replace hW:=hW.trans vO
 obtain⟨gd,cd,dd,rfl,vM,cdd,iG⟩:=BH Xu.out (by rw[Y3.out];exact hv) (show a1<C.ends.length by rw[Y3.out];exact BJ) I9
 have abb:dd=D:=by rw[<- HD.out,ao vM]
 subst abb;rw[Y3.out]at *
 clear I9 vO vM iG
 (try simp only[zA])
 refine de (v:=?_) rfl ?_ hW ?_;rotate_left;(go_simp;with_reducible rfl)
 simp only[zA]
 refine de (v:=?_) rfl ?_ hW ?_;rotate_left;(go_simp;with_reducible rfl)
 simp only[zA];simp only[bh];have HW:=zh (Xz.out.after hW);clear hW;go_wp2;go_ret;exact⟨rfl,ab.after aT.out (dM.out.after HW.out)⟩
theorem Cx (ve vi vn:Value) (n:aj) (w:World) (h:aC w ve vi vn n) (hn:ak n=true):
  Calls Tryz.prog 213 #[.agg #[ve,vi,vn]] w fun e w'=>e=.returned (.int .i64 (yS n))/\Below w.heap.size w w':=by
 have gT:=aB hn;have ul:=gT.1;have uq:=gT.2;have Hn:=zh hn
 obtain⟨w0,A,c,A2,c2,A3,c3,rfl,rfl,rfl,fg,hm,f8,fP,HA,bS,aT,H,dP,d9,dV⟩:=zB h;clear h
 have aU:ab w0 w0:=aa _;obtain⟨rb,iy⟩:∃rb,yS n=rb:=⟨_,rfl⟩
 have iH:Hid (Mf n n.ends.length=rb):=iy;rw[iy];clear hn gT iy
 go_enter Tryz.func213,Tryz.ntmps213
 go_upto_region 1 with(fail);rw[<- bS.out];go_wp2
 go_loopw [3,11] (fun o i wr=>∃k:Nat,k<=n.ends.length/\i=.int .i64 k/\o=.int .i64 (Mf n k)/\ab w0 wr) (fun _ i _=>n.ends.length-(intOf i).toNat)
 case atStart=>exact⟨0,Nat.zero_le _,rfl,rfl,aU⟩
 case round=>
  obtain⟨k,hk,rfl,rfl,bG⟩:=hrel;have Hs:=zh bG;clear aU;obtain⟨o0,Ry⟩:∃o0,Mf n k=o0:=⟨_,rfl⟩
  have YP:=zh Ry;rw[Ry];clear Ry
  by_cases az:k<n.ends.length
  ·obtain⟨es,bM⟩:=aA n.ends k az;have dm:=bV Hn.out bM;have sI:=dm.1;have iG:n.ends.getD k []=es:=ao bM;obtain⟨b,tY,cr,ur,gh,wj,eD,vQ⟩:=fi H.out.es bM;cases gh;obtain⟨A1,z1,rfl,dh,dt,gh⟩:=vQ;unfold maxLen at dt;have qh:=zh gh;have r1:=ag (ae eD) Hs.out;have q5:=r1 wr (aa _);have iR:=zh iG;have m4:IntKind.i64.wrap ((k:Int)+1)=(k:Int)+1:=aH _ (by omega) (by omega);clear bM dm eD gh iG;go_wp2
   go_loopw [3,20] (fun o i wq=>∃j:Nat,j<=es.length/\i=.int .i64 j/\o=.int .i64 (yR n k j o0)/\ab w0 wq) (fun _ i _=>es.length-(intOf i).toNat)
   case atStart=>exact⟨0,Nat.zero_le _,rfl,rfl,Hs.out⟩
   case round=>
    obtain⟨j,hj,rfl,rfl,nk⟩:=hrel;have i_:=zh nk;obtain⟨o1,gR⟩:∃o1,yR n k j o0=o1:=⟨_,rfl⟩
    have Ml:=rK n k j o0;rw[gR]at Ml ⊢;have HSu:=zh Ml;have vS:=zh gR;clear Ml gR
    by_cases lq:j<es.length
    ·obtain⟨⟨x1,x2⟩,hx⟩:=aA es j lq;obtain⟨b1,mJ,rfl,ju,gC⟩:=qh.out j _ hx;have t1:=ae ju wr i_.out;have t2:=ae gC wr i_.out
     have Pf:fT n k j=(x1,x2):=by unfold fT;rw[iR.out];exact ao hx
     have m3:IntKind.i64.wrap ((j:Int)+1)=(j:Int)+1:=aH _ (by omega) (by omega);obtain⟨w8,jV⟩:∃w8,w8=wr.alloc (.cells #[.int .i64 x1,.int .i64 x2] 83):=⟨_,rfl⟩
     have kH:ab w0 w8:=by rw[jV];exact ad _ i_.out
     have Gt:=zh jV
     have d00:w8.cell? ⟨wr.heap.size,0,none⟩=some (.int .i64 x1):=by rw[jV];simp
     have d11:w8.cell? ⟨wr.heap.size,1,none⟩=some (.int .i64 x2):=by rw[jV];simp
     have iS:=zh kH;have U3:=zh Pf
     have YD:=LO Hn.out az (i:=j) (by rw[iR.out];exact lq)
     obtain⟨d,hd⟩:∃d,lk n k j=d:=⟨_,rfl⟩
     rw[hd]at YD;have Hd:=zh hd
     have AG:=zh (Cw _ _ _ n k j w8 (H.out.keep kH.below) Hn.out az (by rw[iR.out];exact lq))
     clear hx ju gC jV Pf hd;go_upto_region 8 with(fail);rw[<- Gt.out];clear t1 t2;cases hg:pZ (x1,x2) ((k:Int),(j:Int))
     ·have Py:oQ n k o1 j=oO o1 d:=by unfold oQ;rw[U3.out,if_neg (by unfold pZ at hg;exact of_decide_eq_false hg),Hd.out]
      have Y5:=zh Py;have m5:IntKind.i64.wrap (d+1)=d+1:=aH _ (by omega) (by omega);clear Py YD;go_wp2_with fail;refine AG.out.mono ?_;rw[Hd.out];rintro e w9 ⟨rfl,kN⟩;have Dv:=zh (iS.out.after kN);clear kN d00 d11 kH nk;go_upto_region 10 with(fail);refine aE 12 (ab w9) (aa _) ?_;simp only[zT]
      iterate 3 (refine b_ rfl ?_;simp only[zA])
      iterate 3 (refine iL rfl rfl ?_;simp only[zA])
      iterate 4 (apply gF rfl rfl;(intro hb bx;intro W hW;go_simp;with_reducible rfl);simp only[zA])
      refine Jb rfl rfl rfl ?_;simp only[zA]
      (first | refine bK rfl rfl ?_ | (refine b_ rfl ?_));simp only[zA]
      intro W hW;have HW:=zh (Dv.out.after hW);clear hW
      cases mE:(decide (0<=d)&&((o1==0)||decide (d+1<o1)))
      ·have j8:oO o1 d=o1:=by
        unfold oO;rw[if_neg];rintro⟨h1,h2⟩;rw[Bool.and_eq_false_iff]at mE;rcases mE with h3 | h3
        ·exact(of_decide_eq_false h3) h1
        ·rw[Bool.or_eq_false_iff]at h3;rcases h2 with h4 | h4
         ·rw[h4]at h3;simp at h3
         ·exact(of_decide_eq_false h3.2) h4
       have zM:=zh j8;clear j8;go_wp2;go_roundw
       case rel=>exact⟨j+1,by omega,by first | rfl | go_num,by rw[HSu.out,Y5.out,zM.out],HW.out⟩
       case measure=>simp[intOf];omega
      ·have j8:oO o1 d=d+1:=by
        unfold oO;rw[if_pos];rw[Bool.and_eq_true,Bool.or_eq_true]at mE;exact⟨of_decide_eq_true mE.1,mE.2.elim (fun h=>.inl (by simpa using h)) (fun h=>.inr (of_decide_eq_true h))⟩
       have zM:=zh j8;clear j8;go_wp2;go_roundw
       case rel=>exact⟨j+1,by omega,by first | rfl | go_num,by rw[HSu.out,Y5.out,zM.out],HW.out⟩
       case measure=>simp[intOf];omega
     ·have Py:oQ n k o1 j=o1:=by unfold oQ;rw[U3.out,if_pos (by unfold pZ at hg;exact of_decide_eq_true hg)]
      have Y5:=zh Py;clear Py nk;go_wp2;go_roundw
      case rel=>exact⟨j+1,by omega,by first | rfl | go_num,by rw[HSu.out,Y5.out],iS.out⟩
      case measure=>simp[intOf];omega
    ·obtain rfl:j=es.length:=by omega
     have pP:Hid (Mf n (k+1)=o1):=by show _=_;rw[uG,YP.out,iR.out,vS.out]
     clear nk bG;go_wp2;go_roundw
     case rel=>exact⟨k+1,by omega,by first | rfl | go_num,by rw[pP.out],i_.out⟩
     case measure=>simp[intOf];omega
  ·obtain rfl:k=n.ends.length:=by omega
   have hb:rb=o0:=by rw[<- iH.out];exact YP.out
   subst hb;clear bG;go_wp2;go_ret;exact⟨rfl,ab.after aT.out Hs.out⟩
theorem zu (ve vi vn:Value) (n:aj) (w:World) (h:aC w ve vi vn n) (hn:ak n=true):
  Calls Tryz.prog 170 #[.agg #[ve,vi,vn]] w fun e w'=>e=.returned (.bool (DQ n))/\Below w.heap.size w w':=by
 have Hn:=zh hn
 obtain⟨w0,A,c,A2,c2,A3,c3,rfl,rfl,rfl,fg,hm,f8,fP,HA,bS,aT,H,dP,d9,dV⟩:=zB h;clear h
 have HE:=zh (M9 hn);clear hn
 go_enter Tryz.func170,Tryz.ntmps170
 go_upto_region 1 with(fail);rw[<- bS.out];refine aE 9 (ab w0) (aa _) ?_;simp only[zT]
 refine b_ rfl ?_;simp only[zA]
 refine fc ?_ rfl ?_ ?_;rotate_left;(intro W hW;unfold da;go_simp;(with_reducible refine(Ea _ _ _ n W (H.out.keep hW.below) Hn.out).mono ?_);rintro e W' ⟨rfl,bB⟩;first | (refine⟨?_,ab.trans hW bB⟩;with_reducible rfl) | (subst bB;refine⟨?_,hW⟩;with_reducible rfl))
 simp only[zA]
 iterate 2 (refine b_ rfl ?_;simp only[zA])
 refine iL rfl rfl ?_;simp only[zA]
 refine dl (v:=?_) rfl rfl ?_ ?_;rotate_left;(intro hb;intro W hW;unfold da;go_simp;(with_reducible refine(Cx _ _ _ n W (H.out.keep hW.below) Hn.out).mono ?_);rintro e W' ⟨rfl,bB⟩;first | (refine⟨?_,ab.trans hW bB⟩;with_reducible rfl) | (subst bB;refine⟨?_,hW⟩;with_reducible rfl))
 simp only[zA]
 refine iL rfl rfl ?_;simp only[zA]
 (first | refine bK rfl rfl ?_ | (refine b_ rfl ?_));simp only[zA]
 refine b_ rfl ?_;simp only[zA]
 intro W hW;go_wp2;go_ret;exact⟨bJ HE.out.symm,ab.after aT.out hW⟩
def EZ (n:aj) (k:Nat):Prop:=∀v,v<k->uD n v=true
theorem E3 {n:aj} (h:EZ n n.ends.length):mf n=true:=by
 unfold mf;rw[List.all_eq_true];exact fun v hv=>h v (List.mem_range.1 hv)
theorem Cy (n:aj) (p:Nat):(eu (bW n) (p:Int) (bW n).length).length=me n p:=by
 unfold eu me rH
 rw[List.length_map,show(bW n).length=n.ends.length by simp[bW]]
 congr 1
 apply List.filter_congr
 intro v hv;have hv:=List.mem_range.1 hv
 rw[show(bW n).getD v 0=((am n v:Nat):Int)from ao (by unfold bW;rw[List.getElem?_map,List.getElem?_range hv];rfl)]
 simp only[Int.ofNat_inj]
theorem Iw (ve vi vn:Value) (n:aj) (s:Int) (w:World) (h:aC w ve vi vn n) (hn:ak n=true) (hs:1<=s/\s<=5):
  Calls Tryz.prog 106 #[.agg #[ve,vi,vn],.int .i64 s] w fun e w'=>e=.returned (.tuple #[.bool (jc n s),.bool (qI n s)])/\Below w.heap.size w w':=by
 have gT:=aB hn;have ul:=gT.1;have uq:=gT.2;have Hn:=zh hn
 obtain⟨w0,A,c,A2,c2,A3,c3,rfl,rfl,rfl,fg,hm,f8,fP,HA,bS,aT,H,dP,d9,dV⟩:=zB h;clear h
 have aU:ab w0 w0:=aa _;obtain⟨r0,yK⟩:∃r,jc n s=r:=⟨_,rfl⟩
 obtain⟨r1,sM⟩:∃r,qI n s=r:=⟨_,rfl⟩
 have LQ:=zh yK;have CZ:=zh sM;rw[yK,sM];clear hn gT yK sM
 go_enter Tryz.func106,Tryz.ntmps106
 by_cases h1:s=1
 ·subst h1
  have e0:r0=kK n:=by rw[<- LQ.out];unfold jc;rw[if_pos rfl]
  have e1:r1=true:=by rw[<- CZ.out];unfold qI;rw[if_neg (by decide)]
  subst e0 e1;go_upto_region 1 with(fail);rw[<- bS.out];go_wp2_with fail;refine(xV _ _ _ n w0 H.out Hn.out).mono ?_;rintro e w1 ⟨u,rfl,ho,hb⟩;have dM:Hid (ab w0 w1):=hb;clear ho hb aU;go_wp2
  go_ret2
  exact⟨rfl,ab.after aT.out dM.out⟩
 by_cases h2:s=2
 ·subst h2
  have e0:r0=J8 (kn n):=by rw[<- LQ.out];unfold jc;rw[if_neg h1,if_pos rfl]
  have e1:r1=(kn n).isSome:=by rw[<- CZ.out];unfold qI;rw[if_pos rfl]
  subst e0 e1;go_upto_region 1 with(fail);rw[<- bS.out];go_wp2_with fail;refine(sC _ _ _ n w0 H.out Hn.out).mono ?_;rintro e w1 ⟨u,rfl,ho,hb⟩;have dM:Hid (ab w0 w1):=hb;clear ho hb aU;go_wp2
  go_ret2
  exact⟨rfl,ab.after aT.out dM.out⟩
 have e1:r1=true:=by rw[<- CZ.out];unfold qI;rw[if_neg h2]
 subst e1
 by_cases h3:s=3
 ·subst h3
  have e0:r0=DQ n:=by rw[<- LQ.out];unfold jc;rw[if_neg h1,if_neg h2,if_pos rfl]
  subst e0;go_upto_region 1 with(fail);rw[<- bS.out];go_wp2_with fail;refine(zu _ _ _ n w0 H.out Hn.out).mono ?_;rintro e w1 ⟨rfl,hb⟩;have dM:Hid (ab w0 w1):=hb;clear hb aU;go_wp2
  go_ret2
  exact⟨rfl,ab.after aT.out dM.out⟩
 have b1:(s==1)=false:=by simpa using h1
 have b2:(s==2)=false:=by simpa using h2
 have b3:(s==3)=false:=by simpa using h3
 by_cases hid:n.ids.length=0
 ·have e0:r0=false:=by rw[<- LQ.out];unfold jc;rw[if_neg h1,if_neg h2,if_neg h3,if_pos hid]
  subst e0;have Uo:((n.ids.length:Int)==0)=true:=by simpa using hid
  clear h1 h2 h3 hid;go_upto_region 1 with(fail);rw[<- bS.out];go_wp2
  go_ret2
  exact⟨rfl,aT.out⟩
 have Uo:((n.ids.length:Int)==0)=false:=by simpa using hid
 have Uq:¬n.ids=[]:=fun e=>hid (by rw[e];rfl)
 by_cases h4:s=4
 ·subst h4
  have e0:r0=iU n:=by rw[<- LQ.out];unfold jc;rw[if_neg h1,if_neg h2,if_neg h3,if_neg hid,if_pos rfl]
  subst e0;clear h1 h2 h3 b1 b2 b3 hid;go_upto_region 1 with(fail);rw[<- bS.out];go_wp2_with fail;refine(uO _ _ _ n w0 H.out Hn.out).mono ?_;rintro e w1 ⟨u,rfl,ho,hb⟩;have dM:Hid (ab w0 w1):=hb;clear ho hb aU;go_wp2
  go_ret2
  exact⟨rfl,ab.after aT.out dM.out⟩
 have b4:(s==4)=false:=by simpa using h4
 have e0:r0=mf n:=by rw[<- LQ.out];unfold jc;rw[if_neg h1,if_neg h2,if_neg h3,if_neg hid,if_neg h4]
 have He0:Hid (mf n=r0):=e0.symm;clear e0 h1 h2 h3 h4 hid;go_upto_region 1 with(fail);rw[<- bS.out];go_wp2_with fail;refine(iC _ _ _ n w0 H.out Hn.out).mono ?_;rintro e w2 ⟨u2,rfl,cZ,bx⟩;have eG:(bW n).length=n.ends.length:=by simp[bW]
 obtain⟨gc,cc,rfl⟩:∃gc cc,u2=.slice (some ⟨gc,0,none⟩) n.ends.length cc:=by
  obtain⟨x,hx⟩:=aA (bW n) 0 (by omega);obtain⟨g,c,h1,-⟩:=nS cZ hx;exact⟨g,c,by rw[h1,eG]⟩
 have fG:=zh cZ;have cW:Hid (ab w0 w2):=bx;have Nz:=zh eG;clear cZ bx aU eG;go_wp2
 go_loopw [55] (fun i wr=>∃k:Nat,k<=n.ends.length/\i=.int .i64 k/\EZ n k/\ab w2 wr) (fun i _=>n.ends.length-(intOf i).toNat)
 case atStart=>exact⟨0,Nat.zero_le _,rfl,fun v hv=>by omega,aa _⟩
 case round=>
  obtain⟨k,hk,rfl,M_,bG⟩:=hrel;have Hev:=zh M_;have Hs:=zh bG;clear M_ bG
  by_cases az:k<n.ends.length
  ·have m3:IntKind.i64.wrap ((k:Int)+1)=(k:Int)+1:=aH _ (by omega) (by omega);obtain⟨p,hp⟩:∃p,am n k=p:=⟨_,rfl⟩
   have Du:=zh (fG.out.since Hs.out)
   have c1:=Du.out.cell (show(bW n)[k]?=some (p:Int)by rw[<- hp];unfold bW;rw[List.getElem?_map,List.getElem?_range az];rfl)
   have Hp:=zh hp;have HI:Hid (aO wr (.slice (some ⟨gc,0,none⟩) n.ends.length cc) (bW n)):=Du.out.ints;have lm:=Cy n p;rw[Nz.out]at lm;obtain⟨z,hz⟩:∃z,me n p=z:=⟨_,rfl⟩
   have hzl:z<=n.ends.length:=by rw[<- hz];exact GM n p _
   rw[hz]at lm;have HSz:=zh lm;have Hz:=zh hz;clear hp lm hz;go_wp2_with fail
   refine(sn _ (bW n) (p:Int) wr HI.out (by rw[Nz.out];omega)).mono ?_
   rintro e w3 ⟨u3,rfl,ex,bB⟩;rw[Nz.out]at ex
   obtain⟨A3',Bf,rfl⟩:∃A c,u3=.slice A z c:=by
    rcases ex.cases with⟨rfl,e1⟩ | ⟨g,c,rfl,-,-⟩
    ·have:=congrArg List.length e1;rw[HSz.out,List.length_nil]at this;exact⟨none,0,by rw[this]⟩
    ·exact⟨_,c,by rw[HSz.out]⟩
   have gZ:=zh (Hs.out.after bB);clear ex bB c1
   by_cases I9:z%2=1
   ·have t1:Int.tmod (z:Int) 2=1:=by rw[Int.tmod_eq_emod_of_nonneg (by omega)];omega
    have t2:(z:Int)%2=1:=by omega
    have jH:mf n=false:=yQ az (by unfold uD;rw[Hp.out,Hz.out,I9];rfl)
    rw[He0.out]at jH;subst jH;go_wp2
    go_ret2
    exact⟨rfl,ab.after aT.out (cW.out.after gZ.out)⟩
   ·have t1:Int.tmod (z:Int) 2=0:=by rw[Int.tmod_eq_emod_of_nonneg (by omega)];omega
    have t2:(z:Int)%2=0:=by omega
    have abc:Hid (EZ n (k+1)):=fun v hv=>by
     rcases Nat.lt_or_ge v k with h1 | h1
     ·exact Hev.out v h1
     ·rw[show v=k by omega]
      unfold uD;rw[Hp.out,Hz.out]
      have:(z%2==1)=false:=by simpa using I9
      rw[this];rfl
    clear I9;go_wp2;go_roundw
    case rel=>exact⟨k+1,by omega,by first | rfl | go_num,abc.out,gZ.out⟩
    case measure=>simp[intOf];omega
  ·obtain rfl:k=n.ends.length:=by omega
   have CU:=E3 Hev.out;rw[He0.out]at CU;subst CU;go_wp2
   go_ret2
   exact⟨rfl,ab.after aT.out (cW.out.after Hs.out)⟩
theorem lP (ve vi vn:Value) (n:aj) (s:Int) (w:World) (h:aC w ve vi vn n) (_ : -9223372036854775808<=s/\s<=9223372036854775807) (_:iO n<=1048576):
  Calls Tryz.prog 34 #[.agg #[ve,vi,vn],.int .i64 s] w fun e w'=>e=.returned (.tuple #[.bool (bX n s),.bool (bY n s)])/\Below w.heap.size w w':=by
 obtain⟨w0,A,c,A2,c2,A3,c3,rfl,rfl,rfl,fg,hm,f8,fP,HA,bS,aT,H,dP,d9,dV⟩:=zB h;clear h
 obtain⟨r0,yK⟩:∃r,bX n s=r:=⟨_,rfl⟩
 obtain⟨r1,sM⟩:∃r,bY n s=r:=⟨_,rfl⟩
 have LQ:=zh yK;have CZ:=zh sM;rw[yK,sM];clear yK sM
 go_enter Tryz.func34,Tryz.ntmps34
 go_upto_region 1 with(fail);rw[<- bS.out];refine aE 8 (ab w0) (aa _) ?_;simp only[zT]
 refine b_ rfl ?_;simp only[zA]
 refine fc ?_ rfl ?_ ?_;rotate_left;(intro W hW;unfold da;go_simp;(with_reducible refine(lY _ _ _ n W (H.out.keep hW.below)).mono ?_);rintro e W' ⟨rfl,bB⟩;first | (refine⟨?_,ab.trans hW bB⟩;with_reducible rfl) | (subst bB;refine⟨?_,hW⟩;with_reducible rfl))
 simp only[zA]
 iterate 2 (refine b_ rfl ?_;simp only[zA])
 refine iL rfl rfl ?_;simp only[zA]
 refine dl (v:=?_) rfl rfl ?_ ?_;rotate_left;(intro hb;intro W hW;unfold da;go_simp;(with_reducible refine(oW _ W).mono ?_);rintro e W' ⟨rfl,bB⟩;first | (refine⟨?_,ab.trans hW bB⟩;with_reducible rfl) | (subst bB;refine⟨?_,hW⟩;with_reducible rfl))
 simp only[zA]
 refine iL rfl rfl ?_;simp only[zA]
 (first | refine dE rfl rfl ?_ | (refine b_ rfl ?_));simp only[zA]
 intro W hW;have HW:=zh hW
 cases hg:(!ak n || !fF 1 5 s)
 ·simp only[Bool.or_eq_false_iff,Bool.not_eq_false']at hg
  have e0:r0=jc n s:=by rw[<- LQ.out];unfold bX wJ;rw[hg.1,hg.2];rfl
  have e1:r1=qI n s:=by rw[<- CZ.out];unfold bY wJ;rw[hg.1,hg.2];rfl
  have Hn:=zh hg.1;have Hs:=zh (bz.1 hg.2)
  have he:(!ak n || !fF 1 5 s)=false:=by rw[hg.1,hg.2];rfl
  subst e0 e1;clear hg;go_wp2_with fail;refine(Iw _ _ _ n s W (H.out.keep HW.out.below) Hn.out Hs.out).mono ?_;rintro e w1 ⟨rfl,hb⟩;have dM:=zh (HW.out.after hb);clear hb hW;go_wp2
  go_ret2
  exact⟨rfl,ab.after aT.out dM.out⟩
 ·have jH:wJ n s=false:=by unfold wJ;revert hg;cases ak n <;> cases fF 1 5 s <;> simp
  have e0:r0=false:=by rw[<- LQ.out];unfold bX;rw[jH];rfl
  have e1:r1=false:=by rw[<- CZ.out];unfold bY;rw[jH];rfl
  subst e0 e1;clear hW jH;go_wp2
  go_ret2
  exact⟨rfl,ab.after aT.out HW.out⟩
theorem LR (ve vi vn:Value) (n:aj) (L:List Int) (w:World) (h:aC w ve vi vn n) (hn:ak n=true) (hL:(if kK n=true then lf n else [])=L):
  Calls Tryz.prog 104 #[.agg #[ve,vi,vn],.int .i64 1] w fun e w'=>∃u,e=.returned u/\Own w' w.heap.size u L/\Below w.heap.size w w':=by
 have Hn:=zh hn;have HL:=zh hL;clear hn hL;obtain⟨bb,B4⟩:∃z,z=kK n:=⟨_,rfl⟩
 obtain⟨w0,A,c,A2,c2,A3,c3,rfl,rfl,rfl,fg,hm,f8,fP,HA,bS,aT,H,dP,d9,dV⟩:=zB h;clear h
 go_enter Tryz.func104,Tryz.ntmps104
 go_upto_region 1 with(fail);rw[<- bS.out];have aU:ab w0 w0:=aa _;go_wp2_with fail;refine(xV _ _ _ n w0 H.out Hn.out).mono ?_;rintro e w1 ⟨u,rfl,ho,aN⟩;rw[HL.out]at ho;rw[<- B4];clear B4;have Ho:=zh ho;have dM:=zh (show ab w0 w1 from aN);obtain⟨AU,cU,rfl,-,-,-⟩:=id ho.ints;clear ho aN aU;go_wp2;go_ret;exact⟨_,rfl,Ho.out.mono aT.out.size,ab.trans aT.out dM.out⟩
theorem LU (ve vi vn:Value) (n:aj) (l:List Int) (w:World) (h:aC w ve vi vn n) (hn:ak n=true) (hl:kn n=some (some l)):
  Calls Tryz.prog 104 #[.agg #[ve,vi,vn],.int .i64 2] w fun e w'=>∃u,e=.returned u/\Own w' w.heap.size u l/\Below w.heap.size w w':=by
 have Hn:=zh hn;have Hl:=zh hl;clear hn hl
 obtain⟨w0,A,c,A2,c2,A3,c3,rfl,rfl,rfl,fg,hm,f8,fP,HA,bS,aT,H,dP,d9,dV⟩:=zB h;clear h
 go_enter Tryz.func104,Tryz.ntmps104
 go_upto_region 1 with(fail);rw[<- bS.out];have aU:ab w0 w0:=aa _;go_wp2_with fail;refine(sC _ _ _ n w0 H.out Hn.out).mono ?_;rintro e w1 ⟨u,rfl,ho,aN⟩;have ho:=ho l Hl.out;have Ho:=zh ho;have dM:=zh (show ab w0 w1 from aN);obtain⟨AU,cU,rfl,-,-,-⟩:=id ho.ints;clear ho aN aU;go_wp2;go_ret;exact⟨_,rfl,Ho.out.mono aT.out.size,ab.trans aT.out dM.out⟩
theorem Cz (ve vi vn:Value) (n:aj) (s:Int) (w:World) (h:aC w ve vi vn n) (hn:ak n=true) (hs:1<=s/\s<=5) (hh:jc n s=true):
  Calls Tryz.prog 104 #[.agg #[ve,vi,vn],.int .i64 s] w fun e w'=>∃u,e=.returned u/\Own w' w.heap.size u (Bv n s)/\Below w.heap.size w w':=by
 unfold jc at hh;unfold Bv
 by_cases e1:s=1
 ·subst e1;rw[if_pos rfl];exact LR ve vi vn n _ w h hn rfl
 ·rw[if_neg e1]at hh ⊢
  by_cases e2:s=2
  ·subst e2;rw[if_pos rfl]at hh ⊢
   cases hR:kn n with
   | none=>rw[hR]at hh;cases hh
   | some R=>
    cases R with
    | none=>rw[hR]at hh;cases hh
    | some l=>exact LU ve vi vn n l w h hn hR
  ·rw[if_neg e2]at hh ⊢
   by_cases e3:s=3
   ·subst e3;rw[if_pos rfl];exact LK ve vi vn n w h hn
   ·rw[if_neg e3]at hh ⊢
    by_cases e0:n.ids.length=0
    ·rw[if_pos e0]at hh;cases hh
    ·rw[if_neg e0]at hh
     by_cases e4:s=4
     ·subst e4;rw[if_pos rfl]at hh ⊢;exact LM ve vi vn n w h hn e0 hh
     ·obtain rfl:s=5:=by omega
      rw[if_neg e4];exact LN ve vi vn n w h hn e0
theorem Ix {n:aj} {s:Int} (h:jc n s=true):qI n s=true:=by
 unfold qI
 by_cases e:s=2
 ·subst e;rw[if_pos rfl];unfold jc at h;rw[if_neg (by decide),if_pos rfl]at h
  cases hR:kn n with
  | none=>rw[hR]at h;cases h
  | some R=>rfl
 ·rw[if_neg e]
def bw (n:aj) (s:Int):Bool:=wJ n s&&jc n s
def bD (n:aj) (s:Int):List Int:=if bw n s=true then Bv n s else []
theorem OD (n:aj) (s:Int):(!bY n s || !bX n s) = !bw n s:=by
 unfold bY bX bw
 cases wJ n s
 ·rfl
 ·cases hh:jc n s
  ·simp
  ·rw[Ix hh];rfl
theorem kQ (ve vi vn:Value) (n:aj) (s:Int) (w:World) (h:aC w ve vi vn n) (hs : -9223372036854775808<=s/\s<=9223372036854775807) (fO:iO n<=1048576):
  Calls Tryz.prog 33 #[.agg #[ve,vi,vn],.int .i64 s] w fun e w'=>∃u,e=.returned (.tuple #[u,.bool (bw n s)])/\Own w' w.heap.size u (bD n s)/\Below w.heap.size w w':=by
 have lm:=zh fO;have Lb:=zh hs;clear fO hs
 obtain⟨w0,A,c,A2,c2,A3,c3,rfl,rfl,rfl,fg,hm,f8,fP,HA,bS,aT,H,dP,d9,dV⟩:=zB h;clear h
 obtain⟨r0,yK⟩:∃r,bX n s=r:=⟨_,rfl⟩
 obtain⟨r1,sM⟩:∃r,bY n s=r:=⟨_,rfl⟩
 obtain⟨q1,rF⟩:∃r,bw n s=r:=⟨_,rfl⟩
 have ht:=OD n s;rw[yK,sM,rF]at ht;have LQ:=zh yK;have CZ:=zh sM;have Hq1:=zh rF;have Ht:=zh ht;rw[rF];clear yK sM rF ht
 go_enter Tryz.func33,Tryz.ntmps33
 go_upto_region 1 with(fail);rw[<- bS.out];have aU:ab w0 w0:=aa _;go_wp2_with fail;refine(lP _ _ _ n s w0 H.out Lb.out lm.out).mono ?_;rintro e w1 ⟨rfl,aN⟩;rw[LQ.out,CZ.out];have dr:ab w0 w1:=aN;have dM:=zh dr;clear aN aU;cases q1
 ·have hd:bD n s=[]:=by unfold bD;rw[Hq1.out];rfl
  have Hd:=zh hd;clear hd
  have hr:r1=false\/(r1=true/\r0=false):=by have:=Ht.out;revert this;cases r0 <;> cases r1 <;> simp
  rcases hr with rfl | ⟨rfl,rfl⟩
  ·go_wp2
   go_ret2
   rw[Hd.out];exact⟨_,rfl,bU _ _,ab.trans aT.out dM.out⟩
  ·go_wp2
   go_ret2
   rw[Hd.out];exact⟨_,rfl,bU _ _,ab.trans aT.out dM.out⟩
 ·have hd:bD n s=Bv n s:=by unfold bD;rw[Hq1.out];rfl
  have hq:=Hq1.out
  unfold bw wJ at hq
  rw[Bool.and_eq_true,Bool.and_eq_true,bz]at hq;have Hq:=zh hq;have Hd:=zh hd
  obtain⟨rfl,rfl⟩:r0=true/\r1=true:=by have:=Ht.out;revert this;cases r0 <;> cases r1 <;> simp
  clear hd hq;go_wp2_with fail;refine(Cz _ _ _ n s w1 (H.out.keep dM.out.below) Hq.out.1.1 Hq.out.1.2 Hq.out.2).mono ?_;rintro e w2 ⟨u,rfl,ho,bx⟩;obtain⟨AU,cU,rfl,-,-,-⟩:=id ho.ints;have Ho:=zh ho;have cW:=zh (ab.after dM.out bx);clear ho bx dr;go_wp2
  go_ret2
  rw[Hd.out];exact⟨_,rfl,Ho.out.mono (Nat.le_trans aT.out.size dM.out.below.size),ab.trans aT.out cW.out⟩
structure kD (cb:Nat) (A:Option Addr) (L c P0 K:Nat) (wS:World) (q:Nat) (W:World):Prop where
 cur:cG W cb A L c (P0+K*q)
 rel:C2 cb cb wS W
theorem kD.start {cb:Nat} {A:Option Addr} {L c P0 K:Nat} {wS W:World} (hc:cG wS cb A L c P0) (hs:ab wS W):kD cb A L c P0 K wS 0 W:=⟨hc.since hs,C2.since hs⟩
theorem kD.since {cb:Nat} {A:Option Addr} {L c P0 K q:Nat} {wS W W':World} (h:kD cb A L c P0 K wS q W) (hs:ab W W'):kD cb A L c P0 K wS q W':=⟨h.cur.since hs,h.rel.trans (C2.since hs)⟩
theorem kD.call {cb:Nat} {A:Option Addr} {L c P0 K q:Nat} {wS W W':World} (h:kD cb A L c P0 K wS q W) (hC:CB cb W.heap.size W W') {P':Nat} (eQ:cG W' cb A L c P') (hP:P'<=P0+K*q+K):kD cb A L c P0 K wS (q+1) W':=
 ⟨eQ.mono (by rw[Nat.mul_add];omega),h.rel.trans (C2.of hC)⟩
theorem kD.next {cb:Nat} {A:Option Addr} {L c P0 K q:Nat} {wS W W':World} (h:kD cb A L c P0 K wS q W) (hs:ab W W'):kD cb A L c P0 K wS (q+1) W':=
 ⟨(h.cur.since hs).mono (by rw[Nat.mul_add];omega),h.rel.trans (C2.since hs)⟩
def pM (B k q:Nat) (u:Value) (W:World):Prop:=∃g ls,u=.slice (some ⟨g,0,none⟩) k q/\ls.length=k/\Own W B u ls
theorem pM.rel {cb rb B k q:Nat} (hc:cb<B) (hr:rb<B):∀u W W',C2 cb rb W W'->pM B k q u W->pM B k q u W':=by
 rintro u W W' h ⟨g,ls,h1,h2,h3⟩;exact⟨g,ls,h1,h2,h.own hc hr h3⟩
def xg (u:Value) (_:World):Prop:=∃x:Int,u=.int .i64 x
def LV (n:aj) (s aJ lQ:Int):Bool:=ak n&&fF 1 5 s&&fF 0 999999999999 aJ&&fF 0 200000 lQ
def e_ (n:aj) (s aJ lQ:Int):Int:=if LV n s aJ lQ then (O5 n s 0 aJ lQ).2.1 else 0
def lR (n:aj) (s aJ lQ:Int):List Int:=if LV n s aJ lQ then (O5 n s 0 aJ lQ).1 else []
structure abd (n:aj) (s aJ lQ:Int):Prop where
 net:ak n=true
 sch:1<=s/\s<=5
 po:0<=aJ/\aJ<=999999999999
structure Y6 (n:aj) (s aJ lQ:Int):Prop where
 cnt:decide (0<fq n s aJ)=decide (eZ n s aJ=0)
 rej:aM n s (ft n s aJ)=true
 num:((aw n s (ft n s aJ)).length:Int)=eZ n s aJ
 yes:e_ n s aJ lQ=1->fq n s aJ≠0
 no:e_ n s aJ lQ=2->¬0<fq n s aJ
 fst:eZ n s aJ=0->e_ n s aJ lQ=1->ft n s aJ=lR n s aJ lQ
theorem Iy (n:aj) (s:Int):(bD n s).length<=100:=by
 unfold bD
 split
 ·rename_i h
  unfold bw wJ at h
  rw[Bool.and_eq_true,Bool.and_eq_true,bz]at h;rw[(Xn h.1.1 h.1.2 h.2).len]
  have:=(aB h.1.1).2
  omega
 ·exact Nat.zero_le _
def abe (n:aj) (s:Int) (ls:List Int) (v:Nat) (x:Int):Bool:=!dC n s (ls.set v x) v
def ip (n:aj) (s:Int) (ls:List Int) (v aJ:Int):Bool:=ed n s ls&&fF 0 ((n.ends.length:Int)-1) v&&fF 0 1000 aJ
def lS (n:aj) (s:Int) (ls:List Int) (v aJ:Int):List Int:=if ip n s ls v aJ then fB (abe n s ls v.toNat) (fQ (aJ.toNat+1)) else []
def bl (n:Nat):Nat:=if n=0 then 0 else bl (n/2)+1
def XA (xs:List Int):Int:=xs.foldl max 0
def XB (xs:List Int):Int×Bool:=if xs.length<=40/\xs.all (fF 0 999999999999)=true then ((bl (XA xs).toNat:Nat),true) else (0,false)
def abf (a b c d:Int):Int×Bool:=if (fF 0 999999999999 a&&fF 0 99 b&&fF 0 9 c&&fF 0 1 d&&fF 0 999999999999 (((a*100+b)*10+c)*2+d))=true then (((a*100+b)*10+c)*2+d,true) else (0,false)
def abg (a b:Int):Int×Bool:=if (fF 0 999999999999 a&&fF 0 99 b&&fF 0 999999999999 (a*100+b))=true then (a*100+b,true) else (0,false)
def abh (a:Int):Int×Bool:=if (fF 0 999999999999 a)=true then (a,true) else (0,false)
def lfp (s:Int) (ps:List Int):Int×Bool:=
 if fF 1 5 s=false then (0,false) else
 if s=5 then (match ps with | [a,b,c,d]=>abf a b c d | _=>(0,false)) else
 if s=4 then (match ps with | [a,b]=>abg a b | _=>(0,false)) else
 (match ps with | [a]=>abh a | _=>(0,false))
theorem XC {ps:List Int} (h:ps.length=2):∃a b,ps=[a,b]:=by
 match ps,h with
 | [a,b],_=>exact⟨a,b,rfl⟩
def pol (s l:Int):List Int×Bool:=if (fF 1 5 s&&fF 0 999999999999 l)=true then (gK s l,true) else ([],false)
structure ach (n:aj) (s:Int) (l:List Int):Prop where
 pos:0<l.length
 len:l.length<=40
 acc:ng n s l=true/\nh n s l=true
 bits:∃k:Nat,XB l=((k:Int),true)/\k<=32/\(s=1->k<=1)/\(s=2->k<=2)
 own:∀(v:Nat) (x:Int),l[v]?=some x->ip n s l (v:Int) 1000=true/\(x<=1000->x∈lS n s l (v:Int) 1000)
 jb:∀(v:Nat) (x:Int),l[v]?=some x->(pol s x).2=true/\lfp s (pol s x).1=(x,true)
end Go.Proofs.YtgmdpppljkmabaaGreat
