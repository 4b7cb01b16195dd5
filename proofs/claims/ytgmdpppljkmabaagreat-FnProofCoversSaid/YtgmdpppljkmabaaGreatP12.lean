/- Parts of the proof: walks of functions and plain laws. -/
import Derived.Test.YtgmdpppljkmabaaGreatP0
import Derived.Test.YtgmdpppljkmabaaGreatP1
import Derived.Test.YtgmdpppljkmabaaGreatP6
import Derived.Test.YtgmdpppljkmabaaGreatP11
import Derived.Test.YtgmdpppljkmabaaGreatP10
import Derived.Test.YtgmdpppljkmabaaGreatP3
import Derived.Test.YtgmdpppljkmabaaGreatP5
import Derived.ArgAppend
import Derived.Test.YtgmdpppljkmabaaGreatP9
import Derived.Maps.OwnOps
import Derived.Maps.RangeWalk
import Derived.WalkArith
set_option maxRecDepth 100000
set_option maxHeartbeats 16000000
namespace Go.Proofs.YtgmdpppljkmabaaGreat
open Go Go.RowKit
theorem nS {w:World} {base:Nat} {u:Value} {xs:List Int} {k:Nat} {x:Int} (h:Own w base u xs) (hx:xs[k]?=some x):∃g c,u=.slice (some ⟨g,0,none⟩) xs.length c/\w.cell? ⟨g,k,none⟩=some (.int .i64 x)/\base<=g:=by
 rcases h.cases with⟨-,e1⟩ | ⟨g,c,rfl,kE,l7⟩
 ·rw[e1]at hx;simp at hx
 ·exact⟨g,c,rfl,h.cell hx,kE⟩
theorem xU {n:aj} (hn:ak n=true) {v:Nat} (hv:v<n.ends.length):(bC n v).length=n.ends.length:=j2 hn _ _ _ (BI.start hv)
theorem BH {w:World} {base:Nat} {u:Value} {n:aj} (hn:ak n=true) {v k:Nat} (hv:v<n.ends.length) (hk:k<n.ends.length) (h:Own w base u (bC n v)):∃g c d,u=.slice (some ⟨g,0,none⟩) n.ends.length c/\(bC n v)[k]?=some d/\w.cell? ⟨g,k,none⟩=some (.int .i64 d)/\base<=g:=by
 obtain⟨d,hd⟩:=aA (bC n v) k (by rw[xU hn hv];exact hk)
 obtain⟨g,c,h1,h2,h3⟩:=nS h hd;exact⟨g,c,d,by rw[h1,xU hn hv],hd,h2,h3⟩
def mr (n:aj) (k:Nat):List Int:=(List.range n.ends.length).map fun v=>if v<k then fC n v else 0
theorem GZ (n:aj) (k:Nat):(mr n k).length=n.ends.length:=by simp[mr]
theorem D9 (n:aj):mr n 0=List.replicate n.ends.length 0:=by
 unfold mr;apply List.ext_getElem?
 intro i;rw[List.getElem?_map,List.getElem?_replicate]
 by_cases h:i<n.ends.length
 ·rw[List.getElem?_range h,if_pos h];rfl
 ·rw[List.getElem?_eq_none (by simpa using h),if_neg h];rfl
theorem G0 (n:aj):mr n n.ends.length=lf n:=by
 unfold mr lf
 apply List.map_congr_left
 intro v hv;rw[if_pos (List.mem_range.1 hv)]
theorem G1 {n:aj} {k:Nat} (hk:k<n.ends.length):(mr n k).set k (fC n k)=mr n (k+1):=by
 apply List.ext_getElem?
 intro i;unfold mr;rw[List.getElem?_set]
 by_cases h:k=i
 ·subst h;rw[if_pos rfl,List.length_map,List.length_range,if_pos hk,List.getElem?_map,List.getElem?_range hk];simp
 ·rw[if_neg h,List.getElem?_map,List.getElem?_map]
  by_cases h2:i<n.ends.length
  ·rw[List.getElem?_range h2];simp only[Option.map_some,Option.some.injEq]
   by_cases h3:i<k
   ·rw[if_pos h3,if_pos (by omega)]
   ·rw[if_neg h3,if_neg (by omega)]
  ·rw[List.getElem?_eq_none (by simpa using h2)];rfl
def Ku (n:aj) (k:Nat):Prop:=∀v,v<k->(dW n (v:Int)).any (ke n v)=false
theorem G2 {n:aj} (hn:ak n=true) (h:Ku n n.ends.length):kK n=true:=by
 rw[nN hn,List.all_eq_true];intro v hv
 rw[h v (List.mem_range.1 hv)];rfl
theorem G3 {n:aj} (hn:ak n=true) {v:Nat} (hv:v<n.ends.length) {x:Int} (hx:x∈dW n (v:Int)) (hc:ke n v x=true):kK n=false:=by
 rw[nN hn,Bool.eq_false_iff];intro h
 have:=List.all_eq_true.1 h v (List.mem_range.2 hv)
 rw[List.any_eq_true.2 ⟨x,hx,hc⟩]at this;cases this
theorem xV (ve vi vn:Value) (n:aj) (w:World) (h:aC w ve vi vn n) (hn:ak n=true):
  Calls Tryz.prog 162 #[.agg #[ve,vi,vn]] w fun e w'=>∃u,e=.returned (.tuple #[u,.bool (kK n)])/\Own w' w.heap.size u (if kK n=true then lf n else [])/\Below w.heap.size w w':=by
 have gT:=aB hn;have ul:=gT.1;have uq:=gT.2;have Hn:=zh hn
 obtain⟨w0,A,c,A2,c2,A3,c3,rfl,rfl,rfl,fg,hm,f8,fP,HA,bS,aT,H,dP,d9,dV⟩:=zB h;clear h
 have aU:ab w0 w0:=aa _;obtain⟨rb,iy⟩:∃rb,kK n=rb:=⟨_,rfl⟩
 have iH:=zh iy;rw[iy];clear hn gT iy
 go_enter Tryz.func162,Tryz.ntmps162
 go_upto_region 1 with(fail);rw[<- bS.out]
 go_wp2_with (at_make;refine jm _ rfl _ _ rfl _ _ n.ends.length rfl rfl rfl rfl (by omega) ?_;intro w1 gR aN dh;have dr:ab w0 w1:=aN)
 obtain⟨g,hg⟩:∃g,g=w0.heap.size:=⟨_,rfl⟩
 rw[<- hg]at gR dh ⊢;have dM:=zh dr
 have tq:Hid (w0.heap.size<=g):=by rw[hg];exact Nat.le_refl _
 have hgw:Hid (g<w1.heap.size):=by show _<_;omega
 have vS:Hid (Own w1 w0.heap.size (.slice (some ⟨g,0,none⟩) n.ends.length n.ends.length) (mr n 0)):=by rw[D9];exact gR.mono tq.out
 clear gR aN dh aU hg;go_wp2_with fail;refine(iC _ _ _ n w1 (H.out.keep dM.out.below) Hn.out).mono ?_;rintro e w2 ⟨u2,rfl,cZ,bx⟩
 obtain⟨gc,cc,rfl⟩:∃gc cc,u2=.slice (some ⟨gc,0,none⟩) n.ends.length cc:=by
  obtain⟨x,hx⟩:=aA (bW n) 0 (by simp[bW];omega)
  obtain⟨g,c,h1,-⟩:=nS cZ hx
  exact⟨g,c,by rw[h1];simp[bW]⟩
 have D_:Hid (g≠gc):=by
  obtain⟨x,hx⟩:=aA (bW n) 0 (by simp[bW];omega)
  obtain⟨g',c,h1,-,h3⟩:=nS cZ hx;simp only[Value.slice.injEq,Option.some.injEq,Addr.mk.injEq]at h1
  have:=hgw.out
  show _≠_
  omega
 have fG:=zh cZ;have cW:=zh (dM.out.after bx);have aaj:=zh (vS.out.since bx);clear cZ bx dr;go_wp2
 go_loopw [18] (fun i wr=>∃k:Nat,k<=n.ends.length/\i=.int .i64 k/\Own wr w0.heap.size (.slice (some ⟨g,0,none⟩) n.ends.length n.ends.length) (mr n k)/\Own wr w1.heap.size (.slice (some ⟨gc,0,none⟩) n.ends.length cc) (bW n)/\ab w0 wr) (fun i _=>n.ends.length-(intOf i).toNat)
 case atStart=>exact⟨0,Nat.zero_le _,rfl,aaj.out,fG.out,cW.out⟩
 case round=>
  obtain⟨k,hk,rfl,ho,hc,bG⟩:=hrel;have Ho:=zh ho;have Hc:=zh hc;have Hs:=zh bG;clear ho hc bG
  by_cases az:k<n.ends.length
  ·have m3:IntKind.i64.wrap ((k:Int)+1)=(k:Int)+1:=aH _ (by omega) (by omega);obtain⟨p,hp⟩:∃p,p=am n k:=⟨_,rfl⟩
   have Be:p<n.ends.length:=by rw[hp];exact dX Hn.out az
   have c1:=ae (Hc.out.cell (show(bW n)[k]?=some (p:Int)by rw[hp];unfold bW;rw[List.getElem?_map,List.getElem?_range az];rfl))
   have Hp:=zh hp;have yU:=ag dP Hs.out;have DX:=ag d9 Hs.out;have DY:=ag dV Hs.out;obtain⟨y,hy⟩:∃y,y=fC n k:=⟨_,rfl⟩
   have Hy:=zh hy;clear hp hy;go_upto_region 6 with(fail);refine eP (w0:=wr) 12 [false,false,false,false,false,false,false,true,false,true,true,true] (by kernel_rfl) (by kernel_rfl) (aa _) ?_;simp only[er,dS,zT]
   iterate 8 (apply bv rfl;(intro W hW;go_simp;with_reducible rfl);simp only[zA])
   intro W hW;refine Or.inl ⟨rfl,?_⟩
   go_simp
   (with_reducible refine(iv _ _ _ n p W (H.out.keep (Hs.out.after hW).below) Hn.out Be).mono ?_)
   rintro e W' ⟨u3,rfl,ex,bB⟩;refine⟨_,rfl,hW.trans bB,?_⟩
   replace hW:=hW.trans bB
   obtain⟨gd,cd,d,rfl,hd,JM,iG⟩:=BH Hn.out Be az ex
   have QV:Int.tmod d 2=y:=by rw[Hy.out];exact Fr Hn.out az (by rw[<- Hp.out];exact hd)
   have IT:0<=d:=by have h9:=(ut Hn.out az).1;rw[<- Hp.out,ao hd]at h9;exact h9
   have UW:d%2=y:=by rw[<- QV];exact(Int.tmod_eq_emod_of_nonneg IT).symm
   clear ex bB hd IT iG
   (try simp only[zA])
   refine de (v:=?_) rfl ?_ hW ?_;rotate_left;(go_simp;with_reducible rfl)
   simp only[zA]
   refine de (v:=?_) rfl ?_ hW ?_;rotate_left;(go_simp;with_reducible rfl)
   simp only[zA]
   refine de (v:=?_) rfl ?_ hW ?_;rotate_left;(go_simp;with_reducible rfl)
   simp only[zA];simp only[bh];have HW:=zh hW;have Du:=zh (Ho.out.since hW);have HcW:=zh (Hc.out.since hW)
   obtain⟨z,hz⟩:=aA (mr n k) k (by rw[GZ];exact az)
   have cz:=Du.out.cell hz;have fz:=Du.out.free k;clear hW c1 yU DX DY JM hz;go_wp2;go_roundw
   case rel=>exact⟨k+1,by omega,by first | rfl | go_num,by rw[<- G1 az,<- Hy.out];exact Du.out.set (k:=k) y,nL HcW.out (by simp[Value.ownBlock];exact fun e=>D_.out e.symm) _,Below.setCell (Hs.out.after HW.out) tq.out _⟩
   case measure=>simp[intOf];omega
  ·obtain rfl:k=n.ends.length:=by omega
   have HT:Hid (Own wr w0.heap.size (.slice (some ⟨g,0,none⟩) n.ends.length n.ends.length) (lf n)):=by rw[<- G0];exact Ho.out
   clear hk az Ho Hc;go_wp2
   go_loopw [37] (fun i wq=>∃j:Nat,j<=n.ends.length/\i=.int .i64 j/\Ku n j/\ab wr wq) (fun i _=>n.ends.length-(intOf i).toNat)
   case atStart=>exact⟨0,Nat.zero_le _,rfl,fun v hv=>by omega,aa _⟩
   case round=>
    obtain⟨j,hj,rfl,s8,nk⟩:=hrel;have UX:=zh s8;have i_:=zh nk;clear s8 nk
    by_cases lq:j<n.ends.length
    ·obtain⟨es,bM⟩:=aA n.ends j lq;have dm:=bV Hn.out bM;have sI:=dm.1;have Mx:=zh dm.2;have Kv:=zh (Hs.out.after i_.out);have G4:=Kv.out;have jZ:=zh bM
     have Mg:Hid (dW n (j:Int)=es.map fun e=>e.1):=by show _=_;unfold dW;rw[Int.toNat_natCast,ao bM]
     clear bM dm;go_wp2_with fail;refine(iu _ _ _ n j es wr (H.out.keep Kv.out.below) jZ.out (by omega)).mono ?_;rintro e w5 ⟨u5,rfl,vU,pS⟩
     obtain⟨A5,c5,rfl⟩:∃A c,u5=.slice A es.length c:=by
      rcases vU.cases with⟨rfl,e1⟩ | ⟨gd,cd,rfl,kE,l7⟩
      ·have:=congrArg List.length e1;rw[List.length_map]at this;exact⟨none,0,by rw[this];rfl⟩
      ·exact⟨_,cd,by rw[List.length_map]⟩
     have Jy:=zh vU;have tf:=zh (i_.out.after pS);clear vU pS G4;go_wp2
     go_loopw [44] (fun i wx=>∃t:Nat,t<=es.length/\i=.int .i64 t/\((es.take t).map fun e=>e.1).any (ke n j)=false/\ab w5 wx) (fun i _=>es.length-(intOf i).toNat)
     case atStart=>exact⟨0,Nat.zero_le _,rfl,rfl,aa _⟩
     case round=>
      obtain⟨t,ht,rfl,hnt,j8⟩:=hrel;have Hnt:=zh hnt;have zM:=zh j8;clear hnt j8
      by_cases rp:t<es.length
      ·obtain⟨x,hx⟩:=aA es t rp;have n9:=Mx.out x (List.mem_of_getElem? hx);obtain⟨k,hk⟩:=Int.eq_ofNat_of_zero_le n9.1;have pQ:k<n.ends.length:=by omega
       have Hx:=zh hx
       have hb:(es.map fun e=>e.1)[t]?=some (k:Int):=by rw[List.getElem?_map,hx,<- hk];rfl
       obtain⟨gz,cz,dh,dt,oU⟩:=nS Jy.out hb;rw[List.length_map]at dh;simp only[Value.slice.injEq,true_and]at dh;obtain⟨rfl,rfl⟩:=dh;have r0:=ae (bc zM.out dt);have UY:=zh (HT.out.since (tf.out.after zM.out));obtain⟨a1,BJ⟩:∃a,fC n j=a:=⟨_,rfl⟩
       obtain⟨a2,Pe⟩:∃a,fC n k=a:=⟨_,rfl⟩
       have t1:=ae (UY.out.cell (mS lq));have t2:=ae (UY.out.cell (mS pQ))
       have Nz:Hid (ke n j x.1=(a1==a2)):=by show _=_;unfold ke;rw[hk,BJ];show(a1==(lf n).getD ((k:Int)).toNat 0)=_;rw[Int.toNat_natCast,fm pQ,Pe]
       rw[BJ]at t1;rw[Pe]at t2;have m2:IntKind.i64.wrap ((t:Int)+1)=(t:Int)+1:=aH _ (by omega) (by omega);have r1:=r0 wr (aa _);have Hk:=zh hk;clear hx n9 hk hb dt BJ Pe;go_upto_region 14 with(fail);refine av 9 (ab wr) (by kernel_rfl) (by kernel_rfl) (by simp) (ah (aa _)) ?_;simp only[zT]
       iterate 9 (refine b_ rfl ?_;simp only[zA])
       intro W hW;have HW:=zh (zM.out.after hW);clear hW t1 t2 r0 r1;cases hg:(a1==a2)
       ·have pc:Hid (((es.take (t+1)).map fun e=>e.1).any (ke n j)=false):=by
         show _=_
         rw[aV Hx.out,List.map_append,List.any_append,Hnt.out];simp only[List.map_cons,List.map_nil,List.any_cons,List.any_nil,Nz.out,hg,Bool.or_false]
        go_wp2;go_roundw
        case rel=>exact⟨t+1,by omega,by first | rfl | go_num,pc.out,HW.out⟩
        case measure=>simp[intOf];omega
       ·have UZ:=G3 Hn.out lq (x:=x.1) (by rw[Mg.out];exact List.mem_map_of_mem (List.mem_of_getElem? Hx.out)) (by rw[Nz.out];exact hg)
        rw[iH.out]at UZ;subst UZ;go_wp2
        go_ret2
        exact⟨.slice none 0 0,rfl,by simpa using bU _ _,ab.after aT.out (Hs.out.after (tf.out.after HW.out))⟩
      ·obtain rfl:t=es.length:=by omega
       have m2:IntKind.i64.wrap ((j:Int)+1)=(j:Int)+1:=aH _ (by omega) (by omega)
       have pc:Hid (Ku n (j+1)):=fun v hv=>by
        rcases Nat.lt_or_ge v j with h1 | h1
        ·exact UX.out v h1
        ·rw[show v=j by omega,Mg.out]
         have:=Hnt.out
         rwa [List.take_length]at this
       go_wp2;go_roundw
       case rel=>exact⟨j+1,by omega,by first | rfl | go_num,pc.out,tf.out.after zM.out⟩
       case measure=>simp[intOf];omega
    ·obtain rfl:j=n.ends.length:=by omega
     have CU:=G2 Hn.out UX.out;rw[iH.out]at CU;subst CU;go_wp2
     go_ret2
     refine⟨.slice (some ⟨g,0,none⟩) n.ends.length n.ends.length,rfl,?_,ab.after aT.out (Hs.out.after i_.out)⟩;exact(HT.out.since i_.out).mono aT.out.size
def qR (n:aj) (v k:Nat):Bool:=(List.range k).any fun i=>decide (fT n v i=((v:Int),(i:Int)))
def y7 (n:aj) (k:Nat):Bool:=(List.range k).any fun v=>qR n v (n.ends.getD v []).length
theorem FJ {k v:Nat} {f:Nat->Bool} (hv:v<k) (h:f v=true):(List.range k).any f=true:=List.any_eq_true.2 ⟨v,List.mem_range.2 hv,h⟩
theorem Ea (ve vi vn:Value) (n:aj) (w:World) (h:aC w ve vi vn n) (hn:ak n=true):
  Calls Tryz.prog 212 #[.agg #[ve,vi,vn]] w fun e w'=>e=.returned (.bool (uH n))/\Below w.heap.size w w':=by
 have gT:=aB hn;have ul:=gT.1;have uq:=gT.2;have Hn:=zh hn
 obtain⟨w0,A,c,A2,c2,A3,c3,rfl,rfl,rfl,fg,hm,f8,fP,HA,bS,aT,H,dP,d9,dV⟩:=zB h;clear h
 have aU:ab w0 w0:=aa _;obtain⟨rb,iy⟩:∃rb,uH n=rb:=⟨_,rfl⟩
 have iH:Hid (y7 n n.ends.length=rb):=iy;rw[iy];clear hn gT iy
 go_enter Tryz.func212,Tryz.ntmps212
 go_upto_region 1 with(fail);rw[<- bS.out];go_wp2
 go_loopw [9] (fun i wr=>∃k:Nat,k<=n.ends.length/\i=.int .i64 k/\y7 n k=false/\ab w0 wr) (fun i _=>n.ends.length-(intOf i).toNat)
 case atStart=>exact⟨0,Nat.zero_le _,rfl,rfl,aU⟩
 case round=>
  obtain⟨k,hk,rfl,jH,bG⟩:=hrel;have pc:=zh jH;have Hs:=zh bG;clear aU jH
  by_cases az:k<n.ends.length
  ·obtain⟨es,bM⟩:=aA n.ends k az;have dm:=bV Hn.out bM;have sI:=dm.1;have iG:n.ends.getD k []=es:=ao bM;obtain⟨b,tY,cr,ur,gh,wj,eD,vQ⟩:=fi H.out.es bM;cases gh;obtain⟨A1,z1,rfl,dh,dt,gh⟩:=vQ;unfold maxLen at dt;have qh:=zh gh;have r1:=ag (ae eD) Hs.out;have q5:=r1 wr (aa _);have iR:=zh iG;have m4:IntKind.i64.wrap ((k:Int)+1)=(k:Int)+1:=aH _ (by omega) (by omega);clear bM dm eD gh iG;go_wp2
   go_loopw [18] (fun i wq=>∃j:Nat,j<=es.length/\i=.int .i64 j/\qR n k j=false/\ab w0 wq) (fun i _=>es.length-(intOf i).toNat)
   case atStart=>exact⟨0,Nat.zero_le _,rfl,rfl,Hs.out⟩
   case round=>
    obtain⟨j,hj,rfl,U0,nk⟩:=hrel;have U2:=zh U0;have i_:=zh nk;clear U0
    by_cases lq:j<es.length
    ·obtain⟨⟨x1,x2⟩,hx⟩:=aA es j lq;obtain⟨b1,mJ,rfl,ju,gC⟩:=qh.out j _ hx;have t1:=ae ju wr i_.out;have t2:=ae gC wr i_.out
     have Pf:fT n k j=(x1,x2):=by unfold fT;rw[iR.out];exact ao hx
     have m3:IntKind.i64.wrap ((j:Int)+1)=(j:Int)+1:=aH _ (by omega) (by omega);obtain⟨w8,jV⟩:∃w8,w8=wr.alloc (.cells #[.int .i64 x1,.int .i64 x2] 83):=⟨_,rfl⟩
     have kH:ab w0 w8:=by rw[jV];exact ad _ i_.out
     have Gt:=zh jV
     have d0:∀W,ab w8 W->W.cell? ⟨wr.heap.size,0,none⟩=some (.int .i64 x1):=ae (by rw[jV];simp)
     have d1:∀W,ab w8 W->W.cell? ⟨wr.heap.size,1,none⟩=some (.int .i64 x2):=ae (by rw[jV];simp)
     have d00:=d0 w8 (aa _);have d11:=d1 w8 (aa _);have iS:=zh kH;have U3:=zh Pf;clear hx ju gC jV Pf d0 d1;go_upto_region 7 with(fail);rw[<- Gt.out];clear t1 t2;cases hg:pZ (x1,x2) ((k:Int),(j:Int))
     ·have Hn2:Hid (qR n k (j+1)=false):=by
       show _=_
       unfold qR;rw[List.range_succ,List.any_append,show(List.range j).any (fun i=>decide (fT n k i=((k:Int),(i:Int))))=false from U2.out]
       simp only[List.any_cons,List.any_nil,Bool.or_false,Bool.false_or,U3.out];exact hg
      go_wp2;go_roundw
      case rel=>exact⟨j+1,by omega,by first | rfl | go_num,Hn2.out,iS.out⟩
      case measure=>simp[intOf];omega
     ·have hb:rb=true:=by
       rw[<- iH.out]
       refine FJ az (FJ (v:=j) (by rw[iR.out];exact lq) ?_)
       rw[U3.out];exact hg
      subst hb;go_wp2;go_ret;exact⟨rfl,ab.after aT.out iS.out⟩
    ·obtain rfl:j=es.length:=by omega
     have Hn3:Hid (y7 n (k+1)=false):=by
      show _=_
      unfold y7;rw[List.range_succ,List.any_append,show(List.range k).any (fun v=>qR n v (n.ends.getD v []).length)=false from pc.out]
      simp only[List.any_cons,List.any_nil,Bool.or_false,Bool.false_or];rw[iR.out];exact U2.out
     go_wp2;go_roundw
     case rel=>exact⟨k+1,by omega,by first | rfl | go_num,Hn3.out,i_.out⟩
     case measure=>simp[intOf];omega
  ·obtain rfl:k=n.ends.length:=by omega
   have hb:rb=false:=by rw[<- iH.out];exact pc.out
   subst hb;go_wp2;go_ret;exact⟨rfl,ab.after aT.out Hs.out⟩
def eu (xs:List Int) (x:Int) (k:Nat):List Int:=((List.range k).filter fun i=>decide (xs.getD i 0=x)).map Int.ofNat
theorem wP (xs:List Int) (x:Int) (k:Nat):eu xs x (k+1)=eu xs x k++(if xs.getD k 0=x then [(k:Int)] else []):=by
 unfold eu;rw[List.range_succ,List.filter_append,List.map_append];congr 1
 by_cases h:xs.getD k 0=x
 ·rw[if_pos h,List.filter_cons_of_pos (by simpa using h)];rfl
 ·rw[if_neg h,List.filter_cons_of_neg (by simpa using h)];rfl
theorem qS (xs:List Int) (x:Int) (k:Nat):(eu xs x k).length<=k:=by
 unfold eu;rw[List.length_map];exact Nat.le_trans (List.length_filter_le _ _) (by simp)
theorem sn (v:Value) (xs:List Int) (x:Int) (w:World) (h:aO w v xs) (hl:xs.length<=1000000):
  Calls Tryz.prog 171 #[v,.int .i64 x] w fun e w'=>∃u,e=.returned u/\Own w' w.heap.size u (eu xs x xs.length)/\Below w.heap.size w w':=by
 have HX:=zh h;obtain⟨A,c,rfl,fg,hm,hA⟩:=h;unfold maxLen at hm;have HA:=zh hA;clear hA
 go_enter Tryz.func171,Tryz.ntmps171
 go_wp2
 go_loopw [5,10] (fun u i wr=>∃k:Nat,k<=xs.length/\i=.int .i64 k/\Own wr w.heap.size u (eu xs x k)/\ab w wr) (fun _ i _=>xs.length-(intOf i).toNat)
 case atStart=>exact⟨0,Nat.zero_le _,rfl,bU _ _,aa _⟩
 case round=>
  obtain⟨k,hk,rfl,ho,bG⟩:=hrel;have Ho:=zh ho;have Hs:=zh bG;clear ho bG
  by_cases az:k<xs.length
  ·obtain⟨y,hy⟩:=aA xs k az;obtain⟨b,off,rfl,hc⟩:=HA.out k y hy;have d0:=Hs.out.cell hc;have m3:IntKind.i64.wrap ((k:Int)+1)=(k:Int)+1:=aH _ (by omega) (by omega);have jU:=wP xs x k;rw[ao hy]at jU
   have dz:Hid ((eu xs x k).length+1<=17592186044416):=by show _<=_;have:=qS xs x k;omega
   clear hy hc
   by_cases he:y=x
   ·subst he;rw[if_pos rfl]at jU;have kG:=zh jU;clear jU
    go_wp2_with (at_builtin;refine c_ rfl _ _ rfl rfl (Ho.out.since (ad _ (aa _))) wr.heap.size k rfl (by simp[go_sem]) dz.out (ad _ Hs.out) ?_;intro g cc w3 ex jJ)
    have jy:=zh ex;have gZ:=zh jJ;clear ex jJ;go_wp2;go_roundw
    case rel=>exact⟨k+1,by omega,by first | rfl | go_num,by rw[kG.out];have:=jy.out;simpa using this,gZ.out⟩
    case measure=>simp[intOf];omega
   ·have ln:(y==x)=false:=by simpa using he
    rw[if_neg he,List.append_nil]at jU;have kG:=zh jU;clear jU he;go_wp2;go_roundw
    case rel=>exact⟨k+1,by omega,by first | rfl | go_num,by rw[kG.out];exact Ho.out,Hs.out⟩
    case measure=>simp[intOf];omega
  ·obtain rfl:k=xs.length:=by omega
   clear hk az;go_wp2;go_ret;exact⟨_,rfl,Ho.out,Hs.out⟩
theorem xW {n:aj} (h:ak n=true):n.acn.length=n.ends.length/\∀x∈n.acn,0<=x/\x<=9:=by
 unfold ak fe at h
 simp only[Bool.and_eq_true,List.all_eq_true,beq_iff_eq]at h;exact⟨by omega,fun x hx=>bz.1 (h.1.2.2 x hx)⟩
def Eb (n:aj) (k:Nat):Prop:=∀v,v<k->qH n v=true
theorem Ec {n:aj} (h:Eb n n.ends.length):iU n=true:=by
 unfold iU;rw[List.all_eq_true];exact fun v hv=>h v (List.mem_range.1 hv)
theorem uO (ve vi vn:Value) (n:aj) (w:World) (h:aC w ve vi vn n) (hn:ak n=true):
  Calls Tryz.prog 165 #[.agg #[ve,vi,vn]] w fun e w'=>∃u,e=.returned (.tuple #[u,.bool (iU n)])/\Own w' w.heap.size u (if iU n=true then m_ n n.ends.length else [])/\Below w.heap.size w w':=by
 have gT:=aB hn;have ul:=gT.1;have uq:=gT.2;have d_:=xW hn;have sk:=zh d_.1;have Hn:=zh hn
 obtain⟨w0,A,c,A2,c2,A3,c3,rfl,rfl,rfl,fg,hm,f8,fP,HA,bS,aT,H,dP,d9,dV⟩:=zB h;clear h
 have aU:ab w0 w0:=aa _;obtain⟨rb,iy⟩:∃rb,iU n=rb:=⟨_,rfl⟩
 have iH:=zh iy;rw[iy];clear hn gT iy d_
 go_enter Tryz.func165,Tryz.ntmps165
 go_upto_region 1 with(fail);rw[<- bS.out];go_wp2_with fail;refine(iC _ _ _ n w0 H.out Hn.out).mono ?_;rintro e w2 ⟨u2,rfl,cZ,bx⟩
 obtain⟨gc,cc,rfl⟩:∃gc cc,u2=.slice (some ⟨gc,0,none⟩) n.ends.length cc:=by
  obtain⟨x,hx⟩:=aA (bW n) 0 (by simp[bW];omega)
  obtain⟨g,c,h1,-⟩:=nS cZ hx
  exact⟨g,c,by rw[h1];simp[bW]⟩
 have fG:=zh cZ;have cW:Hid (ab w0 w2):=bx;clear cZ bx aU;go_wp2
 go_loopw [5,15] (fun u i wr=>∃k:Nat,k<=n.ends.length/\i=.int .i64 k/\Own wr w2.heap.size u (m_ n k)/\Eb n k/\ab w2 wr) (fun _ i _=>n.ends.length-(intOf i).toNat)
 case atStart=>exact⟨0,Nat.zero_le _,rfl,bU _ _,fun v hv=>by omega,aa _⟩
 case round=>
  obtain⟨k,hk,rfl,ho,Pa,bG⟩:=hrel;have Ho:=zh ho;have U4:=zh Pa;have Hs:=zh bG;clear ho Pa bG
  by_cases az:k<n.ends.length
  ·have m3:IntKind.i64.wrap ((k:Int)+1)=(k:Int)+1:=aH _ (by omega) (by omega);obtain⟨p,hp⟩:∃p,am n k=p:=⟨_,rfl⟩
   have c1:=ae ((fG.out.since Hs.out).cell (show(bW n)[k]?=some (p:Int)by rw[<- hp];unfold bW;rw[List.getElem?_map,List.getElem?_range az];rfl))
   have jO:=c1 wr (aa _);have Hp:=zh hp
   have dz:Hid ((m_ n k).length+1<=17592186044416):=by show _<=_;rw[xK];omega
   have kG:=zh (DP n k);clear hp;go_wp2
   go_loopw [8,21] (fun o i wq=>∃j:Nat,j<=n.ends.length/\i=.int .i64 j/\o=.int .i64 (jB n p j)/\(dx n p j).length<=1/\ab wr wq) (fun _ i _=>n.ends.length-(intOf i).toNat)
   case atStart=>exact⟨0,Nat.zero_le _,rfl,rfl,by simp[dx],aa _⟩
   case round=>
    obtain⟨j,hj,rfl,rfl,U5,nk⟩:=hrel;have U6:=zh U5;have i_:=zh nk;clear U5 nk;have IF:=Bp n p j
    by_cases lq:j<n.ends.length
    ·have m2:IntKind.i64.wrap ((j:Int)+1)=(j:Int)+1:=aH _ (by omega) (by omega);obtain⟨q,hq⟩:∃q,am n j=q:=⟨_,rfl⟩
     have Kw:=zh (Hs.out.after i_.out)
     have e1:=ae ((fG.out.since Kw.out).cell (show(bW n)[j]?=some (q:Int)by rw[<- hq];unfold bW;rw[List.getElem?_map,List.getElem?_range lq];rfl))
     have Ee:=e1 wr (aa _);have Kv:=zh (cW.out.after Kw.out)
     obtain⟨x,hx⟩:=aA n.acn j (by rw[sk.out];omega)
     obtain⟨A9,c9,e9,-,-,FK⟩:=H.out.ns;cases e9;obtain⟨b9,abT,e8,SI⟩:=FK j x hx;subst e8;have i1:=ae (bc Kv.out SI)
     have nH:j<n.acn.length:=by rw[sk.out];exact lq
     have q2:=ag dV Kv.out
     have iJ:mZ n p j=(decide (q=p)&&decide (x=1)):=by unfold mZ;rw[hq,ao hx]
     have Hq:=zh hq;have D_:=zh iJ;obtain⟨ow,QW⟩:∃ow,jB n p j=ow:=⟨_,rfl⟩
     have U7:=zh QW;rw[QW]at IF ⊢;clear hq hx FK SI iJ QW;go_upto_region 10 with(fail);refine aE 11 (ab wr) (aa _) ?_;simp only[zT]
     iterate 4 (refine b_ rfl ?_;simp only[zA])
     iterate 6 (refine iL rfl rfl ?_;simp only[zA])
     (first | refine dE rfl rfl ?_ | (refine b_ rfl ?_));simp only[zA]
     intro W hW;have HW:=zh (i_.out.after hW);clear hW c1 e1 i1 q2 jO Ee
     cases hg:((q:Int) != (p:Int)||x != 1)
     ·have Ef:mZ n p j=true:=by
       rw[D_.out];simp only[Bool.or_eq_false_iff,bne_eq_false_iff_eq]at hg
       rw[decide_eq_true (by omega),decide_eq_true hg.2];rfl
      by_cases h0:0<=ow
      ·have kY:(0<=ow)=True:=by simp[h0]
       have jH:=uA az (by rw[Hp.out];exact GL Ef (by rw[U7.out];omega) lq)
       rw[iH.out]at jH;subst jH;clear Ef;go_wp2
       go_ret2
       exact⟨.slice none 0 0,rfl,by simpa using bU _ _,ab.after aT.out (cW.out.after (Hs.out.after HW.out))⟩
      ·have kY:(0<=ow)=False:=by simp[h0]
       have Ys:ow<0:=by omega
       obtain⟨f1,f2⟩:=Bq Ef (by rw[U7.out];omega)
       have F1:=zh f1;have F2:=zh f2;clear Ef f1 f2 h0;go_wp2;go_roundw
       case rel=>exact⟨j+1,by omega,by first | rfl | go_num,by rw[F2.out],by rw[F1.out];exact Nat.le_refl _,HW.out⟩
       case measure=>simp[intOf];omega
     ·have Ef:mZ n p j=false:=by
       rw[D_.out,Bool.eq_false_iff];intro hc;simp only[Bool.and_eq_true,decide_eq_true_eq]at hc;simp only[Bool.or_eq_true,bne_iff_ne,ne_eq]at hg;omega
      obtain⟨f1,f2⟩:=DO Ef;have F1:=zh f1;have F2:=zh f2;clear Ef f1 f2;go_wp2;go_roundw
      case rel=>exact⟨j+1,by omega,by first | rfl | go_num,by rw[F2.out,U7.out],by rw[F1.out];exact U6.out,HW.out⟩
      case measure=>simp[intOf];omega
    ·obtain rfl:j=n.ends.length:=by omega
     have Kw:=zh (Hs.out.after i_.out);obtain⟨ow,QW⟩:∃ow,jB n p n.ends.length=ow:=⟨_,rfl⟩
     have QX:=zh (rG n p n.ends.length);rw[QW]at IF QX ⊢
     have U7:Hid (jP n k=ow):=by show _=_;unfold jP;rw[Hp.out];exact QW
     clear QW hj lq
     by_cases h0:ow<0
     ·have kY:(ow<0)=True:=by simp[h0]
      have jH:=uA az (by rw[Hp.out];unfold pp;rw[QX.out.1 h0];omega)
      rw[iH.out]at jH;subst jH;go_wp2
      go_ret2
      exact⟨.slice none 0 0,rfl,by simpa using bU _ _,ab.after aT.out (cW.out.after Kw.out)⟩
     ·have kY:(ow<0)=False:=by simp[h0]
      have Ys:0<=ow:=by omega
      have wQ:Hid (Eb n (k+1)):=fun v hv=>by
       rcases Nat.lt_or_ge v k with h1 | h1
       ·exact U4.out v h1
       ·rw[show v=k by omega]
        unfold qH pp
        rw[Hp.out,beq_iff_eq];have h5:=U6.out;have h6:(dx n p n.ends.length).length≠0:=fun e=>h0 (QX.out.2 e)
        omega
      have Hox:=zh (Ho.out.since i_.out);clear h0
      go_wp2_with (at_builtin;refine c_ rfl _ _ rfl rfl (Hox.out.since (ad _ (aa _))) wr.heap.size ow rfl (by simp[go_sem]) dz.out (ad _ Kw.out) ?_;intro g cx w4 mW zI)
      have vN:=zh mW;have te:=zh zI;clear mW zI;go_wp2;go_roundw
      case rel=>exact⟨k+1,by omega,by first | rfl | go_num,by rw[kG.out,U7.out];have:=vN.out;simpa using this,wQ.out,te.out⟩
      case measure=>simp[intOf];omega
  ·obtain rfl:k=n.ends.length:=by omega
   have CU:=Ec U4.out;rw[iH.out]at CU;subst CU;go_wp2
   go_ret2
   exact⟨_,rfl,Ho.out.mono (Nat.le_trans aT.out.size cW.out.below.size),ab.after aT.out (cW.out.after Hs.out)⟩
def QA (W:World) (base g off cap:Nat) (xs:List Int):Prop:=
 base<=g/\xs.length<=cap/\cap<=maxLen/\∃cur:Array Value,W.heap[g]?=some (.cells cur 3 (0,0))/\off+cap<=cur.size/\∀j x,xs[j]?=some x->cur[off+j]?=some (.int .i64 x)
theorem QA.cell {W:World} {base g off cap:Nat} {xs:List Int} (h:QA W base g off cap xs) {j:Nat} {x:Int} (hx:xs[j]?=some x):W.cell? ⟨g,off+j,none⟩=some (.int .i64 x):=by
 obtain⟨-,-,-,cur,h1,-,h3⟩:=h;simp[World.cell?,h1,h3 j x hx]
theorem QA.lt {W:World} {base g off cap:Nat} {xs:List Int} (h:QA W base g off cap xs):g<W.heap.size:=by
 obtain⟨-,-,-,cur,h1,-⟩:=h;exact(Array.getElem?_eq_some_iff.1 h1).1
theorem QA.aco {W W':World} {base g off cap:Nat} {xs:List Int} (h:QA W base g off cap xs) (hs:W'.heap[g]?=W.heap[g]?):QA W' base g off cap xs:=by
 obtain⟨h1,h2,h3,cur,h4,h5⟩:=h;exact⟨h1,h2,h3,cur,hs.trans h4,h5⟩
theorem QA.since {W W':World} {base g off cap:Nat} {xs:List Int} (h:QA W base g off cap xs) (hs:ab W W'):QA W' base g off cap xs:=h.aco (hs.below.block g h.lt)
theorem QA.other {W:World} {base g off cap:Nat} {xs:List Int} (h:QA W base g off cap xs) {b:Nat} (hb:g≠b) (k:Nat) (v:Value):QA (W.setCell ⟨b,k,none⟩ v) base g off cap xs:=h.aco (Below.heap_setCell W _ v g hb)
theorem QA.tail {W:World} {base g off cap:Nat} {x:Int} {xs:List Int} (h:QA W base g off cap (x::xs)):QA W base g (off+1) (cap-1) xs:=by
 obtain⟨h1,h2,h3,cur,h4,h5,h6⟩:=h;rw[List.length_cons]at h2
 exact⟨h1,by omega,by omega,cur,h4,by omega,fun j y hy=>by
  have:=h6 (j+1) y (by simpa using hy)
  rwa [show off+(j+1)=off+1+j by omega]at this⟩
theorem QA.nil {W:World} {base g off cap:Nat} {xs:List Int} (h:QA W base g off cap xs):QA W base g off 0 []:=by
 obtain⟨h1,h2,h3,cur,h4,h5,h6⟩:=h;exact⟨h1,Nat.le_refl _,Nat.zero_le _,cur,h4,by omega,fun j y hy=>by simp at hy⟩
theorem QA.one (W:World) (base:Nat) (x:Int) (h:base<=W.heap.size):QA (W.alloc (.cells #[.int .i64 x] 3)) base W.heap.size 0 1 [x]:=by
 refine⟨h,Nat.le_refl _,by simp[maxLen],#[.int .i64 x],?_,by simp,fun j y hy=>?_⟩
 ·show(W.heap.push _)[W.heap.size]?=_
  rw[Array.getElem?_push_size]
 ·have:=al hy
  simp at this
  subst this;simpa using hy
theorem U8 {w w0:World} {ops:Array Oper} {rest:List Oper} {o:Oper} {a:Act} {Q:Exit->Act->World->Prop} (iG:o.guard=none) (s x:Operand)
  (ho:o.op=.call { callee:=.builtin .append,args:=#[s,x],argTypes:=#[25,25] }) {g off cap:Nat} {xs:List Int} (hs:a.eval s=.slice (some ⟨g,off,none⟩) xs.length cap) (h:QA w w0.heap.size g off cap xs) (b:Nat) (y:Int)
  (hx:a.eval x=.slice (some ⟨b,0,none⟩) 1 1) (hc:w.cell? ⟨b,0,none⟩=some (.int .i64 y)) (hl:xs.length+1<=1000000) (vK:ab w0 w)
  (k:∀g' n7 sD w',QA w' w0.heap.size g' n7 sD (xs++[y])->aX [g] w w'->(g'=g\/w.heap.size<=g')->ab w0 w'->wpList Tryz.prog ops Q rest (a.put o.dst (.slice (some ⟨g',n7,none⟩) (xs.length+1) sD)) w'):wpList Tryz.prog ops Q (o::rest) a w:=by
 obtain⟨i0,hi,gx,dh,dt⟩:=info_parts jt;have hq:=h;obtain⟨h1,h2,h3,cur,h4,h5,h6⟩:=h
 refine wpList_append_arg w iG s x 25 ho 3 i0 (.int .i64 0) 1 8 Tryz.underlying25 hi gx dh dt rfl (by decide) g off xs.length cap (xs.map (Value.int .i64)) hs (by simp)
  (fun j u hj=>by
   rw[List.getElem?_map]at hj
   cases hxj:xs[j]? with
   | none=>rw[hxj]at hj;cases hj
   | some z=>rw[hxj]at hj;cases hj;exact hq.cell hxj)
  ⟨b,0,none⟩ 1 1 [.int .i64 y] hx rfl
  (fun j u hj=>by
   have:=al hj
   simp at this
   subst this;simp at hj
   subst hj;rw[Go.Addr.add_lit]
   exact hc)
  (by simp[Value.oneCell'])
  (fun hr j hj=>by
   simp at hj
   subst hj;have az:off+xs.length*1+0<cur.size:=by omega
   constructor
   ·simp[World.cell?,h4]
    omega
   ·simp[World.frozen?,h4])
  (by unfold maxLen;omega) (by omega) ?_ ?_
 ·intro hr;have az:off+xs.length<cur.size:=by omega
  have e:w.setCells g (off+xs.length*1) [.int .i64 y]=w.setCell ⟨g,off+xs.length,none⟩ (.int .i64 y):=by rw[Nat.mul_one];rfl
  rw[e]
  refine k g off cap _ ⟨h1,by simp;omega,h3,cur.setIfInBounds (off+xs.length) (.int .i64 y),?_,by simpa using h5,fun j z hj=>?_⟩ ((aX.refl _ _).setCell (.inl (by simp)) _) (.inl rfl) (Below.setCell vK h1 _)
  ·simp[World.setCell,Array.getElem?_modify,h4]
  ·by_cases e2:j=xs.length
   ·subst e2;simp at hj
    subst hj;simp[az]
   ·have xm:xs[j]?=some z:=by
     have sH:=al hj;rw[List.length_append,List.length_singleton]at sH
     rwa [List.getElem?_append_left (by omega)]at hj
    rw[Array.getElem?_setIfInBounds_ne (by omega)];exact h6 j z xm
 ·intro hr v' w' aI mp;rcases aI.2 with⟨rfl,hn⟩ | ⟨g',sD,Nb,rfl,hb',hg',OW,Bb,abU,htk⟩
  ·omega
  ·refine k g' 0 sD w' ⟨by have:=vK.below.size;omega,by simpa using OW,Bb,Nb,hg',by omega,fun j z hj=>?_⟩ ((aX.acq mp).mono (fun _ h=>by simp at h)) (.inr hb') (Below.trans vK ((aX.acq mp).below _ vK.below.size (fun _ h=>by simp at h)))
   have e3:(xs.map (Value.int .i64)++[.int .i64 y])[j]?=some (.int .i64 z):=by
    have:(xs.map (Value.int .i64)++[.int .i64 y])=(xs++[y]).map (Value.int .i64):=by simp
    rw[this,List.getElem?_map,hj];rfl
   rw[<- htk]at e3;have hj3:=al e3;rw[List.getElem?_take]at e3
   split at e3
   ·rw[Nat.zero_add];simpa using e3
   ·cases e3
theorem Own.acZ {W W':World} {base g:Nat} {u:Value} {xs:List Int} (h:Own W base u xs) (ho:aX [g] W W') (hd:u.ownBlock≠some g):Own W' base u xs:=
 aG h fun j hj=>ho.block j (World.ownsRow.lt h j (by simpa using hj)).2 (fun hs=>hd (by simp at hs;subst hs;simpa using hj))
theorem kZ (ve vi vn:Value) (n:aj) (v:Nat) (w:World) (h:aC w ve vi vn n) (hn:ak n=true) (hv:v<n.ends.length):
  Calls Tryz.prog 123 #[.agg #[ve,vi,vn],.int .i64 v] w fun e w'=>∃u,e=.returned u/\Own w' w.heap.size u (bC n v)/\Below w.heap.size w w':=by
 have gT:=aB hn;have Hn:=zh hn
 obtain⟨w0,A,c,A2,c2,A3,c3,rfl,rfl,rfl,fg,hm,f8,fP,HA,bS,aT,H,dP,d9,dV⟩:=zB h;clear h
 obtain⟨R,hR⟩:∃R,R=bC n v:=⟨_,rfl⟩
 have HR:=zh hR;rw[<- hR];clear hn hR
 go_enter Tryz.func123,Tryz.ntmps123
 go_upto_region 1 with(fail);rw[<- bS.out];go_wp2_with fail;refine(sg w0.heap.size 1 (-1) n.ends.length _ gT.1 (by omega) (by simp)).mono ?_;rintro e w1 ⟨u1,rfl,gR,aN⟩;rcases gR.cases with⟨-,e1⟩ | ⟨g,c1,rfl,kE,l7⟩
 ·have:=congrArg List.length e1;rw[List.length_replicate,List.length_nil]at this;omega
 rw[List.length_replicate]at gR ⊢;have dM:Hid (ab w0 w1):=ab.after (ad _ (aa _)) aN
 have Mc:Hid (w0.heap.size<=g):=by show _<=_;have:=kE;simp at this;omega
 have vS:Hid (Own w1 w0.heap.size (.slice (some ⟨g,0,none⟩) n.ends.length c1) (List.replicate n.ends.length (-1))):=gR.mono (by simp);have cz:=vS.out.cell (iq (show v<(List.replicate n.ends.length (-1:Int)).length by simpa using hv))
 have fz:=vS.out.free v;obtain⟨w3,i8⟩:∃w3,w3=w1.setCell ⟨g,v,none⟩ (.int .i64 0):=⟨_,rfl⟩
 have e3:w3.heap.size=w1.heap.size:=by rw[i8];simp
 have jy:Hid (Own w3 w0.heap.size (.slice (some ⟨g,0,none⟩) n.ends.length c1) (bn n v).1):=by rw[i8];exact vS.out.set (k:=v) 0
 have gZ:Hid (ab w0 w3):=by rw[i8];exact Below.setCell dM.out Mc.out _
 obtain⟨g2,QY⟩:∃g2,g2=w1.heap.size:=⟨_,rfl⟩
 obtain⟨w4,gU⟩:∃w4,w4=w3.alloc (.cells #[.int .i64 v] 3):=⟨_,rfl⟩
 have vN:Hid (Own w4 w0.heap.size (.slice (some ⟨g,0,none⟩) n.ends.length c1) (bn n v).1):=by rw[gU];exact jy.out.since (ad _ (aa _))
 have Hq4:Hid (QA w4 w0.heap.size g2 0 1 ((bn n v).2.drop 0)):=by
  rw[gU,QY,<- e3];exact QA.one w3 _ v gZ.out.below.size
 have te:Hid (ab w0 w4):=by rw[gU];exact ad _ gZ.out
 have mE:g2≠g:=by have:=(World.ownsRow.lt jy.out g rfl).2;omega
 have AC:=zh i8;have Ju:=zh gU;have yv:=zh QY;clear i8 gU QY e3 gR aN kE l7;go_upto_region 4 with(fail);rw[<- AC.out,<- yv.out,<- Ju.out];clear cz fz;go_wp2
 go_loopg [6] (n.ends.length+1) (fun f u wr=>∃(k:Nat) (st:List Int×List Int) (gu off cu:Nat),u=.slice (some ⟨gu,off,none⟩) (st.2.drop k).length cu/\gu≠g/\BI n.ends.length st/\qp n f st k=R/\n.ends.length+1<=f+k/\k<=st.2.length/\Own wr w0.heap.size (.slice (some ⟨g,0,none⟩) n.ends.length c1) st.1/\QA wr w0.heap.size gu off cu (st.2.drop k)/\ab w0 wr)
 case atStart=>exact⟨0,bn n v,g2,0,1,rfl,mE,BI.start hv,HR.out.symm,by omega,Nat.zero_le _,vN.out,Hq4.out,te.out⟩
 case round=>
  obtain⟨k,st,gu,off,cu,rfl,OY,AD,xt,hf,hk,ho,hq,hs⟩:=hrel;have O0:=zh AD;have Aa:=zh xt;have Ho:=zh ho;have Hq:=zh hq;have Hs:=zh hs;have vO:=AD.bd;clear AD xt ho hq hs mE
  by_cases az:k<st.2.length
  ·obtain⟨f,rfl⟩:∃f',gk=f'+1:=⟨gk-1,by omega⟩
   obtain⟨x,hx⟩:=aA st.2 k az;have yw:=O0.out.walk x (List.mem_of_getElem? hx);obtain⟨c',rfl⟩:=Int.eq_ofNat_of_zero_le yw.1;have hc:c'<n.ends.length:=by omega
   have CL:st.2.drop k=(c':Int)::st.2.drop (k+1):=by
    rw[List.drop_eq_getElem_cons az];congr 1
    exact(List.getElem?_eq_some_iff.1 hx).2
   have Pg:Hid (QA wr w0.heap.size gu off cu ((c':Int)::st.2.drop (k+1))):=by rw[<- CL];exact Hq.out
   obtain⟨ql,BK⟩:∃ql,ql=(st.2.drop (k+1)).length:=⟨_,rfl⟩
   have e0:(st.2.drop k).length=ql+1:=by rw[CL,BK];rfl
   rw[e0];have cx:=Pg.out.cell (j:=0) rfl;rw[Nat.add_zero]at cx
   have eQ:ql+1<=cu:=by have:=Pg.out.2.1;rw[List.length_cons,<- BK]at this;exact this
   have TO:Hid (st.2.getD k 0=(c':Int)):=by show _=_;rw[zDd,hx];rfl
   have Hx:=zh hx;have Hql:=zh BK
   obtain⟨Yt,eo,Md⟩:∃Yt:Nat,(if cu=1 then some (⟨gu,off,none⟩:Addr) else some ⟨gu,off+1,none⟩)=some ⟨gu,Yt,none⟩/\QA wr w0.heap.size gu Yt (cu-1) (st.2.drop (k+1)):=by
    by_cases h1:cu=1
    ·refine⟨off,by rw[if_pos h1],?_⟩
     have hz:st.2.drop (k+1)=[]:=List.eq_nil_of_length_eq_zero (by omega);rw[hz,h1];exact Pg.out.nil
    ·exact⟨off+1,by rw[if_neg h1],Pg.out.tail⟩
   have U9:=zh Md;obtain⟨es,bM⟩:=aA n.ends c' hc;obtain⟨sI,Ph⟩:=bV Hn.out bM;have jZ:=zh bM;have U_:=zh Ph;obtain⟨i9,rD⟩:∃s,s=dW n c':=⟨_,rfl⟩
   have n_:Hid (es.map (fun e=>e.1)=i9):=by show _=_;rw[rD,dW,Int.toNat_natCast,zDd,bM];rfl
   have Jw:=zh rD;have O2:Hid (∀j,∃ys,((i9.take j).foldl (aQ c') st).2=st.2++ys):=fun j=>jg _ _ _
   obtain⟨b,tY,cr,ur,gh,wj,eD,dm⟩:=fi H.out.es bM;cases gh;obtain⟨A1,z1,rfl,dh,dt,gh⟩:=dm;unfold maxLen at dt;have qh:=zh gh;have r1:=ag (ae eD) Hs.out;have q0:=dP wr Hs.out;have q5:=r1 wr (aa _);clear hx CL BK e0 Hq Md bM Ph rD eD gh;go_upto_region 7 with(fail)
   (try rw[eo])
   clear cx eo;clear eQ;go_wp2
   go_loopw [6,34] (fun u i wr=>∃(j gv ov cv:Nat) (dp:List Int×List Int),j<=es.length/\i=.int .i64 j/\dp=(i9.take j).foldl (aQ c') st/\u=.slice (some ⟨gv,ov,none⟩) (dp.2.drop (k+1)).length cv/\gv≠g/\BI n.ends.length dp/\Own wr w0.heap.size (.slice (some ⟨g,0,none⟩) n.ends.length c1) dp.1/\QA wr w0.heap.size gv ov cv (dp.2.drop (k+1))/\ab w0 wr) (fun _ i _=>es.length-(intOf i).toNat)
   case atStart=>exact⟨0,gu,Yt,cu-1,st,Nat.zero_le _,rfl,rfl,by rw[Hql.out],OY,O0.out,Ho.out,U9.out,Hs.out⟩
   case round=>
    obtain⟨j,gv,ov,cv,dp,hj,rfl,tV,rfl,kF,tW,kR,Pj,MM⟩:=hrel;have mP:=zh tW;have AH:=zh kR;have Hq':=zh Pj;have IJ:=zh MM;have oe:=zh tV;have TQ:=tW.bd;clear tV tW kR Pj MM OY
    by_cases lq:j<es.length
    ·obtain⟨⟨x1,x2⟩,hx⟩:=aA es j lq;obtain⟨b1,mJ,rfl,ju,gC⟩:=qh.out j _ hx;obtain⟨i1,i2⟩:=U_.out _ (List.mem_of_getElem? hx);simp only at i1 i2
     obtain⟨d,rfl⟩:=Int.eq_ofNat_of_zero_le i1;have hd:d<n.ends.length:=by omega
     have hy:i9[j]?=some (d:Int):=by rw[<- n_.out,List.getElem?_map,hx];rfl
     have vP:dp.1.length=n.ends.length:=mP.out.len;have t1:=ae ju wr IJ.out;have t2:=ae gC wr IJ.out;obtain⟨w8,jV⟩:∃w8,w8=wr.alloc (.cells #[.int .i64 d,.int .i64 x2] 83):=⟨_,rfl⟩
     obtain⟨be,ln⟩:∃be,be=wr.heap.size:=⟨_,rfl⟩
     have pR:Hid (Own w8 w0.heap.size (.slice (some ⟨g,0,none⟩) n.ends.length c1) dp.1):=by rw[jV];exact AH.out.since (ad _ (aa _))
     have Hq8:Hid (QA w8 w0.heap.size gv ov cv (dp.2.drop (k+1))):=by rw[jV];exact Hq'.out.since (ad _ (aa _))
     have iS:Hid (ab w0 w8):=by rw[jV];exact ad _ IJ.out
     have d0:∀W,ab w8 W->W.cell? ⟨be,0,none⟩=some (.int .i64 d):=ae (by rw[jV,ln];simp)
     have dd:=ae (pR.out.cell (iq (show d<dp.1.length by omega)))
     have dc:=ae (pR.out.cell (iq (show c'<dp.1.length by omega)))
     obtain⟨z,hz⟩:∃z,z=dp.1.getD d 0:=⟨_,rfl⟩
     obtain⟨q,hq⟩:∃q,q=dp.1.getD c' 0:=⟨_,rfl⟩
     rw[<- hz]at dd;rw[<- hq]at dc
     have ZO : -1<=q/\q<dp.2.length:=by rw[hq];exact mP.out.val _ (List.mem_of_getElem? (iq (show c'<dp.1.length by omega)))
     have cd:=dd w8 (aa _);have ce:=d0 w8 (aa _);have Hz:=zh hz;have Hqd:=zh hq
     have pP:Hid ((i9.take (j+1)).foldl (aQ c') st=aQ c' dp d):=by show _=_;rw[rv hy,<- oe.out]
     have Sx:=zh vP;have Gt:=zh jV;have Sz:=zh ln;have m3:IntKind.i64.wrap ((j:Int)+1)=(j:Int)+1:=aH _ (by omega) (by omega);clear hz hq hy hx vP jV ln ju gC i1;go_upto_region 10 with(fail);rw[<- Gt.out,<- Sz.out];clear t1 t2
     by_cases mv:z<0
     ·have m4:IntKind.i64.wrap (q+1)=q+1:=aH _ (by omega) (by omega)
      have tX:Hid (aQ c' dp d=(dp.1.set d (q+1),dp.2++[(d:Int)])):=by show _=_;unfold aQ;rw[Int.toNat_natCast,Int.toNat_natCast,<- Hz.out,if_pos mv,<- Hqd.out]
      have TR:Hid (BI n.ends.length (aQ c' dp d)):=mP.out.step (by omega) (by omega);obtain⟨ys,zE⟩:=O2.out j
      have pQ:k+1<=dp.2.length:=by rw[oe.out,zE,List.length_append];omega
      have Pk:Hid ((dp.2++[(d:Int)]).drop (k+1)=dp.2.drop (k+1)++[(d:Int)]):=List.drop_append_of_le_length pQ
      have dz:Hid ((dp.2.drop (k+1)).length+1<=1000000):=by show _<=_;rw[List.length_drop];omega
      have Fm:=zh kF;clear zE pQ;go_upto_region 11 with(fail);refine av 9 (ab w8) (by kernel_rfl) (by kernel_rfl) (by simp) (ah (aa _)) ?_;simp only[zT]
      iterate 9 (refine b_ rfl ?_;simp only[zA])
      intro W hW;have Du:=zh (pR.out.since hW);have HqW:=zh (Hq8.out.since hW);have Yf:=zh (iS.out.after hW);have eW:=d0 W hW;have fd:=Du.out.free d;have cdW:=dd W hW;obtain⟨w9,wR⟩:∃w9,w9=W.setCell ⟨g,d,none⟩ (.int .i64 (q+1)):=⟨_,rfl⟩
      have tg:Hid (Own w9 w0.heap.size (.slice (some ⟨g,0,none⟩) n.ends.length c1) (dp.1.set d (q+1))):=by rw[wR];exact Du.out.set (k:=d) (q+1)
      have Hq9:Hid (QA w9 w0.heap.size gv ov cv (dp.2.drop (k+1))):=by rw[wR];exact HqW.out.other kF _ _
      have Dv:Hid (ab w0 w9):=by rw[wR];exact Below.setCell Yf.out Mc.out _
      have hbg:be≠g:=by have:=(World.ownsRow.lt AH.out g rfl).2;rw[Sz.out];omega
      have e9:w9.cell? ⟨be,0,none⟩=some (.int .i64 d):=by
       rw[wR]
       have:=Below.heap_setCell W ⟨g,d,none⟩ (.int .i64 (q+1)) be (by simpa using hbg)
       unfold World.cell? at eW ⊢
       rw[this];exact eW
      have Hw9:=zh wR;clear hW wR d0 dd dc cd ce hbg;go_upto_region 12 with(fail);rw[<- Hw9.out];clear eW fd cdW m4
      go_wp2_with (at_builtin;refine U8 rfl _ _ rfl rfl (Hq9.out.since (ad _ (aa _))) w9.heap.size d rfl (by simp[go_sem]) dz.out (ad _ Dv.out) ?_;intro g7 o7 c7 w7 hq7 Va sK Vb)
      have Gn:Hid (Own w7 w0.heap.size (.slice (some ⟨g,0,none⟩) n.ends.length c1) (dp.1.set d (q+1))):=Own.acZ (tg.out.keep (ai w9 _)) Va (by simpa[Value.ownBlock]using Ne.symm Fm.out);have Hq7:=zh hq7;have Gp:=zh Vb;have JE:=zh (World.ownsRow.lt tg.out g rfl).2
      have TT:Hid (g7≠g):=by
       rcases sK with e | e
       ·rw[e];exact Fm.out
       ·simp at e;exact fun e2=>by have:=JE.out;omega
      clear hq7 Va sK Vb e9;go_wp2;go_roundw
      case rel=>exact⟨j+1,g7,o7,c7,aQ c' dp d,by omega,by go_num,pP.out.symm,by rw[tX.out,Pk.out];simp,TT.out,TR.out,by rw[tX.out];exact Gn.out,by rw[tX.out,Pk.out];exact Hq7.out,Gp.out⟩
      case measure=>simp[intOf];omega
     ·have AY:Hid (aQ c' dp d=dp):=by show _=_;unfold aQ;rw[Int.toNat_natCast,<- Hz.out,if_neg mv]
      clear d0 dd dc;go_wp2;go_roundw
      case rel=>exact⟨j+1,gv,ov,cv,dp,by omega,by go_num,by rw[pP.out,AY.out],rfl,kF,mP.out,pR.out,Hq8.out,iS.out⟩
      case measure=>simp[intOf];omega
    ·obtain rfl:j=es.length:=by omega
     have hsl:i9.length=es.length:=by rw[<- n_.out,List.length_map]
     have yB:Hid (dp=i9.foldl (aQ c') st):=by show _=_;rw[oe.out,<- hsl,List.take_length]
     have TU:Hid (qp n f dp (k+1)=R):=by
      show _=_
      rw[<- Aa.out,qp,if_pos az,TO.out,<- Jw.out,<- yB.out]
     have Qr:Hid (k+1<=dp.2.length):=by
      obtain⟨ys,zE⟩:=O2.out es.length;show _<=_
      rw[oe.out,zE,List.length_append];omega
     clear hsl;go_wp2
     go_roundg f
     case rel=>exact⟨k+1,dp,gv,ov,cv,rfl,kF,mP.out,TU.out,by omega,Qr.out,AH.out,Hq'.out,IJ.out⟩
     case measure=>omega
  ·have IT:st.2.drop k=[]:=List.drop_eq_nil_of_le (by omega)
   have TV:Hid (R=st.1):=by
    rw[<- Aa.out]
    obtain⟨f,rfl⟩ | h0:(∃f',gk=f'+1)\/gk=0:=by
     rcases Nat.eq_zero_or_pos gk with h | h
     ·exact .inr h
     ·exact .inl ⟨gk-1,by omega⟩
    ·show qp _ _ _ _=_
     rw[qp,if_neg az]
    ·subst h0;exact rfl
   rw[IT];go_wp2;go_ret
   exact⟨_,rfl,by rw[TV.out];exact Ho.out.mono aT.out.size,ab.after aT.out Hs.out⟩
theorem uQ (ve vi vn:Value) (n:aj) (w:World) (h:aC w ve vi vn n) (hn:ak n=true):
  Calls Tryz.prog 122 #[.agg #[ve,vi,vn]] w fun e w'=>∃u,e=.returned u/\Own w' w.heap.size u (bW n)/\Below w.heap.size w w':=by
 have gT:=aB hn;have ul:=gT.1;have uq:=gT.2;have Hn:=zh hn
 obtain⟨w0,A,c,A2,c2,A3,c3,rfl,rfl,rfl,fg,hm,f8,fP,HA,bS,aT,H,dP,d9,dV⟩:=zB h;clear h
 obtain⟨R,hR⟩:∃R,R=bW n:=⟨_,rfl⟩
 have HR:=zh hR;rw[<- hR];clear hn hR
 go_enter Tryz.func122,Tryz.ntmps122
 go_upto_region 1 with(fail);rw[<- bS.out];go_wp2_with fail;refine(sg w0.heap.size 1 (-1) n.ends.length _ gT.1 (by omega) (by simp)).mono ?_;rintro e w1 ⟨u1,rfl,gR,aN⟩;rcases gR.cases with⟨-,e1⟩ | ⟨g,c1,rfl,kE,l7⟩
 ·have:=congrArg List.length e1;rw[List.length_replicate,List.length_nil]at this;omega
 rw[List.length_replicate]at gR ⊢;have dM:Hid (ab w0 w1):=ab.after (ad _ (aa _)) aN
 have Mc:Hid (w0.heap.size<=g):=by show _<=_;have:=kE;simp at this;omega
 have Hg1:Hid (g<w1.heap.size):=(World.ownsRow.lt gR g (by simp[Value.ownBlock])).2
 have vS:Hid (Own w1 w0.heap.size (.slice (some ⟨g,0,none⟩) n.ends.length c1) (fH n 0 0)):=by rw[Ao];exact gR.mono (by simp)
 clear gR aN kE l7 gT;go_wp2
 go_loopw [14] (fun i wr=>∃k:Nat,k<=n.ends.length/\i=.int .i64 k/\Own wr w0.heap.size (.slice (some ⟨g,0,none⟩) n.ends.length c1) (fH n k 0)/\ab w0 wr/\g<wr.heap.size) (fun i _=>n.ends.length-(intOf i).toNat)
 case atStart=>exact⟨0,Nat.zero_le _,rfl,vS.out,dM.out,Hg1.out⟩
 case round=>
  obtain⟨k,hk,rfl,ho,bG,vJ⟩:=hrel;have Ho:=zh ho;have Hs:=zh bG;have Hg:=zh vJ;clear ho bG vJ
  by_cases az:k<n.ends.length
  ·obtain⟨x,hx,n9⟩:=As Hn.out az;have cz:=Ho.out.cell hx;have m1:IntKind.i64.wrap ((k:Int)+1)=(k:Int)+1:=aH _ (by omega) (by omega);have Hx:=zh hx;clear hx
   by_cases hr:am n k=k
   ·have lp:¬0<=x:=fun h=>n9.1 h hr
    have pN:(0<=x)=False:=by simp[lp]
    have sa:x<0:=by omega
    have Hr:=zh hr;have Pl:=Hs.out;clear n9 hr lp;go_wp2_with fail;refine(kZ _ _ _ n k wr (H.out.keep Hs.out.below) Hn.out az).mono ?_;obtain⟨ds,xF⟩:∃ds,ds=bC n k:=⟨_,rfl⟩
    rw[<- xF];rintro e w2 ⟨u2,rfl,cZ,bx⟩
    have zF:ds.length=n.ends.length:=by rw[xF];exact j2 Hn.out _ _ _ (BI.start az)
    obtain⟨gd,cd,rfl,iG⟩:∃gd cd,u2=.slice (some ⟨gd,0,none⟩) n.ends.length cd/\wr.heap.size<=gd:=by
     rcases cZ.cases with⟨-,e1⟩ | ⟨gd,cd,rfl,kE,l7⟩
     ·have:=congrArg List.length e1;rw[List.length_nil]at this;omega
     ·exact⟨gd,cd,by rw[zF],kE⟩
    have iJ:gd≠g:=by have:=Hg.out;omega
    have D_:=zh iJ;have fG:=zh cZ;have cW:=zh (ab.after Hs.out bx);have Hoo:=zh (Ho.out.since bx);have yv:Hid (g<w2.heap.size):=Nat.lt_of_lt_of_le Hg.out bx.size;have T_:=zh xF;have Qt:=zh zF;clear cZ bx iG iJ xF zF cz Pl;go_wp2
    go_loopw [26] (fun i wq=>∃j:Nat,j<=n.ends.length/\i=.int .i64 j/\Own wq w0.heap.size (.slice (some ⟨g,0,none⟩) n.ends.length c1) (fH n k j)/\Own wq wr.heap.size (.slice (some ⟨gd,0,none⟩) n.ends.length cd) ds/\ab w0 wq/\g<wq.heap.size) (fun i _=>n.ends.length-(intOf i).toNat)
    case atStart=>exact⟨0,Nat.zero_le _,rfl,Hoo.out,fG.out,cW.out,yv.out⟩
    case round=>
     obtain⟨j,hj,rfl,Vc,hdq,nk,SJ⟩:=hrel;have Vd:=zh Vc;have Hdq:=zh hdq;have i_:=zh nk;have Ve:=zh SJ;clear Vc hdq nk SJ
     by_cases lq:j<n.ends.length
     ·obtain⟨d,hd⟩:=aA ds j (by rw[Qt.out];exact lq)
      obtain⟨y,hy⟩:=aA (fH n k j) j (by rw[dR];exact lq)
      have JM:=Hdq.out.cell hd;have cy:=Vd.out.cell hy;have fy:=Vd.out.free j
      have vM:(bC n k).getD j 0=d:=by rw[<- T_.out];exact ao hd
      have m2:IntKind.i64.wrap ((j:Int)+1)=(j:Int)+1:=aH _ (by omega) (by omega)
      by_cases h0:0<=d
      ·have Hp:=zh (Dp Hn.out az lq Hr.out (by rw[vM];exact h0))
       have h1:(0<=d)=True:=by simp[h0]
       clear hd hy vM;go_wp2;go_roundw
       case rel=>exact⟨j+1,by omega,by first | rfl | go_num,by rw[<- Hp.out];exact Vd.out.set (k:=j) (k:Int),nL Hdq.out (by simp[Value.ownBlock,D_.out]) _,Below.setCell i_.out Mc.out _,by simpa using Ve.out⟩
       case measure=>simp[intOf];omega
      ·have Hp:=zh (Aw Hn.out az lq Hr.out (by rw[vM];exact h0))
       have h1:(0<=d)=False:=by simp[h0]
       have h2:d<0:=by omega
       clear hd hy vM h0;go_wp2;go_roundw
       case rel=>exact⟨j+1,by omega,by first | rfl | go_num,by rw[<- Hp.out];exact Vd.out,Hdq.out,i_.out,Ve.out⟩
       case measure=>simp[intOf];omega
     ·obtain rfl:j=n.ends.length:=by omega
      have pP:=zh (Ap n k);clear hj lq;go_wp2;go_roundw
      case rel=>exact⟨k+1,by omega,by first | rfl | go_num,by rw[<- pP.out];exact Vd.out,i_.out,Ve.out⟩
      case measure=>simp[intOf];omega
   ·have lp:0<=x:=n9.2 hr;have pN:(0<=x)=True:=by simp[lp]
    have Hsk:=zh (Ar Hn.out az hr);clear n9 hr;go_wp2;go_roundw
    case rel=>exact⟨k+1,by omega,by first | rfl | go_num,by rw[<- Hsk.out];exact Ho.out,Hs.out,Hg.out⟩
    case measure=>simp[intOf];omega
  ·obtain rfl:k=n.ends.length:=by omega
   have He:=zh (Do n (j:=0) Hn.out);clear hk az;go_wp2;go_ret
   exact⟨_,rfl,by rw[HR.out,<- He.out];exact Ho.out.mono aT.out.size,ab.after aT.out Hs.out⟩
open Go.Maps (Keyed)
def kI (p:Nat):Lit:=.int .i64 (p:Int)
def lI (z:Int):DataW Unit:=.lit (.int .i64 z)
structure abH (n:aj) (k:Nat) (D:DataW Unit):Prop where
 map:Maps.IsMap D
 val:∀p:Nat,D.atKey (kI p) (lI 0)=lI (rH n p k:Nat)
 keys:∀kl,Maps.has D kl=true->∃v,v<k/\kl=kI (am n v)
 all:∀v,v<k->Maps.has D (kI (am n v))=true
open Go.Maps (Keyed)
def slD:Value->Option (DataW Unit×List MemPlace)
 | .slice none n c=>some (.slice [lI 0,lI n,lI c] [],[])
 | .slice (some ⟨b,0,none⟩) n c=>some (.slice [lI (b+1),lI n,lI c] [],[])
 | _=>none
def zD:DataW Unit:=.slice [lI 0,lI (0:Nat),lI (0:Nat)] []
structure abI (n:aj) (w:World) (B k kk:Nat) (D:DataW Unit) (U:Nat->Value):Prop where
 map:Maps.IsMap D
 val:∀p:Nat,slD (U p)=some (D.atKey (kI p) zD,[])
 own:∀p:Nat,Own w B (U p) ((dx n p k).map Int.ofNat)
 dis:∀(p q j:Nat),p≠q->(U p).ownBlock=some j->(U q).ownBlock≠some j
 keys:∀kl,Maps.has D kl=true->∃v,v<kk/\kl=kI (am n v)
 all:∀v,v<kk->Maps.has D (kI (am n v))=true
theorem bu.snoc {β:Type} {R:World->Nat->Value->β->List Nat->Prop} {e:TypeId} (L:fh R) {w w':World} {base g cap:Nat} {v u:Value} {xs:List β} {x:β} {S T:List Nat} (h:bu e R w base v xs S) (hu:R w base u x T) (hd:∀j∈T,j∉S)
  (vs:List Value) (Ss:List (List Nat)) (h1:w.ownsRow base e 1 v xs.length vs) (h2:Ss.length=xs.length) (h3:∀(k:Nat) u x T,vs[k]?=some u->xs[k]?=some x->Ss[k]?=some T->R w base u x T) (h4:S=v.ownBlock.toList++Ss.flatten) (h5:S.Nodup)
  (q1:w'.ownsRow base e 1 (.slice (some ⟨g,0,none⟩) (xs.length+1) cap) (xs.length+1) (vs++[u])) (q2:w.grownBy w' v.ownBlock) (q3:v.ownBlock=some g\/g=w.heap.size):
  ∃S',bu e R w' base (.slice (some ⟨g,0,none⟩) (xs.length+1) cap) (xs++[x]) S'/\(∀j∈S',j∈S\/j∈T\/j=w.heap.size):=by
 have hS:=(jv e L).range h;have hTr:=L.range hu;have CF:vs.length=xs.length:=by simpa using h1.1
 have tK:=h5;rw[h4,List.nodup_append]at tK
 have d_:∀j∈Ss.flatten,j∈S:=fun j hj=>by rw[h4];exact List.mem_append_right _ hj
 have eH:=aX.acq q2;have JB:∀j∈Ss.flatten,j∉v.ownBlock.toList:=fun j hj hv=>tK.2.2 j hv j hj rfl
 have Uv:∀j∈T,j∉v.ownBlock.toList:=fun j hj hv=>hd j hj (by rw[h4];exact List.mem_append_left _ hv)
 have hg:g∉Ss.flatten:=fun hg=>by
  rcases q3 with q3 | q3
  ·exact JB g hg (by rw[q3];simp)
  ·have:=(hS g (d_ g hg)).2;omega
 have Gc:g∉T:=fun hg=>by
  rcases q3 with q3 | q3
  ·exact Uv g hg (by rw[q3];simp)
  ·have:=(hTr g hg).2;omega
 refine⟨[g]++(Ss++[T]).flatten,⟨vs++[u],Ss++[T],?_,by simp[h2],?_,by simp[Value.ownBlock],?_⟩,?_⟩
 ·rw[List.length_append];exact q1
 ·intro k u' x' T' vZ CG rr;rcases Nat.lt_or_ge k xs.length with hk | hk
  ·rw[List.getElem?_append_left (by omega)]at vZ CG rr;exact L.only (h3 k u' x' T' vZ CG rr) eH (fun j hj=>JB j (List.mem_flatten.2 ⟨T',List.mem_of_getElem? rr,hj⟩))
  ·have kJ:k=xs.length:=by
    have:=al CG
    simp at this;omega
   subst kJ;rw[List.getElem?_append_right (Nat.le_refl _),Nat.sub_self]at CG;rw[<- CF,List.getElem?_append_right (Nat.le_refl _),Nat.sub_self]at vZ;rw[<- h2,List.getElem?_append_right (Nat.le_refl _),Nat.sub_self]at rr;simp at vZ CG rr
   subst vZ CG rr;exact L.only hu eH Uv
 ·rw[List.flatten_append,List.nodup_append];refine⟨by simp,?_,?_⟩
  ·rw[List.nodup_append];refine⟨tK.2.1,by simpa using L.nodup hu,?_⟩
   intro a ha b hb e;simp at hb
   subst e;exact hd a hb (d_ a ha)
  ·intro a ha b hb e;simp at ha
   subst e ha;rcases List.mem_append.1 hb with hb | hb
   ·exact hg hb
   ·simp at hb;exact Gc hb
 ·intro j hj;rw[List.flatten_append]at hj;rcases List.mem_append.1 hj with hj | hj
  ·simp at hj
   subst hj;rcases q3 with q3 | q3
   ·left;rw[h4,q3];simp
   ·exact .inr (.inr q3)
  ·rcases List.mem_append.1 hj with hj | hj
   ·exact .inl (d_ j hj)
   ·simp at hj;exact .inr (.inl hj)
end Go.Proofs.YtgmdpppljkmabaaGreat
