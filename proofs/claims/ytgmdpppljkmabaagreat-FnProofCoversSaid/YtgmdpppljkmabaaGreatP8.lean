/- Parts of the proof: walks of functions and plain laws. -/
import Derived.Test.YtgmdpppljkmabaaGreatP0
import Derived.Test.YtgmdpppljkmabaaGreatP1
import Derived.Test.YtgmdpppljkmabaaGreatP3
import Derived.Test.YtgmdpppljkmabaaGreatP7
import Derived.Test.YtgmdpppljkmabaaGreatP2
set_option maxRecDepth 100000
set_option maxHeartbeats 16000000
namespace Go.Proofs.YtgmdpppljkmabaaGreat
open Go Go.RowKit
theorem wm (vl va:Value) (ls Fu:List Int) (w:World) (hl:aO w vl ls) (ha:aO w va Fu) (p8:Fu.length<=1000000) (d_:∀x∈Fu,0<=x/\x<ls.length):
  Calls Tryz.prog 185 #[vl,va] w fun e w'=>∃u,e=.returned u/\Own w' w.heap.size u (Fu.map fun x=>ls.getD x.toNat 0)/\Below w.heap.size w w':=by
 have HL:=zh hl;have pO:=zh d_;obtain⟨AL,cL,rfl,yo,mF,_⟩:=hl;obtain⟨A1,z1,rfl,dh,dt,gh⟩:=ha;unfold maxLen at mF dt;have qh:=zh gh;have aU:ab w w:=aa _;clear gh d_
 go_enter Tryz.func185,Tryz.ntmps185
 go_wp2
 go_loopw [5,10] (fun u i wr=>∃j:Nat,j<=Fu.length/\i=.int .i64 j/\Own wr w.heap.size u ((Fu.take j).map fun x=>ls.getD x.toNat 0)/\ab w wr) (fun _ i _=>Fu.length-(intOf i).toNat)
 case atStart=>exact⟨0,Nat.zero_le _,rfl,by simpa using bU w w.heap.size,aU⟩
 case round=>
  obtain⟨j,hj,rfl,ho,hs⟩:=hrel;have Ho:=zh ho;clear aU ho
  by_cases az:j<Fu.length
  ·obtain⟨x1,hx⟩:=aA Fu j az;obtain⟨b1,mJ,rfl,ju⟩:=qh.out j _ hx;obtain⟨i1,i2⟩:=pO.out _ (List.mem_of_getElem? hx);obtain⟨m1,bl,ol,cl,y,rfl,hv,ru,MC,kE,Fi⟩:=gG HL.out i1 i2;cases hv;have t1:=ae ju;have t3:=ae Fi;have Hx:=zh hx;have Hg:=zh kE
   have g_:Hid (((Fu.take j).map fun x=>ls.getD x.toNat 0).length+1<=17592186044416):=by show _<=_;simp;omega
   have E2:Hid (((Fu.take j).map fun x=>ls.getD x.toNat 0).length=j):=by show _=_;simp;omega
   clear hx ju Fi MC kE
   go_wp2_with (at_builtin;refine c_ rfl _ _ rfl rfl (Ho.out.since (ad _ (aa _))) wr.heap.size y rfl (by simp[go_sem]) g_.out (ad _ hs) ?_;intro g cc w2 cZ fM)
   have e1:((Fu.take j).map fun x=>ls.getD x.toNat 0)++[y]=(Fu.take (j+1)).map fun x=>ls.getD x.toNat 0:=by rw[aV Hx.out];simp only[List.map_append,List.map_cons,List.map_nil,Hg.out]
   rw[e1]at cZ;have fG:=zh cZ;have cW:=zh fM;clear cZ fM hs e1;go_wp2;go_roundw
   case rel=>exact⟨j+1,by omega,by go_num,by first | exact fG.out | (have:=fG.out;rw[E2.out]at this;exact this),cW.out⟩
   case measure=>simp[intOf];omega
  ·obtain rfl:j=Fu.length:=by omega
   go_wp2;go_ret
   exact⟨_,rfl,by have:=Ho.out;rwa [List.take_length]at this,hs⟩
def DL (own:Int) (xs:List Int):Bool:=(xs.all fun x=>x==own-1||x==own+1)&&((own==0&&(xs.countP (fun x=>x==own-1)==0))||(decide (0<own)&&(xs.countP (fun x=>x==own-1)==1)))
def ws (own:Int) (xs:List Int):Bool:=if own=0 then xs.countP (fun x=>x==own+1)==xs.length else (xs.countP (fun x=>x==own-1)==1)&&(((xs.countP (fun x=>x==own+1):Nat):Int)==(xs.length:Int)-1)
theorem Qz {own:Int} {xs:List Int} (h0:0<=own):ws own xs=DL own xs:=by
 have hs:=Gg (p:=fun x=>x==own-1) (q:=fun x=>x==own+1) (xs:=xs) (fun x _ hp=>by
  simp only[beq_iff_eq]at hp
  simp;omega)
 unfold ws DL
 generalize xs.countP (fun x=>x==own-1)=a at *
 generalize xs.countP (fun x=>x==own+1)=b at *
 rw[Bool.eq_iff_iff]
 by_cases h:own=0
 ·rw[if_pos h];simp only[Bool.and_eq_true,decide_eq_true_eq,beq_iff_eq,Bool.or_eq_true,List.all_eq_true]at *
  rw[<- hs.2];omega
 ·rw[if_neg h];simp only[Bool.and_eq_true,decide_eq_true_eq,beq_iff_eq,Bool.or_eq_true,List.all_eq_true]at *
  rw[<- hs.2];omega
theorem yL (own:Int) (va:Value) (xs:List Int) (w:World) (h0:0<=own) (h1:own<=999999999999) (ha:aO w va xs) (p8:xs.length<=1000000):
  Calls Tryz.prog 188 #[.int .i64 own,va] w fun e w'=>e=.returned (.bool (DL own xs))/\Below w.heap.size w w':=by
 obtain⟨A1,z1,rfl,dh,dt,gh⟩:=ha;unfold maxLen at dt;have qh:=zh gh;clear gh
 go_enter Tryz.func188,Tryz.ntmps188
 go_wp2
 go_loop [5,10] (fun c i=>∃j:Nat,j<=xs.length/\i=.int .i64 j/\c=.int .i64 (((xs.take j).countP fun x=>x==own-1:Nat):Int)/\((xs.take j).all fun x=>x==own-1||x==own+1)=true) (fun _ i=>xs.length-(intOf i).toNat)
 case atStart=>exact⟨0,Nat.zero_le _,rfl,by simp,by simp⟩
 case round=>
  obtain⟨j,hj,rfl,rfl,bH⟩:=hrel;have ir:=zh bH
  have ig:((xs.take j).countP fun x=>x==own-1)<=1000000:=by
   have:=List.countP_le_length (p:=fun x=>x==own-1) (l:=xs.take j)
   simp at this ⊢
   omega
  clear bH
  generalize hc:((xs.take j).countP fun x=>x==own-1)=c at ig ⊢
  have Hc:=zh hc;clear hc
  by_cases az:j<xs.length
  ·obtain⟨y,hx⟩:=aA xs j az;obtain⟨b1,mJ,rfl,ju⟩:=qh.out j y hx;have Hx:=zh hx;clear hx;cases f1:(y==own-1)
   ·cases f2:(y==own+1)
    ·have F:=zh (And.intro f1 f2);have f3:(y != own+1)=true:=by simp[bne,f2]
     go_wp2;go_ret;refine⟨aW ?_,Below.refl _ _⟩;unfold DL;rw[Bool.and_eq_false_iff]
     left
     rw[List.all_eq_false];exact⟨y,List.mem_of_getElem? Hx.out,by simp[F.out.1,F.out.2]⟩
    ·have F:=zh (And.intro f1 f2);have f3:(y != own+1)=false:=by simp[bne,f2]
     go_wp2
     go_round
     case rel=>exact⟨j+1,by omega,by go_num,by rw[aV Hx.out,kT,Hc.out];simp[F.out.1],by rw[aV Hx.out,List.all_append,ir.out];simp[F.out.2]⟩
     case measure=>simp[intOf];omega
   ·have F:=zh f1;go_wp2
    go_round
    case rel=>exact⟨j+1,by omega,by go_num,by rw[aV Hx.out,kT,Hc.out];simp[F.out],by rw[aV Hx.out,List.all_append,ir.out];simp[F.out]⟩
    case measure=>simp[intOf];omega
  ·obtain rfl:j=xs.length:=by omega
   have hr:Hid (DL own xs=((own==0&&(c==0))||(decide (0<own)&&(c==1)))):=by
    show _=_
    have h1:=ir.out;have h2:=Hc.out;rw[List.take_length]at h1 h2;unfold DL;rw[h1,h2,Bool.true_and]
   go_upto_region 10 with(fail);refine aE 15 (ab w) (aa _) ?_;simp only[zT]
   iterate 3 (refine b_ rfl ?_;simp only[zA])
   iterate 2 (refine iL rfl rfl ?_;simp only[zA])
   (first | refine bK rfl rfl ?_ | (refine b_ rfl ?_));simp only[zA]
   refine b_ rfl ?_;simp only[zA]
   iterate 3 (refine iL rfl rfl ?_;simp only[zA])
   iterate 2 (apply gF rfl rfl;(intro hb bx;intro W hW;go_simp;with_reducible rfl);simp only[zA])
   refine je rfl rfl rfl ?_;simp only[zA]
   (first | refine dE rfl rfl ?_ | (refine b_ rfl ?_));simp only[zA]
   refine b_ rfl ?_;simp only[zA]
   intro W2 Fg;have Fh:=zh Fg;clear Fg;go_wp2;go_ret;refine⟨bJ ?_,Fh.out⟩;rw[hr.out,xy,Gh]
theorem qz (own:Int) (va:Value) (xs:List Int) (w:World) (h0:0<=own) (h1:own<=999999999999) (ha:aO w va xs) (p8:xs.length<=1000000):
  Calls Tryz.prog 173 #[.int .i64 own,va] w fun e w'=>e=.returned (.bool (ws own xs))/\Below w.heap.size w w':=by
 obtain⟨A1,z1,rfl,dh,dt,gh⟩:=ha;unfold maxLen at dt;have qh:=zh gh;clear gh
 go_enter Tryz.func173,Tryz.ntmps173
 go_wp2
 go_loop [5,6,11] (fun c g i=>∃j:Nat,j<=xs.length/\i=.int .i64 j/\c=.int .i64 (((xs.take j).countP fun x=>x==own-1:Nat):Int)/\g=.int .i64 (((xs.take j).countP fun x=>x==own+1:Nat):Int)) (fun _ _ i=>xs.length-(intOf i).toNat)
 case atStart=>exact⟨0,Nat.zero_le _,rfl,by simp,by simp⟩
 case round=>
  obtain⟨j,hj,rfl,rfl,rfl⟩:=hrel
  have ig:((xs.take j).countP fun x=>x==own-1)<=1000000/\((xs.take j).countP fun x=>x==own+1)<=1000000:=by
   have h1:=List.countP_le_length (p:=fun x=>x==own-1) (l:=xs.take j)
   have h2:=List.countP_le_length (p:=fun x=>x==own+1) (l:=xs.take j)
   simp at h1 h2 ⊢
   omega
  generalize hc:((xs.take j).countP fun x=>x==own-1)=c at ig ⊢
  generalize hg:((xs.take j).countP fun x=>x==own+1)=g at ig ⊢
  obtain⟨ig,MY⟩:=ig;have Hc:=zh hc;have Hg:=zh hg;clear hc hg
  by_cases az:j<xs.length
  ·obtain⟨y,hx⟩:=aA xs j az;obtain⟨b1,mJ,rfl,ju⟩:=qh.out j y hx;have Hx:=zh hx;clear hx;cases f1:(y==own-1)
   all_goals
    cases f2:(y==own+1)
   all_goals
    have F:=zh (And.intro f1 f2)
    go_wp2_with (go_at_call 90;refine(Gf _ _).mono ?_;rintro e w' ⟨rfl,rfl⟩)
    go_round
    case rel=>exact⟨j+1,by omega,by go_num,by rw[aV Hx.out,kT,Hc.out,F.out.1];simp,by rw[aV Hx.out,kT,Hg.out,F.out.2];simp⟩
    case measure=>simp[intOf];omega
  ·obtain rfl:j=xs.length:=by omega
   have h1:=Hc.out;have h2:=Hg.out;rw[List.take_length]at h1 h2
   by_cases ho:own=0
   ·have hr:Hid (ws own xs=(g==xs.length)):=by
     show _=_
     unfold ws;rw[if_pos ho,h2]
    have kR:(own==0)=true:=by simp[ho]
    have Ho:=zh ho;clear h1 h2 ho;go_wp2;go_ret;refine⟨bJ ?_,Below.refl _ _⟩
    rw[hr.out,Bool.eq_iff_iff];simp <;> omega
   ·have hr:Hid (ws own xs=((c==1)&&((g:Int)==(xs.length:Int)-1))):=by
     show _=_
     unfold ws;rw[if_neg ho,h1,h2]
    have kR:(own==0)=false:=by simpa using ho
    have m1:IntKind.i64.wrap ((xs.length:Int)-1)=(xs.length:Int)-1:=aH _ (by omega) (by omega);clear h1 h2;go_upto_region 10 with(fail);refine aE 10 (ab w) (aa _) ?_;simp only[zT]
    iterate 3 (refine b_ rfl ?_;simp only[zA])
    iterate 5 (refine iL rfl rfl ?_;simp only[zA])
    (first | refine bK rfl rfl ?_ | (refine b_ rfl ?_));simp only[zA]
    refine b_ rfl ?_;simp only[zA]
    intro W2 Fg;have Fh:=zh Fg;clear Fg m1;go_wp2;go_ret;refine⟨bJ ?_,Fh.out⟩;rw[hr.out,xy]
theorem tj (l:Int):gK 4 l=[l/100,l%100]:=by simp[gK,aF,lh,eF]
theorem M0 (l:Int):gK 5 l=[l/2/10/100,l/2/10%100,l/2%10,l%2]:=by simp[gK,aF,lh,eF]
theorem Fv {w:World} {v:Value} {a b:Int} (h:aO w v [a,b]):∃g off c,v=.slice (some ⟨g,off,none⟩) 2 c/\(∀W,ab w W->W.cell? ⟨g,off,none⟩=some (.int .i64 a))/\(∀W,ab w W->W.cell? ⟨g,off+1,none⟩=some (.int .i64 b)):=by
 obtain⟨A,c,rfl,_,_,hA⟩:=h;obtain⟨g,off,rfl,h0⟩:=hA 0 a rfl;obtain⟨g',n7,e,h1⟩:=hA 1 b rfl;cases e;exact⟨g,off,c,rfl,ae (by simpa using h0),ae h1⟩
theorem Fw {w:World} {v:Value} {a b d e:Int} (h:aO w v [a,b,d,e]):∃g off c,v=.slice (some ⟨g,off,none⟩) 4 c/\(∀W,ab w W->W.cell? ⟨g,off,none⟩=some (.int .i64 a))/\(∀W,ab w W->W.cell? ⟨g,off+1,none⟩=some (.int .i64 b))/\(∀W,ab w W->W.cell? ⟨g,off+2,none⟩=some (.int .i64 d))/\(∀W,ab w W->W.cell? ⟨g,off+3,none⟩=some (.int .i64 e)):=by
 obtain⟨A,c,rfl,_,_,hA⟩:=h;obtain⟨g,off,rfl,h0⟩:=hA 0 a rfl;obtain⟨g',n7,e1,h1⟩:=hA 1 b rfl;cases e1;obtain⟨g',n7,e1,h2⟩:=hA 2 d rfl;cases e1;obtain⟨g',n7,e1,h3⟩:=hA 3 e rfl;cases e1;exact⟨g,off,c,rfl,ae (by simpa using h0),ae h1,ae h2,ae h3⟩
theorem gL {k:Nat} {p:Nat->Bool}:(List.range (k+1)).any p=((List.range k).any p||p k):=by rw[List.range_succ,List.any_append];simp
def po (ls:List Int) (e:Int×Int):Int:=ls.getD e.1.toNat 0
def kh (fN iF:Int) (ls:List Int) (l:Int) (es:List (Int×Int)):Bool:=
 ((List.range es.length).all fun i=>po ls (es.getD i (0,0))/100==l/100)&&((l%100==0&&fN==l/100&&iF==1)||(decide (0<l%100)&&iF != 1&&(List.range es.length).any fun i=>po ls (es.getD i (0,0))%100==l%100-1))
theorem sd (ve vi vn:Value) (n:aj) (k:Nat) (x fN:Int) (w:World) (h:aC w ve vi vn n) (hid:n.ids[k]?=some fN):
  Calls Tryz.prog 214 #[.agg #[ve,vi,vn],.int .i64 k,.int .i64 x] w fun e w'=>e=.returned (.bool (fN==x))/\Below w.heap.size w w':=by
 obtain⟨w0,A,c,A2,c2,A3,c3,rfl,rfl,rfl,fg,hm,f8,fP,HA,bS,aT,H,dP,d9,dV⟩:=zB h;clear h
 obtain⟨_,bl,ol,cl,l',e0,hv,pQ,tk,-,hd⟩:=gG H.out.is (x:=(k:Int)) (by omega) (by have:=al hid;omega)
 cases hv;obtain rfl:k=_:=by exact Int.ofNat.inj e0
 obtain rfl:fN=l':=Option.some.inj (hid.symm.trans tk)
 have t0:=ae hd;have aU:ab w0 w0:=aa _;clear hd tk e0 hid
 go_enter Tryz.func214,Tryz.ntmps214
 go_upto_region 1 with(fail);rw[<- bS.out];go_wp2;go_ret;exact⟨rfl,aT.out⟩
theorem qA (ve vi vn vl:Value) (n:aj) (ls:List Int) (k:Nat) (es:List (Int×Int)) (l fN iF:Int) (w:World) (h:aC w ve vi vn n) (hl:aO w vl ls) (bM:n.ends[k]?=some es) (p8:es.length<=6) (d_:∀e∈es,0<=e.1/\e.1<ls.length)
  (qw:∀x∈l::aR ls es,0<=x/\x<=999999999999) (hk:ls[k]?=some l) (hid:n.ids.length≠0->n.ids[k]?=some fN) (lD:n.acn[k]?=some iF):
  Calls Tryz.prog 174 #[.agg #[ve,vi,vn],vl,.int .i64 k] w fun e w'=>e=.returned (.bool (decide (n.ids.length≠0)&&kh fN iF ls l es))/\Below w.heap.size w w':=by
 obtain⟨w0,A,c,A2,c2,A3,c3,rfl,rfl,rfl,fg,hm,f8,fP,HA,bS,aT,H,dP,d9,dV⟩:=zB h;clear h
 have HL:=zh (hl.keep aT.out)
 by_cases iT:n.ids.length=0
 ·have hr:=zh (show(decide (n.ids.length≠0)&&kh fN iF ls l es)=false by simp[iT])
  have M1:((n.ids.length:Int)==0)=true:=by simp[iT]
  clear iT;have aU:ab w0 w0:=aa _;obtain⟨AL,cL,rfl,yo,mF,_⟩:=hl
  go_enter Tryz.func174,Tryz.ntmps174
  go_upto_region 1 with(fail);rw[<- bS.out];go_wp2;go_ret;exact⟨aW hr.out,aT.out⟩
 ·have wt:=hid iT;have hr:=zh (show(decide (n.ids.length≠0)&&kh fN iF ls l es)=kh fN iF ls l es by simp[iT])
  have M1:((n.ids.length:Int)==0)=false:=by simp;exact fun e=>iT (by simp[e])
  obtain⟨_,bl,ol,cl,l',e0,rfl,pQ,tk,-,hd⟩:=gG HL.out (x:=(k:Int)) (by omega) (by have:=al hk;omega)
  obtain rfl:k=_:=by exact Int.ofNat.inj e0
  obtain rfl:l=l':=Option.some.inj (hk.symm.trans tk)
  obtain⟨_,bi,oi,ci,i',e1,hv,Zn,yh,-,O4⟩:=gG H.out.ns (x:=(k:Int)) (by omega) (by have:=al lD;omega)
  cases hv;obtain rfl:k=_:=by exact Int.ofNat.inj e1
  obtain rfl:iF=i':=Option.some.inj (lD.symm.trans yh)
  obtain⟨_,_,hv,yo,mF,_⟩:=id hl;cases hv;unfold maxLen at mF;have lb:=qw l (by simp);obtain⟨GG,IN⟩:=lb;have t0:=ae hd;have t1:=ae O4;have jZ:=zh bM;have pO:=zh d_;have GH:=zh qw;have wu:=zh wt;have aU:ab w0 w0:=aa _;have uf:0<=l%100/\l%100<100:=by omega
  obtain⟨uf,ru⟩:=uf;clear hd O4 hk tk e0 e1 lD yh hl bM d_ qw hid wt iT
  go_enter Tryz.func174,Tryz.ntmps174
  go_upto_region 1 with(fail);rw[<- bS.out];go_wp2_with fail;refine(kU 4 l GG IN _).mono ?_;rw[tj];rintro e W1 ⟨u1,rfl,gR,aN⟩;obtain⟨g1,o1,c1,rfl,q0,q1⟩:=Fv gR.ints;have dr:ab w0 W1:=aN;clear aN gR aU;go_wp2_with fail;refine(Am _ _ _ _ n ls k es _ (H.out.keep dr.below) (HL.out.keep dr.below) jZ.out (by omega) pO.out).mono ?_;rintro e W2 ⟨u2,rfl,cZ,bx⟩;have g_:(aR ls es).length=es.length:=by simp[aR]
  obtain⟨A5,z5,hu,_,hz5,yM⟩:=cZ.ints;rw[g_]at hu;subst hu;unfold maxLen at hz5;have ZY:=zh yM;have dz:=zh g_;have kb:ab W1 W2:=bx;have fM:=dr.after kb;have q0:=ag q0 kb;have q1:=ag q1 kb;have t0:=ag t0 fM;have t1:=ag t1 fM;have dP:=ag dP fM;have d9:=ag d9 fM;have dV:=ag dV fM;have cW:=zh fM;clear bx cZ yM g_ kb dr fM;have Fx:ab W2 W2:=aa _;go_wp2
  go_loopw [8,26] (fun nr i wr=>∃j:Nat,j<=es.length/\i=.int .i64 j/\nr=.bool ((List.range j).any fun i=>po ls (es.getD i (0,0))%100==l%100-1)/\((List.range j).all fun i=>po ls (es.getD i (0,0))/100==l/100)=true/\ab W2 wr) (fun _ i _=>es.length-(intOf i).toNat)
  case atStart=>exact⟨0,Nat.zero_le _,rfl,rfl,rfl,Fx⟩
  case round=>
   obtain⟨j,hj,rfl,rfl,bH,bG⟩:=hrel;have ir:=zh bH;clear bH Fx
   generalize yy:((List.range j).any fun i=>po ls (es.getD i (0,0))%100==l%100-1)=nr
   have IP:=zh yy;clear yy
   by_cases az:j<es.length
   ·obtain⟨x,hx⟩:=aA es j az
    obtain⟨y,hy⟩:=aA (aR ls es) j (by rw[dz.out];exact az)
    have xr:po ls (es.getD j (0,0))=y:=by
     rw[ao hx]
     have:(aR ls es)[j]?=some (po ls x):=by simp[aR,hx,po]
     exact Option.some.inj (this.symm.trans hy)
    obtain⟨b1,mJ,rfl,ju⟩:=ZY.out j y hy
    have yb:0<=y/\y<=999999999999:=by
     exact GH.out y (List.mem_cons_of_mem _ (List.mem_of_getElem? hy))
    obtain⟨y0,y1⟩:=yb;have d1:=ae ju;have sE:=zh xr;clear hx hy xr ju;go_wp2_with fail;refine(kU 4 y y0 y1 _).mono ?_;rw[tj];rintro e W3 ⟨u3,rfl,ex,bB⟩;obtain⟨g3,o3,Bf,rfl,r0,r1⟩:=Fv ex.ints;have mq:ab W2 W3:=bG.trans bB;have Hq:=zh (And.intro q0 q1);have z0:=ag q0 mq;have z1:=ag q1 mq;have JX:=zh mq;clear bB ex mq bG q0 q1 d1;go_upto_region 9 with(fail);refine av 7 (ab W3) (by kernel_rfl) (by kernel_rfl) (by simp) (ah (aa _)) ?_;simp only[zT]
    iterate 7 (refine b_ rfl ?_;simp only[zA])
    intro W4 kL;cases f1:(y/100==l/100)
    ·have F1:=zh f1;have Bg:(y/100 != l/100)=true:=by simp[bne,f1]
     have DM:=zh kL;clear f1 kL r0 r1 z0 z1;go_wp2;go_ret;refine⟨aW ?_,ab.after aT.out (cW.out.after (JX.out.after DM.out))⟩;rw[hr.out];unfold kh;rw[Bool.and_eq_false_iff]
     exact .inl (aP az (by rw[sE.out];exact F1.out))
    ·have F1:=zh f1;have Bg:(y/100 != l/100)=false:=by simp[bne,f1]
     have r0:=ag r0 kL;have r1:=ag r1 kL;have z0:=ag z0 kL;have z1:=ag z1 kL;have DM:=zh (JX.out.after kL);clear f1 kL;go_upto_region 11 with(fail);have m1:IntKind.i64.wrap (l%100-1)=l%100-1:=aH _ (by omega) (by omega);refine av 11 (ab W4) (by kernel_rfl) (by kernel_rfl) (by simp) (ah (aa _)) ?_;simp only[zT]
     iterate 2 (refine b_ rfl ?_;simp only[zA])
     iterate 8 (refine iL rfl rfl ?_;simp only[zA])
     (first | refine dE rfl rfl ?_ | (refine b_ rfl ?_));simp only[zA]
     intro W5 jN;have ma:=zh (DM.out.after jN);clear jN m1 r0 r1 z0 z1 Bg;go_wp2;go_roundw
     case rel=>exact⟨j+1,by omega,by go_num,by rw[gL,IP.out,sE.out],by rw[cC,ir.out,sE.out,F1.out];rfl,ma.out⟩
     case measure=>simp[intOf];omega
   ·obtain rfl:j=es.length:=by omega
    have CO:Hid (kh fN iF ls l es=((l%100==0&&fN==l/100&&iF==1)||(decide (0<l%100)&&iF != 1&&nr))):=by
     show _=_
     unfold kh;rw[ir.out,IP.out,Bool.true_and]
    have z0:=ag q0 bG;have z1:=ag q1 bG;have t1:=ag t1 bG;have dP:=ag dP bG;have d9:=ag d9 bG;have dV:=ag dV bG;have le:=zh bG;have vR:ab wr wr:=aa _;clear bG q0 q1;cases f2:(l%100==0)
    ·have F2:=zh f2;go_upto_region 15 with(fail);clear vR;refine aE 10 (ab wr) (aa _) ?_;simp only[zT]
     iterate 7 (refine b_ rfl ?_;simp only[zA])
     refine iL rfl rfl ?_;simp only[zA]
     (first | refine bK rfl rfl ?_ | (refine b_ rfl ?_));simp only[zA]
     refine b_ rfl ?_;simp only[zA]
     intro W5 jN;have ma:=zh jN;clear jN;go_wp2;go_ret;refine⟨bJ ?_,ab.after aT.out (cW.out.after (le.out.after ma.out))⟩;rw[hr.out,CO.out,F2.out]
     have:decide (0<l%100)=true:=by
      have:=F2.out
      simp at this ⊢
      omega
     rw[this];simp
    ·have F2:=zh f2;go_upto_region 14 with(fail);clear vR;refine av 15 (ab wr) (by kernel_rfl) (by kernel_rfl) (by simp) (ah (aa _)) ?_;simp only[zT]
     iterate 5 (refine b_ rfl ?_;simp only[zA])
     refine fc ?_ rfl ?_ ?_;rotate_left;(intro W hW;unfold da;go_simp;(with_reducible refine(sd _ _ _ n k _ fN W (H.out.keep (cW.out.after (le.out.after hW)).below) wu.out).mono ?_);rintro e W' ⟨rfl,bB⟩;first | (refine⟨?_,ab.trans hW bB⟩;with_reducible rfl) | (subst bB;refine⟨?_,hW⟩;with_reducible rfl))
     simp only[zA]
     refine b_ rfl ?_;simp only[zA]
     iterate 6 (refine iL rfl rfl ?_;simp only[zA])
     (first | refine bK rfl rfl ?_ | (refine b_ rfl ?_));simp only[zA]
     refine b_ rfl ?_;simp only[zA]
     intro W5 jN;have ma:=zh jN;clear jN;go_wp2;go_ret;refine⟨bJ ?_,ab.after aT.out (cW.out.after (le.out.after ma.out))⟩;rw[hr.out,CO.out,F2.out]
     have:decide (0<l%100)=false:=by
      have:=F2.out
      simp at this ⊢
      omega
     rw[this];simp
theorem wv (ve vi vn vl:Value) (n:aj) (ls:List Int) (k:Nat) (es:List (Int×Int)) (l fN iF:Int) (w:World) (h:aC w ve vi vn n) (hl:aO w vl ls) (bM:n.ends[k]?=some es) (_:es.length<=6) (d_:∀e∈es,0<=e.1/\e.1<ls.length)
  (qw:∀x∈l::aR ls es,0<=x/\x<=999999999999) (hk:ls[k]?=some l) (hid:n.ids[k]?=some fN) (lD:n.acn[k]?=some iF):
  Calls Tryz.prog 189 #[.agg #[ve,vi,vn],.int .i64 4,vl,.int .i64 k] w fun e w'=>e=.returned (.bool (kh fN iF ls l es))/\Below w.heap.size w w':=by
 obtain⟨w0,A,c,A2,c2,A3,c3,rfl,rfl,rfl,fg,hm,f8,fP,HA,bS,aT,H,dP,d9,dV⟩:=zB h;clear h
 have HL:=zh (hl.keep aT.out)
 obtain⟨_,bl,ol,cl,l',e0,rfl,pQ,tk,-,hd⟩:=gG HL.out (x:=(k:Int)) (by omega) (by have:=al hk;omega)
 obtain rfl:k=_:=by exact Int.ofNat.inj e0
 obtain rfl:l=l':=Option.some.inj (hk.symm.trans tk)
 obtain⟨_,bi,oi,ci,i',e1,hv,Zn,yh,-,O4⟩:=gG H.out.ns (x:=(k:Int)) (by omega) (by have:=al lD;omega)
 cases hv;obtain rfl:k=_:=by exact Int.ofNat.inj e1
 obtain rfl:iF=i':=Option.some.inj (lD.symm.trans yh)
 obtain⟨_,bd,od,cd,d',e2,hv,hkd,SB,-,vM⟩:=gG H.out.is (x:=(k:Int)) (by omega) (by have:=al hid;omega)
 cases hv;obtain rfl:k=_:=by exact Int.ofNat.inj e2
 obtain rfl:fN=d':=Option.some.inj (hid.symm.trans SB)
 obtain⟨b0,Ul,c0,u0,hA,Fc,eD,dm⟩:=fi H.out.es bM;cases hA;obtain⟨A1,z1,rfl,dh,dt,gh⟩:=dm;unfold maxLen at dt;obtain⟨_,_,hv,yo,mF,_⟩:=id hl;cases hv;unfold maxLen at mF;have lb:=qw l (by simp);obtain⟨GG,IN⟩:=lb;have t0:=ae hd;have t1:=ae O4;have t2:=ae vM;have t3:=ae eD;have qh:=zh gh;have pO:=zh d_;have GH:=zh qw;have aU:ab w0 w0:=aa _;have uf:0<=l%100/\l%100<100:=by omega
 obtain⟨uf,ru⟩:=uf;clear hd O4 vM eD gh hk tk e0 e1 e2 lD yh hid SB hl bM d_ qw
 go_enter Tryz.func189,Tryz.ntmps189
 go_upto_region 1 with(fail);rw[<- bS.out];go_wp2_with fail;refine(kV 4 l GG IN _).mono ?_;rw[tj];rintro e W2 ⟨u1,rfl,gR,aN⟩;obtain⟨g1,o1,c1,rfl,q0,q1⟩:=Fv gR.ints;have fM:ab w0 W2:=aN;have t0:=ag t0 fM;have t1:=ag t1 fM;have t2:=ag t2 fM;have t3:=ag t3 fM;have dP:=ag dP fM;have d9:=ag d9 fM;have dV:=ag dV fM;have cW:=zh fM;have Fx:ab W2 W2:=aa _;clear aN gR aU fM;go_wp2
 go_loopw [10,28] (fun nr i wr=>∃j:Nat,j<=es.length/\i=.int .i64 j/\nr=.bool ((List.range j).any fun i=>po ls (es.getD i (0,0))%100==l%100-1)/\((List.range j).all fun i=>po ls (es.getD i (0,0))/100==l/100)=true/\ab W2 wr) (fun _ i _=>es.length-(intOf i).toNat)
 case atStart=>exact⟨0,Nat.zero_le _,rfl,rfl,rfl,Fx⟩
 case round=>
  obtain⟨j,hj,rfl,rfl,bH,bG⟩:=hrel;have ir:=zh bH;clear bH Fx
  generalize yy:((List.range j).any fun i=>po ls (es.getD i (0,0))%100==l%100-1)=nr
  have IP:=zh yy;clear yy
  by_cases az:j<es.length
  ·obtain⟨⟨x1,x2⟩,hx⟩:=aA es j az;obtain⟨b1,mJ,rfl,ju,gC⟩:=qh.out j _ hx;obtain⟨i1,i2⟩:=pO.out _ (List.mem_of_getElem? hx);simp only at i1 i2
   obtain⟨SC,bl',ol',cl',y,rfl,hv,ww,MC,kE,Fi⟩:=gG HL.out i1 i2;cases hv
   have xr:po ls (es.getD j (0,0))=y:=by rw[ao hx];exact kE
   have yb:=GH.out y (tM hx kE);obtain⟨y0,y1⟩:=yb;have d1:=ag (ae ju) (cW.out.after bG);have d2:=ag (ae gC) (cW.out.after bG);have d3:=ag (ae Fi) (cW.out.after bG);have sE:=zh xr;have vR:ab wr wr:=aa _;have rC:=World.block_lt_of_cell? wr _ (d3 wr vR);clear hx ju gC Fi xr MC kE;go_wp2_with fail;refine(kV 4 y y0 y1 _).mono ?_;rw[tj];rintro e W3 ⟨u3,rfl,ex,bB⟩;obtain⟨g3,o3,Bf,rfl,r0,r1⟩:=Fv ex.ints;have mq:ab W2 W3:=bG.after (ab.after (ad _ (aa _)) bB);have z0:=ag q0 mq;have z1:=ag q1 mq;have JX:=zh mq;have HSr:=zh bG;clear bB ex mq bG q0 q1 d1 d2 d3 vR rC;go_upto_region 7 with(fail);refine av 7 (ab W3) (by kernel_rfl) (by kernel_rfl) (by simp) (ah (aa _)) ?_;simp only[zT]
   iterate 7 (refine b_ rfl ?_;simp only[zA])
   intro W4 kL;cases f1:(y/100==l/100)
   ·have F1:=zh f1;have Bg:(y/100 != l/100)=true:=by simp[bne,f1]
    have DM:=zh kL;clear f1 kL r0 r1 z0 z1;go_wp2;go_ret;refine⟨aW ?_,ab.after aT.out (cW.out.after (JX.out.after DM.out))⟩;unfold kh;rw[Bool.and_eq_false_iff]
    exact .inl (aP az (by rw[sE.out];exact F1.out))
   ·have F1:=zh f1;have Bg:(y/100 != l/100)=false:=by simp[bne,f1]
    have r1:=ag r1 kL;have z1:=ag z1 kL;have DM:=zh (JX.out.after kL);clear f1 kL r0 z0;go_upto_region 9 with(fail);have m1:IntKind.i64.wrap (l%100-1)=l%100-1:=aH _ (by omega) (by omega);refine av 9 (ab W4) (by kernel_rfl) (by kernel_rfl) (by simp) (ah (aa _)) ?_;simp only[zT]
    iterate 9 (refine b_ rfl ?_;simp only[zA])
    intro W5 jN;have ma:=zh (DM.out.after jN);clear jN m1 r1 z1 Bg;go_upto_region 11 with(fail);refine aE 4 (ab W5) (aa _) ?_;simp only[zT]
    iterate 2 (refine b_ rfl ?_;simp only[zA])
    refine iL rfl rfl ?_;simp only[zA]
    (first | refine dE rfl rfl ?_ | (refine b_ rfl ?_));simp only[zA]
    intro W6 GI;have Um:=zh (ma.out.after GI);clear GI;go_wp2;go_roundw
    case rel=>exact⟨j+1,by omega,by go_num,by rw[gL,IP.out,sE.out],by rw[cC,ir.out,sE.out,F1.out];rfl,Um.out⟩
    case measure=>simp[intOf];omega
  ·obtain rfl:j=es.length:=by omega
   have CO:Hid (kh fN iF ls l es=((l%100==0&&fN==l/100&&iF==1)||(decide (0<l%100)&&iF != 1&&nr))):=by
    show _=_
    unfold kh;rw[ir.out,IP.out,Bool.true_and]
   have z0:=ag q0 bG;have z1:=ag q1 bG;have t1:=ag t1 bG;have t2:=ag t2 bG;have dP:=ag dP bG;have d9:=ag d9 bG;have dV:=ag dV bG;have le:=zh bG;clear bG q0 q1;go_upto_region 17 with(fail);refine av 41 (ab wr) (by kernel_rfl) (by kernel_rfl) (by simp) (ah (aa _)) ?_;simp only[zT]
   iterate 5 (refine b_ rfl ?_;simp only[zA])
   iterate 9 (refine iL rfl rfl ?_;simp only[zA])
   (first | refine bK rfl rfl ?_ | (refine b_ rfl ?_));simp only[zA]
   refine b_ rfl ?_;simp only[zA]
   iterate 6 (refine iL rfl rfl ?_;simp only[zA])
   (first | refine bK rfl rfl ?_ | (refine b_ rfl ?_));simp only[zA]
   refine b_ rfl ?_;simp only[zA]
   iterate 5 (refine iL rfl rfl ?_;simp only[zA])
   iterate 6 (apply gF rfl rfl;(intro hb bx;intro W hW;go_simp;with_reducible rfl);simp only[zA])
   refine je rfl rfl rfl ?_;simp only[zA]
   refine iL rfl rfl ?_;simp only[zA]
   apply gF rfl rfl;(intro hb bx;intro W hW;go_simp;with_reducible rfl);simp only[zA]
   refine je rfl rfl rfl ?_;simp only[zA]
   (first | refine dE rfl rfl ?_ | (refine b_ rfl ?_));simp only[zA]
   refine b_ rfl ?_;simp only[zA]
   intro W5 jN;have ma:=zh jN;clear jN;go_wp2;go_ret;exact⟨bJ CO.out.symm,ab.after aT.out (cW.out.after (le.out.after ma.out))⟩
def ux (x:Int):Int:=x/2/10/100
def mz (x:Int):Int:=x/2/10%100
def wy (x:Int):Int:=x/2%10
def wF (x:Int):Int:=x%2
theorem yN (l:Int):gK 5 l=[ux l,mz l,wy l,wF l]:=M0 l
theorem JY (x:Int):0<=mz x/\mz x<100:=by unfold mz;omega
theorem uy (x:Int):0<=wF x/\wF x<=1:=by unfold wF;omega
def qD (l:Int) (e:Int×Int) (y:Int):Bool:=e.2==wy y&&mz y==mz l+1
def jA (ls:List Int) (l:Int) (es:List (Int×Int)):Nat->Int
 | 0=>1
 | j+1=>jA ls l es j+if qD l (es.getD j (0,0)) (po ls (es.getD j (0,0))) then wF (po ls (es.getD j (0,0))) else 0
theorem Bh (ls:List Int) (l:Int) (es:List (Int×Int)) (j:Nat):1<=jA ls l es j/\jA ls l es j<=1+j:=by
 induction j with
 | zero=>simp[jA]
 | succ j ih=>
  have:=uy (po ls (es.getD j (0,0)))
  unfold jA
  split <;> omega
def qF (ls:List Int) (l:Int) (es:List (Int×Int)) (j:Nat):Bool:=(List.range j).any fun i=>((i:Int)==wy l)&&(mz (po ls (es.getD i (0,0)))==mz l-1)
def qG (ls:List Int) (l:Int) (es:List (Int×Int)) (j:Nat):Bool:=(List.range j).all fun i=>ux (po ls (es.getD i (0,0)))==ux l
def km (fN:Int) (ls:List Int) (l:Int) (es:List (Int×Int)):Bool:=
 qG ls l es es.length&&(wF l==jA ls l es es.length%2)&&((mz l==0&&wy l==9&&fN==ux l&&wF l==0)||(decide (0<mz l)&&qF ls l es es.length))
theorem JZ {ls:List Int} {es:List (Int×Int)} {j:Nat} {x:Int×Int} {y:Int} (hx:es[j]?=some x) (hy:ls.getD x.1.toNat 0=y):po ls (es.getD j (0,0))=y/\(es.getD j (0,0)).2=x.2:=by rw[ao hx];exact⟨hy,rfl⟩
theorem Un {ls:List Int} {es:List (Int×Int)} {j:Nat} {l x y:Int} {b:Bool} (h:po ls (es.getD j (0,0))=y/\(es.getD j (0,0)).2=x) (f:(x==wy y&&mz y==mz l+1)=b):qD l (es.getD j (0,0)) (po ls (es.getD j (0,0)))=b:=by
 unfold qD;rw[h.1,h.2];exact f
theorem sN (ve vi vn vl:Value) (n:aj) (ls:List Int) (k:Nat) (es:List (Int×Int)) (l fN:Int) (w:World) (h:aC w ve vi vn n) (hl:aO w vl ls) (bM:n.ends[k]?=some es) (p8:es.length<=6) (d_:∀e∈es,0<=e.1/\e.1<ls.length)
  (qw:∀x∈l::aR ls es,0<=x/\x<=999999999999) (hk:ls[k]?=some l) (hid:n.ids.length≠0->n.ids[k]?=some fN):
  Calls Tryz.prog 175 #[.agg #[ve,vi,vn],vl,.int .i64 k] w fun e w'=>e=.returned (.bool (decide (n.ids.length≠0)&&km fN ls l es))/\Below w.heap.size w w':=by
 obtain⟨w0,A,c,A2,c2,A3,c3,rfl,rfl,rfl,fg,hm,f8,fP,HA,bS,aT,H,dP,d9,dV⟩:=zB h;clear h
 have HL:=zh (hl.keep aT.out)
 by_cases iT:n.ids.length=0
 ·have hr:=zh (show(decide (n.ids.length≠0)&&km fN ls l es)=false by simp[iT])
  have M1:((n.ids.length:Int)==0)=true:=by simp[iT]
  clear iT;have aU:ab w0 w0:=aa _;obtain⟨AL,cL,rfl,yo,mF,_⟩:=hl
  go_enter Tryz.func175,Tryz.ntmps175
  go_upto_region 1 with(fail);rw[<- bS.out];go_wp2;go_ret;exact⟨aW hr.out,aT.out⟩
 have wt:=hid iT;have hr:=zh (show(decide (n.ids.length≠0)&&km fN ls l es)=km fN ls l es by simp[iT])
 have M1:((n.ids.length:Int)==0)=false:=by simp;exact fun e=>iT (by simp[e])
 obtain⟨_,bl,ol,cl,l',e0,rfl,pQ,tk,-,hd⟩:=gG HL.out (x:=(k:Int)) (by omega) (by have:=al hk;omega)
 obtain rfl:k=_:=by exact Int.ofNat.inj e0
 obtain rfl:l=l':=Option.some.inj (hk.symm.trans tk)
 obtain⟨b0,Ul,c0,u0,hA,Fc,eD,dm⟩:=fi H.out.es bM;cases hA;obtain⟨A1,z1,rfl,dh,dt,gh⟩:=dm;unfold maxLen at dt;obtain⟨_,_,hv,yo,mF,_⟩:=id hl;cases hv;unfold maxLen at mF;have lb:=qw l (by simp);obtain⟨GG,IN⟩:=lb;have t0:=ae hd;have t3:=ae eD;have qh:=zh gh;have pO:=zh d_;have GH:=zh qw;have wu:=zh wt;have aU:ab w0 w0:=aa _;have uf:=JY l;have fP:=uy l;obtain⟨uf,ru⟩:=uf;obtain⟨fP,hm4⟩:=fP;clear hd eD gh hk tk e0 hl bM d_ qw hid wt iT
 go_enter Tryz.func175,Tryz.ntmps175
 go_upto_region 1 with(fail);rw[<- bS.out];go_wp2_with fail;refine(kU 5 l GG IN _).mono ?_;rw[yN];rintro e W2 ⟨u1,rfl,gR,aN⟩;obtain⟨g1,o1,c1,rfl,q0,q1,q2,q3⟩:=Fw gR.ints;have fM:ab w0 W2:=aN;have t0:=ag t0 fM;have t3:=ag t3 fM;have dP:=ag dP fM;have d9:=ag d9 fM;have dV:=ag dV fM;have cW:=zh fM;have Fx:ab W2 W2:=aa _;clear aN gR aU fM;go_wp2
 go_loopw [8,9,28] (fun sm nr i wr=>∃j:Nat,j<=es.length/\i=.int .i64 j/\sm=.int .i64 (jA ls l es j)/\nr=.bool (qF ls l es j)/\qG ls l es j=true/\ab W2 wr) (fun _ _ i _=>es.length-(intOf i).toNat)
 case atStart=>exact⟨0,Nat.zero_le _,rfl,rfl,rfl,rfl,Fx⟩
 case round=>
  obtain⟨j,hj,rfl,rfl,rfl,bH,bG⟩:=hrel;have ir:=zh bH;have J0:=Bh ls l es j;clear bH Fx
  generalize yy:qF ls l es j=nr
  generalize QD:jA ls l es j=sm at J0 ⊢
  obtain⟨ZZ,Z0⟩:=J0;have IP:=zh yy;have Fy:=zh QD;clear yy QD
  by_cases az:j<es.length
  ·obtain⟨⟨x1,x2⟩,hx⟩:=aA es j az;obtain⟨b1,mJ,rfl,ju,gC⟩:=qh.out j _ hx;obtain⟨i1,i2⟩:=pO.out _ (List.mem_of_getElem? hx);simp only at i1 i2
   obtain⟨SC,bl',ol',cl',y,rfl,hv,ww,MC,kE,Fi⟩:=gG HL.out i1 i2;cases hv;have xr:=JZ hx kE;have yb:=GH.out y (tM hx kE);obtain⟨y0,y1⟩:=yb;have d1:=ag (ae ju) (cW.out.after bG);have d2:=ag (ae gC) (cW.out.after bG);have d3:=ag (ae Fi) (cW.out.after bG);have sE:=zh xr;have vR:ab wr wr:=aa _;have rC:=World.block_lt_of_cell? wr _ (d3 wr vR);have Z1:=uy y;obtain⟨Z2,Z3⟩:=Z1;clear hx ju gC Fi xr MC kE;go_wp2_with fail;refine(kU 5 y y0 y1 _).mono ?_;rw[yN];rintro e W3 ⟨u3,rfl,ex,bB⟩;obtain⟨g3,o3,Bf,rfl,r0,r1,r2,r3⟩:=Fw ex.ints;have dT:ab (wr.alloc (Obj.cells #[Value.int IntKind.i64 (SC:Int),Value.int IntKind.i64 x2] 83)) W3:=bB;have mq:ab W2 W3:=bG.after (ab.after (ad _ (aa _)) dT);have Z4:∀X,ab W3 X->X.cell? ⟨wr.heap.size,0,none⟩=some (.int .i64 (SC:Int)):=ag (ae (by simp)) dT;have J1:∀X,ab W3 X->X.cell? ⟨wr.heap.size,1,none⟩=some (.int .i64 x2):=ag (ae (by simp)) dT;have z0:=ag q0 mq;have z1:=ag q1 mq;have z2:=ag q2 mq;have z3:=ag q3 mq;have JX:=zh mq;clear bB ex mq bG q0 q1 q2 q3 d1 d2 d3 vR rC dT;go_upto_region 10 with(fail);refine av 7 (ab W3) (by kernel_rfl) (by kernel_rfl) (by simp) (ah (aa _)) ?_;simp only[zT]
   iterate 7 (refine b_ rfl ?_;simp only[zA])
   intro W4 kL;cases f1:(ux y==ux l)
   ·have F1:=zh f1;have Bg:(ux y != ux l)=true:=by simp[bne,f1]
    have DM:=zh kL;clear f1 kL r0 r1 r2 r3 z0 z1 z2 z3;go_wp2;go_ret;refine⟨aW ?_,ab.after aT.out (cW.out.after (JX.out.after DM.out))⟩;rw[hr.out];unfold km
    rw[show qG ls l es es.length=false from aP az (by rw[sE.out.1];exact F1.out)]
    rfl
   ·have F1:=zh f1;have Bg:(ux y != ux l)=false:=by simp[bne,f1]
    have r1:=ag r1 kL;have r2:=ag r2 kL;have r3:=ag r3 kL;have z1:=ag z1 kL;have z2:=ag z2 kL;have J1:=ag J1 kL;have DM:=zh (JX.out.after kL);clear f1 kL r0 z0 z3 Z4;have m1:IntKind.i64.wrap (mz l-1)=mz l-1:=aH _ (by omega) (by omega);have m2:IntKind.i64.wrap (mz l+1)=mz l+1:=aH _ (by omega) (by omega);go_upto_region 12 with(fail);refine av 16 (ab W4) (by kernel_rfl) (by kernel_rfl) (by simp) (ah (aa _)) ?_;simp only[zT]
    iterate 7 (refine b_ rfl ?_;simp only[zA])
    iterate 8 (refine iL rfl rfl ?_;simp only[zA])
    (first | refine bK rfl rfl ?_ | (refine b_ rfl ?_));simp only[zA]
    intro W5 jN;have r1:=ag r1 jN;have r3:=ag r3 jN;have z1:=ag z1 jN;have z2:=ag z2 jN;have ma:=zh (DM.out.after jN);have hsY:ab W5 W5:=aa _;clear jN r2 J1 Bg;cases f3:(x2==wy y&&mz y==mz l+1)
    all_goals
     have F3:=zh (Un sE.out f3);clear f3;go_upto_region 14 with(fail);clear hsY;refine av 18 (ab W5) (by kernel_rfl) (by kernel_rfl) (by simp) (ah (aa _)) ?_;simp only[zT]
     iterate 2 (refine b_ rfl ?_;simp only[zA])
     iterate 6 (refine iL rfl rfl ?_;simp only[zA])
     iterate 8 (apply gF rfl rfl;(intro hb bx;intro W hW;go_simp;with_reducible rfl);simp only[zA])
     refine je rfl rfl rfl ?_;simp only[zA]
     (first | refine dE rfl rfl ?_ | (refine b_ rfl ?_));simp only[zA]
     intro W6 GI;have Um:=zh (ma.out.after GI);clear GI m1 m2 r1 r3 z1 z2;go_wp2;go_roundw
     case rel=>exact⟨j+1,by omega,by go_num,by rw[jA,F3.out,Fy.out];try rw[sE.out.1];simp,by unfold qF;rw[gL];rw[show((List.range j).any _)=nr from IP.out,sE.out.1],by unfold qG;rw[cC,show((List.range j).all _)=true from ir.out,sE.out.1,F1.out];rfl,Um.out⟩
     case measure=>simp[intOf];omega
  ·obtain rfl:j=es.length:=by omega
   have CO:Hid (km fN ls l es=((wF l==sm%2)&&((mz l==0&&wy l==9&&fN==ux l&&wF l==0)||(decide (0<mz l)&&nr)))):=by
    show _=_
    unfold km;rw[ir.out,IP.out,Fy.out,Bool.true_and]
   have z0:=ag q0 bG;have z1:=ag q1 bG;have z2:=ag q2 bG;have z3:=ag q3 bG;have dP:=ag dP bG;have d9:=ag d9 bG;have dV:=ag dV bG;have le:=zh bG;have vR:ab wr wr:=aa _;clear bG q0 q1 q2 q3;cases f2:(wF l==sm%2)
   ·have F2:=zh f2;have Z5:(wF l != sm%2)=true:=by simp[bne,f2]
    clear f2;go_wp2;go_ret
    exact⟨aW (by rw[hr.out,CO.out,F2.out];rfl),ab.after aT.out (cW.out.after le.out)⟩
   ·have F2:=zh f2;have Z5:(wF l != sm%2)=false:=by simp[bne,f2]
    clear f2;cases f4:(mz l==0)
    ·have F4:=zh f4;go_wp2;go_ret;refine⟨bJ ?_,ab.after aT.out (cW.out.after le.out)⟩;rw[hr.out,CO.out,F2.out,F4.out]
     have:decide (0<mz l)=true:=by
      have:=F4.out
      simp at this ⊢
      omega
     rw[this];simp
    ·have F4:=zh f4;go_upto_region 19 with(fail);clear vR;refine av 19 (ab wr) (by kernel_rfl) (by kernel_rfl) (by simp) (ah (aa _)) ?_;simp only[zT]
     iterate 5 (refine b_ rfl ?_;simp only[zA])
     iterate 5 (refine iL rfl rfl ?_;simp only[zA])
     refine dl (v:=?_) rfl rfl ?_ ?_;rotate_left;(intro hb;intro W hW;unfold da;go_simp;(with_reducible refine(sd _ _ _ n k _ fN W (H.out.keep (cW.out.after (le.out.after hW)).below) wu.out).mono ?_);rintro e W' ⟨rfl,bB⟩;first | (refine⟨?_,ab.trans hW bB⟩;with_reducible rfl) | (subst bB;refine⟨?_,hW⟩;with_reducible rfl))
     simp only[zA]
     (first | refine bK rfl rfl ?_ | (refine b_ rfl ?_));simp only[zA]
     refine b_ rfl ?_;simp only[zA]
     iterate 4 (refine iL rfl rfl ?_;simp only[zA])
     (first | refine bK rfl rfl ?_ | (refine b_ rfl ?_));simp only[zA]
     refine b_ rfl ?_;simp only[zA]
     intro W5 jN;have ma:=zh jN;clear jN;go_wp2;go_ret;refine⟨bJ ?_,ab.after aT.out (cW.out.after (le.out.after ma.out))⟩;rw[hr.out,CO.out,F2.out,F4.out]
     have:decide (0<mz l)=false:=by
      have:=F4.out
      simp at this ⊢
      omega
     rw[this];simp
theorem wG (ve vi vn vl:Value) (n:aj) (ls:List Int) (k:Nat) (es:List (Int×Int)) (l fN iF:Int) (w:World) (h:aC w ve vi vn n) (hl:aO w vl ls) (bM:n.ends[k]?=some es) (p8:es.length<=6) (d_:∀e∈es,0<=e.1/\e.1<ls.length)
  (qw:∀x∈l::aR ls es,0<=x/\x<=999999999999) (hk:ls[k]?=some l) (hid:n.ids[k]?=some fN) (lD:n.acn[k]?=some iF):
  Calls Tryz.prog 189 #[.agg #[ve,vi,vn],.int .i64 5,vl,.int .i64 k] w fun e w'=>e=.returned (.bool (km fN ls l es))/\Below w.heap.size w w':=by
 obtain⟨w0,A,c,A2,c2,A3,c3,rfl,rfl,rfl,fg,hm,f8,fP,HA,bS,aT,H,dP,d9,dV⟩:=zB h;clear h
 have HL:=zh (hl.keep aT.out)
 obtain⟨_,bl,ol,cl,l',e0,rfl,pQ,tk,-,hd⟩:=gG HL.out (x:=(k:Int)) (by omega) (by have:=al hk;omega)
 obtain rfl:k=_:=by exact Int.ofNat.inj e0
 obtain rfl:l=l':=Option.some.inj (hk.symm.trans tk)
 obtain⟨_,bi,oi,ci,i',e1,hv,Zn,yh,-,O4⟩:=gG H.out.ns (x:=(k:Int)) (by omega) (by have:=al lD;omega)
 cases hv;obtain rfl:k=_:=by exact Int.ofNat.inj e1
 obtain rfl:iF=i':=Option.some.inj (lD.symm.trans yh)
 obtain⟨_,bd,od,cd,d',e2,hv,hkd,SB,-,vM⟩:=gG H.out.is (x:=(k:Int)) (by omega) (by have:=al hid;omega)
 cases hv;obtain rfl:k=_:=by exact Int.ofNat.inj e2
 obtain rfl:fN=d':=Option.some.inj (hid.symm.trans SB)
 obtain⟨b0,Ul,c0,u0,hA,Fc,eD,dm⟩:=fi H.out.es bM;cases hA;obtain⟨A1,z1,rfl,dh,dt,gh⟩:=dm;unfold maxLen at dt;obtain⟨_,_,hv,yo,mF,_⟩:=id hl;cases hv;unfold maxLen at mF;have lb:=qw l (by simp);obtain⟨GG,IN⟩:=lb;have t0:=ae hd;have t1:=ae O4;have t2:=ae vM;have t3:=ae eD;have qh:=zh gh;have pO:=zh d_;have GH:=zh qw;have aU:ab w0 w0:=aa _;have uf:=JY l;have fP:=uy l;obtain⟨uf,ru⟩:=uf;obtain⟨fP,hm4⟩:=fP;clear hd O4 vM eD gh hk tk e0 e1 e2 lD yh hid SB hl bM d_ qw t1
 go_enter Tryz.func189,Tryz.ntmps189
 go_upto_region 1 with(fail);rw[<- bS.out];go_wp2_with fail;refine(kV 5 l GG IN _).mono ?_;rw[yN];rintro e W2 ⟨u1,rfl,gR,aN⟩;obtain⟨g1,o1,c1,rfl,q0,q1,q2,q3⟩:=Fw gR.ints;have fM:ab w0 W2:=aN;have t0:=ag t0 fM;have t2:=ag t2 fM;have t3:=ag t3 fM;have dP:=ag dP fM;have d9:=ag d9 fM;have dV:=ag dV fM;have cW:=zh fM;have Fx:ab W2 W2:=aa _;clear aN gR aU fM;go_wp2
 go_loopw [10,11,28] (fun nr sm i wr=>∃j:Nat,j<=es.length/\i=.int .i64 j/\sm=.int .i64 (jA ls l es j)/\nr=.bool (qF ls l es j)/\qG ls l es j=true/\ab W2 wr) (fun _ _ i _=>es.length-(intOf i).toNat)
 case atStart=>exact⟨0,Nat.zero_le _,rfl,rfl,rfl,rfl,Fx⟩
 case round=>
  obtain⟨j,hj,rfl,rfl,rfl,bH,bG⟩:=hrel;have ir:=zh bH;have J0:=Bh ls l es j;clear bH Fx
  generalize yy:qF ls l es j=nr
  generalize QD:jA ls l es j=sm at J0 ⊢
  obtain⟨ZZ,Z0⟩:=J0;have IP:=zh yy;have Fy:=zh QD;clear yy QD
  by_cases az:j<es.length
  ·obtain⟨⟨x1,x2⟩,hx⟩:=aA es j az;obtain⟨b1,mJ,rfl,ju,gC⟩:=qh.out j _ hx;obtain⟨i1,i2⟩:=pO.out _ (List.mem_of_getElem? hx);simp only at i1 i2
   obtain⟨SC,bl',ol',cl',y,rfl,hv,ww,MC,kE,Fi⟩:=gG HL.out i1 i2;cases hv;have xr:=JZ hx kE;have yb:=GH.out y (tM hx kE);obtain⟨y0,y1⟩:=yb;have d1:=ag (ae ju) (cW.out.after bG);have d2:=ag (ae gC) (cW.out.after bG);have d3:=ag (ae Fi) (cW.out.after bG);have sE:=zh xr;have vR:ab wr wr:=aa _;have rC:=World.block_lt_of_cell? wr _ (d3 wr vR);have Z1:=uy y;obtain⟨Z2,Z3⟩:=Z1;clear hx ju gC Fi xr MC kE;go_wp2_with fail;refine(kV 5 y y0 y1 _).mono ?_;rw[yN];rintro e W3 ⟨u3,rfl,ex,bB⟩;obtain⟨g3,o3,Bf,rfl,r0,r1,r2,r3⟩:=Fw ex.ints;have dT:ab (wr.alloc (Obj.cells #[Value.int IntKind.i64 (SC:Int),Value.int IntKind.i64 x2] 83)) W3:=bB;have mq:ab W2 W3:=bG.after (ab.after (ad _ (aa _)) dT);have Z4:∀X,ab W3 X->X.cell? ⟨wr.heap.size,0,none⟩=some (.int .i64 (SC:Int)):=ag (ae (by simp)) dT;have J1:∀X,ab W3 X->X.cell? ⟨wr.heap.size,1,none⟩=some (.int .i64 x2):=ag (ae (by simp)) dT;have z0:=ag q0 mq;have z1:=ag q1 mq;have z2:=ag q2 mq;have z3:=ag q3 mq;have JX:=zh mq;clear bB ex mq bG q0 q1 q2 q3 d1 d2 d3 vR rC dT;go_upto_region 7 with(fail);refine av 7 (ab W3) (by kernel_rfl) (by kernel_rfl) (by simp) (ah (aa _)) ?_;simp only[zT]
   iterate 7 (refine b_ rfl ?_;simp only[zA])
   intro W4 kL;cases f1:(ux y==ux l)
   ·have F1:=zh f1;have Bg:(ux y != ux l)=true:=by simp[bne,f1]
    have DM:=zh kL;clear f1 kL r0 r1 r2 r3 z0 z1 z2 z3;go_wp2;go_ret;refine⟨aW ?_,ab.after aT.out (cW.out.after (JX.out.after DM.out))⟩;unfold km
    rw[show qG ls l es es.length=false from aP az (by rw[sE.out.1];exact F1.out)]
    rfl
   ·have F1:=zh f1;have Bg:(ux y != ux l)=false:=by simp[bne,f1]
    have r1:=ag r1 kL;have r2:=ag r2 kL;have r3:=ag r3 kL;have z1:=ag z1 kL;have z2:=ag z2 kL;have J1:=ag J1 kL;have DM:=zh (JX.out.after kL);clear f1 kL r0 z0 z3 Z4;have m1:IntKind.i64.wrap (mz l-1)=mz l-1:=aH _ (by omega) (by omega);have m2:IntKind.i64.wrap (mz l+1)=mz l+1:=aH _ (by omega) (by omega);go_upto_region 9 with(fail);refine av 9 (ab W4) (by kernel_rfl) (by kernel_rfl) (by simp) (ah (aa _)) ?_;simp only[zT]
    iterate 9 (refine b_ rfl ?_;simp only[zA])
    intro W5 jN;have r1:=ag r1 jN;have r2:=ag r2 jN;have r3:=ag r3 jN;have z1:=ag z1 jN;have z2:=ag z2 jN;have J1:=ag J1 jN;have ma:=zh (DM.out.after jN);clear jN;go_upto_region 12 with(fail);refine aE 11 (ab W5) (aa _) ?_;simp only[zT]
    iterate 2 (refine b_ rfl ?_;simp only[zA])
    iterate 2 (refine iL rfl rfl ?_;simp only[zA])
    iterate 5 (apply gF rfl rfl;(intro hb bx;intro W hW;go_simp;with_reducible rfl);simp only[zA])
    refine je rfl rfl rfl ?_;simp only[zA]
    (first | refine dE rfl rfl ?_ | (refine b_ rfl ?_));simp only[zA]
    intro W6 GI;have r1:=ag r1 GI;have r2:=ag r2 GI;have r3:=ag r3 GI;have z1:=ag z1 GI;have J1:=ag J1 GI;have Um:=zh (ma.out.after GI);clear GI z2;go_upto_region 13 with(fail);refine av 16 (ab W6) (by kernel_rfl) (by kernel_rfl) (by simp) (ah (aa _)) ?_;simp only[zT]
    iterate 9 (refine b_ rfl ?_;simp only[zA])
    iterate 6 (refine iL rfl rfl ?_;simp only[zA])
    (first | refine bK rfl rfl ?_ | (refine b_ rfl ?_));simp only[zA]
    intro W7 Z6;have r3:=ag r3 Z6;have M2:=zh (Um.out.after Z6);have hsY:ab W7 W7:=aa _;clear Z6 m1 m2 r1 r2 z1 J1 Bg;cases f3:(mz y==mz l+1&&wy y==x2)
    ·have F3:Hid (qD l (es.getD j (0,0)) (po ls (es.getD j (0,0)))=false):=by
      show _=_
      unfold qD;rw[sE.out.1,sE.out.2,Bool.and_comm,show(x2==wy y)=(wy y==x2)from Bool.beq_comm,f3]
     clear f3;go_wp2;go_roundw
     case rel=>exact⟨j+1,by omega,by go_num,by rw[jA,F3.out,Fy.out];simp,by unfold qF;rw[gL];rw[show((List.range j).any _)=nr from IP.out,sE.out.1,Bool.and_comm,show((j:Int)==wy l)=(wy l==(j:Int))from Bool.beq_comm],by unfold qG;rw[cC,show((List.range j).all _)=true from ir.out,sE.out.1,F1.out];rfl,M2.out⟩
     case measure=>simp[intOf];omega
    ·have F3:Hid (qD l (es.getD j (0,0)) (po ls (es.getD j (0,0)))=true):=by
      show _=_
      unfold qD;rw[sE.out.1,sE.out.2,Bool.and_comm,show(x2==wy y)=(wy y==x2)from Bool.beq_comm,f3]
     clear f3;go_wp2;go_roundw
     case rel=>exact⟨j+1,by omega,by go_num,by rw[jA,F3.out,Fy.out,sE.out.1];simp,by unfold qF;rw[gL];rw[show((List.range j).any _)=nr from IP.out,sE.out.1,Bool.and_comm,show((j:Int)==wy l)=(wy l==(j:Int))from Bool.beq_comm],by unfold qG;rw[cC,show((List.range j).all _)=true from ir.out,sE.out.1,F1.out];rfl,M2.out⟩
     case measure=>simp[intOf];omega
  ·obtain rfl:j=es.length:=by omega
   have CO:Hid (km fN ls l es=((wF l==sm%2)&&((mz l==0&&wy l==9&&fN==ux l&&wF l==0)||(decide (0<mz l)&&nr)))):=by
    show _=_
    unfold km;rw[ir.out,IP.out,Fy.out,Bool.true_and]
   have z0:=ag q0 bG;have z1:=ag q1 bG;have z2:=ag q2 bG;have z3:=ag q3 bG;have t2:=ag t2 bG;have dP:=ag dP bG;have d9:=ag d9 bG;have dV:=ag dV bG;have le:=zh bG;have vR:ab wr wr:=aa _;clear bG q0 q1 q2 q3;cases f2:(wF l==sm%2)
   ·have F2:=zh f2;have Z5:(wF l != sm%2)=true:=by simp[bne,f2]
    clear f2;go_wp2;go_ret
    exact⟨aW (by rw[CO.out,F2.out];rfl),ab.after aT.out (cW.out.after le.out)⟩
   ·have F2:=zh f2;have Z5:(wF l != sm%2)=false:=by simp[bne,f2]
    clear f2;clear vR;go_upto_region 20 with(fail);refine av 37 (ab wr) (by kernel_rfl) (by kernel_rfl) (by simp) (ah (aa _)) ?_;simp only[zT]
    iterate 5 (refine b_ rfl ?_;simp only[zA])
    iterate 4 (refine iL rfl rfl ?_;simp only[zA])
    (first | refine bK rfl rfl ?_ | (refine b_ rfl ?_));simp only[zA]
    refine b_ rfl ?_;simp only[zA]
    iterate 9 (refine iL rfl rfl ?_;simp only[zA])
    (first | refine bK rfl rfl ?_ | (refine b_ rfl ?_));simp only[zA]
    refine b_ rfl ?_;simp only[zA]
    iterate 4 (refine iL rfl rfl ?_;simp only[zA])
    (first | refine bK rfl rfl ?_ | (refine b_ rfl ?_));simp only[zA]
    refine b_ rfl ?_;simp only[zA]
    iterate 5 (refine iL rfl rfl ?_;simp only[zA])
    apply gF rfl rfl;(intro hb bx;intro W hW;go_simp;with_reducible rfl);simp only[zA]
    refine je rfl rfl rfl ?_;simp only[zA]
    (first | refine dE rfl rfl ?_ | (refine b_ rfl ?_));simp only[zA]
    refine b_ rfl ?_;simp only[zA]
    intro W5 jN;have ma:=zh jN;clear jN;go_wp2;go_ret;exact⟨bJ (by rw[CO.out,F2.out,Bool.true_and]),ab.after aT.out (cW.out.after (le.out.after ma.out))⟩
theorem xJ {n:aj} (h:iO n<=1048576):n.ids.length<=17592186044416:=by unfold iO at h;omega
end Go.Proofs.YtgmdpppljkmabaaGreat
