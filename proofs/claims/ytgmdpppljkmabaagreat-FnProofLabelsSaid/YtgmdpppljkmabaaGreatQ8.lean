/- Parts of the proof: walks of functions and plain laws. -/
import Derived.Test.YtgmdpppljkmabaaGreatQ0
import Derived.Test.YtgmdpppljkmabaaGreatQ1
import Derived.Test.YtgmdpppljkmabaaGreatQ4
import Derived.Test.YtgmdpppljkmabaaGreatQ7
import Derived.Test.YtgmdpppljkmabaaGreatQ3
set_option maxRecDepth 100000
set_option maxHeartbeats 16000000
namespace Go.Proofs.YtgmdpppljkmabaaGreat
open Go Go.RowKit
theorem y7 (vl va:Value) (ls IY:List Int) (w:World) (hl:aY w vl ls) (ha:aY w va IY) (rK:IY.length<=1000000) (eU:∀x∈IY,0<=x/\x<ls.length):
  Calls Tryz.prog 185 #[vl,va] w fun e w'=>∃u,e=.returned u/\Own w' w.heap.size u (IY.map fun x=>ls.getD x.toNat 0)/\Below w.heap.size w w':=by
 have HL:=zh hl;have rL:=zh eU;obtain⟨AL,cL,rfl,yX,nz,_⟩:=hl;obtain⟨A1,z1,rfl,dV,d8,g_⟩:=ha;unfold maxLen at nz d8;have r9:=zh g_;have bB:aa w w:=ad _;clear g_ eU
 go_enter Tryz.func185,Tryz.ntmps185
 go_wp2
 go_loopw [5,10] (fun u i wr=>∃j:Nat,j<=IY.length/\i=.int .i64 j/\Own wr w.heap.size u ((IY.take j).map fun x=>ls.getD x.toNat 0)/\aa w wr) (fun _ i _=>IY.length-(intOf i).toNat)
 case atStart=>exact⟨0,Nat.zero_le _,rfl,by simpa using bH w w.heap.size,bB⟩
 case round=>
  obtain⟨j,hj,rfl,ho,hs⟩:=hrel;have Ho:=zh ho;clear bB ho
  by_cases hlt:j<IY.length
  ·obtain⟨x1,hx⟩:=aM IY j hlt;obtain⟨b1,oZ,rfl,j6⟩:=r9.out j _ hx;obtain⟨i1,i2⟩:=rL.out _ (List.mem_of_getElem? hx);obtain⟨m1,bl,ol,cl,y,rfl,hv,rM,QE,iH,IM⟩:=hG HL.out i1 i2;cases hv;have t1:=ae j6;have t3:=ae IM;have Hx:=zh hx;have Hg:=zh iH
   have hlen:Hid (((IY.take j).map fun x=>ls.getD x.toNat 0).length+1<=17592186044416):=by show _<=_;simp;omega
   have E2:Hid (((IY.take j).map fun x=>ls.getD x.toNat 0).length=j):=by show _=_;simp;omega
   clear hx j6 IM QE iH
   go_wp2_with (at_builtin;refine dy rfl _ _ rfl rfl (Ho.out.since (ag _ (ad _))) wr.heap.size y rfl (by simp[go_sem]) hlen.out (ag _ hs) ?_;intro g cc w2 dl d_)
   have e1:((IY.take j).map fun x=>ls.getD x.toNat 0)++[y]=(IY.take (j+1)).map fun x=>ls.getD x.toNat 0:=by rw[bh Hx.out];simp only[List.map_append,List.map_cons,List.map_nil,Hg.out]
   rw[e1]at dl;have eX:=zh dl;have b_:=zh d_;clear dl d_ hs e1;go_wp2;go_roundw
   case rel=>exact⟨j+1,by omega,by go_num,by first | exact eX.out | (have:=eX.out;rw[E2.out]at this;exact this),b_.out⟩
   case measure=>simp[intOf];omega
  ·obtain rfl:j=IY.length:=by omega
   go_wp2;go_ret
   exact⟨_,rfl,by have:=Ho.out;rwa [List.take_length]at this,hs⟩
def Gf (own:Int) (xs:List Int):Bool:=(xs.all fun x=>x==own-1||x==own+1)&&((own==0&&(xs.countP (fun x=>x==own-1)==0))||(decide (0<own)&&(xs.countP (fun x=>x==own-1)==1)))
def xp (own:Int) (xs:List Int):Bool:=if own=0 then xs.countP (fun x=>x==own+1)==xs.length else (xs.countP (fun x=>x==own-1)==1)&&(((xs.countP (fun x=>x==own+1):Nat):Int)==(xs.length:Int)-1)
theorem UE {own:Int} {xs:List Int} (h0:0<=own):xp own xs=Gf own xs:=by
 have hs:=JZ (p:=fun x=>x==own-1) (q:=fun x=>x==own+1) (xs:=xs) (fun x _ hp=>by
  simp only[beq_iff_eq]at hp
  simp;omega)
 unfold xp Gf
 generalize xs.countP (fun x=>x==own-1)=a at *
 generalize xs.countP (fun x=>x==own+1)=b at *
 rw[Bool.eq_iff_iff]
 by_cases h:own=0
 ·rw[if_pos h];simp only[Bool.and_eq_true,decide_eq_true_eq,beq_iff_eq,Bool.or_eq_true,List.all_eq_true]at *
  rw[<- hs.2];omega
 ·rw[if_neg h];simp only[Bool.and_eq_true,decide_eq_true_eq,beq_iff_eq,Bool.or_eq_true,List.all_eq_true]at *
  rw[<- hs.2];omega
theorem BM (own:Int) (va:Value) (xs:List Int) (w:World) (h0:0<=own) (h1:own<=999999999999) (ha:aY w va xs) (rK:xs.length<=1000000):
  Calls Tryz.prog 188 #[.int .i64 own,va] w fun e w'=>e=.returned (.bool (Gf own xs))/\Below w.heap.size w w':=by
 obtain⟨A1,z1,rfl,dV,d8,g_⟩:=ha;unfold maxLen at d8;have r9:=zh g_;clear g_
 go_enter Tryz.func188,Tryz.ntmps188
 go_wp2
 go_loop [5,10] (fun c i=>∃j:Nat,j<=xs.length/\i=.int .i64 j/\c=.int .i64 (((xs.take j).countP fun x=>x==own-1:Nat):Int)/\((xs.take j).all fun x=>x==own-1||x==own+1)=true) (fun _ i=>xs.length-(intOf i).toNat)
 case atStart=>exact⟨0,Nat.zero_le _,rfl,by simp,by simp⟩
 case round=>
  obtain⟨j,hj,rfl,rfl,bZ⟩:=hrel;have iV:=zh bZ
  have ja:((xs.take j).countP fun x=>x==own-1)<=1000000:=by
   have:=List.countP_le_length (p:=fun x=>x==own-1) (l:=xs.take j)
   simp at this ⊢
   omega
  clear bZ
  generalize hc:((xs.take j).countP fun x=>x==own-1)=c at ja ⊢
  have Hc:=zh hc;clear hc
  by_cases hlt:j<xs.length
  ·obtain⟨y,hx⟩:=aM xs j hlt;obtain⟨b1,oZ,rfl,j6⟩:=r9.out j y hx;have Hx:=zh hx;clear hx;cases f1:(y==own-1)
   ·cases f2:(y==own+1)
    ·have F:=zh (And.intro f1 f2);have f3:(y != own+1)=true:=by simp[bne,f2]
     go_wp2;go_ret;refine⟨bw ?_,Below.refl _ _⟩;unfold Gf;rw[Bool.and_eq_false_iff]
     left
     rw[List.all_eq_false];exact⟨y,List.mem_of_getElem? Hx.out,by simp[F.out.1,F.out.2]⟩
    ·have F:=zh (And.intro f1 f2);have f3:(y != own+1)=false:=by simp[bne,f2]
     go_wp2
     go_round
     case rel=>exact⟨j+1,by omega,by go_num,by rw[bh Hx.out,l7,Hc.out];simp[F.out.1],by rw[bh Hx.out,List.all_append,iV.out];simp[F.out.2]⟩
     case measure=>simp[intOf];omega
   ·have F:=zh f1;go_wp2
    go_round
    case rel=>exact⟨j+1,by omega,by go_num,by rw[bh Hx.out,l7,Hc.out];simp[F.out],by rw[bh Hx.out,List.all_append,iV.out];simp[F.out]⟩
    case measure=>simp[intOf];omega
  ·obtain rfl:j=xs.length:=by omega
   have hr:Hid (Gf own xs=((own==0&&(c==0))||(decide (0<own)&&(c==1)))):=by
    show _=_
    have h1:=iV.out;have h2:=Hc.out;rw[List.take_length]at h1 h2;unfold Gf;rw[h1,h2,Bool.true_and]
   go_upto_region 10 with(fail);refine aS 15 (aa w) (ad _) ?_;simp only[zT]
   iterate 3 (refine bU rfl ?_;simp only[zA])
   iterate 2 (refine im rfl rfl ?_;simp only[zA])
   (first | refine bC rfl rfl ?_ | (refine bU rfl ?_));simp only[zA]
   refine bU rfl ?_;simp only[zA]
   iterate 3 (refine im rfl rfl ?_;simp only[zA])
   iterate 2 (apply gZ rfl rfl;(intro hb bj;intro W hW;go_simp;with_reducible rfl);simp only[zA])
   refine jP rfl rfl rfl ?_;simp only[zA]
   (first | refine dO rfl rfl ?_ | (refine bU rfl ?_));simp only[zA]
   refine bU rfl ?_;simp only[zA]
   intro W2 nW;have P3:=zh nW;clear nW;go_wp2;go_ret;refine⟨bQ ?_,P3.out⟩;rw[hr.out,zV,J0]
theorem ss (own:Int) (va:Value) (xs:List Int) (w:World) (h0:0<=own) (h1:own<=999999999999) (ha:aY w va xs) (rK:xs.length<=1000000):
  Calls Tryz.prog 173 #[.int .i64 own,va] w fun e w'=>e=.returned (.bool (xp own xs))/\Below w.heap.size w w':=by
 obtain⟨A1,z1,rfl,dV,d8,g_⟩:=ha;unfold maxLen at d8;have r9:=zh g_;clear g_
 go_enter Tryz.func173,Tryz.ntmps173
 go_wp2
 go_loop [5,6,11] (fun c g i=>∃j:Nat,j<=xs.length/\i=.int .i64 j/\c=.int .i64 (((xs.take j).countP fun x=>x==own-1:Nat):Int)/\g=.int .i64 (((xs.take j).countP fun x=>x==own+1:Nat):Int)) (fun _ _ i=>xs.length-(intOf i).toNat)
 case atStart=>exact⟨0,Nat.zero_le _,rfl,by simp,by simp⟩
 case round=>
  obtain⟨j,hj,rfl,rfl,rfl⟩:=hrel
  have ja:((xs.take j).countP fun x=>x==own-1)<=1000000/\((xs.take j).countP fun x=>x==own+1)<=1000000:=by
   have h1:=List.countP_le_length (p:=fun x=>x==own-1) (l:=xs.take j)
   have h2:=List.countP_le_length (p:=fun x=>x==own+1) (l:=xs.take j)
   simp at h1 h2 ⊢
   omega
  generalize hc:((xs.take j).countP fun x=>x==own-1)=c at ja ⊢
  generalize hg:((xs.take j).countP fun x=>x==own+1)=g at ja ⊢
  obtain⟨ja,UC⟩:=ja;have Hc:=zh hc;have Hg:=zh hg;clear hc hg
  by_cases hlt:j<xs.length
  ·obtain⟨y,hx⟩:=aM xs j hlt;obtain⟨b1,oZ,rfl,j6⟩:=r9.out j y hx;have Hx:=zh hx;clear hx;cases f1:(y==own-1)
   all_goals
    cases f2:(y==own+1)
   all_goals
    have F:=zh (And.intro f1 f2)
    go_wp2_with (go_at_call 90;refine(JT _ _).mono ?_;rintro e w' ⟨rfl,rfl⟩)
    go_round
    case rel=>exact⟨j+1,by omega,by go_num,by rw[bh Hx.out,l7,Hc.out,F.out.1];simp,by rw[bh Hx.out,l7,Hg.out,F.out.2];simp⟩
    case measure=>simp[intOf];omega
  ·obtain rfl:j=xs.length:=by omega
   have h1:=Hc.out;have h2:=Hg.out;rw[List.take_length]at h1 h2
   by_cases ho:own=0
   ·have hr:Hid (xp own xs=(g==xs.length)):=by
     show _=_
     unfold xp;rw[if_pos ho,h2]
    have lU:(own==0)=true:=by simp[ho]
    have Ho:=zh ho;clear h1 h2 ho;go_wp2;go_ret;refine⟨bQ ?_,Below.refl _ _⟩
    rw[hr.out,Bool.eq_iff_iff];simp <;> omega
   ·have hr:Hid (xp own xs=((c==1)&&((g:Int)==(xs.length:Int)-1))):=by
     show _=_
     unfold xp;rw[if_neg ho,h1,h2]
    have lU:(own==0)=false:=by simpa using ho
    have m1:IntKind.i64.wrap ((xs.length:Int)-1)=(xs.length:Int)-1:=aF _ (by omega) (by omega);clear h1 h2;go_upto_region 10 with(fail);refine aS 10 (aa w) (ad _) ?_;simp only[zT]
    iterate 3 (refine bU rfl ?_;simp only[zA])
    iterate 5 (refine im rfl rfl ?_;simp only[zA])
    (first | refine bC rfl rfl ?_ | (refine bU rfl ?_));simp only[zA]
    refine bU rfl ?_;simp only[zA]
    intro W2 nW;have P3:=zh nW;clear nW m1;go_wp2;go_ret;refine⟨bQ ?_,P3.out⟩;rw[hr.out,zV]
theorem vR (l:Int):eu 4 l=[l/100,l%100]:=by simp[eu,aH,kR,eK]
theorem QP (l:Int):eu 5 l=[l/2/10/100,l/2/10%100,l/2%10,l%2]:=by simp[eu,aH,kR,eK]
theorem IZ {w:World} {v:Value} {a b:Int} (h:aY w v [a,b]):∃g off c,v=.slice (some ⟨g,off,none⟩) 2 c/\(∀W,aa w W->W.cell? ⟨g,off,none⟩=some (.int .i64 a))/\(∀W,aa w W->W.cell? ⟨g,off+1,none⟩=some (.int .i64 b)):=by
 obtain⟨A,c,rfl,_,_,hA⟩:=h;obtain⟨g,off,rfl,h0⟩:=hA 0 a rfl;obtain⟨g',oY,e,h1⟩:=hA 1 b rfl;cases e;exact⟨g,off,c,rfl,ae (by simpa using h0),ae h1⟩
theorem I0 {w:World} {v:Value} {a b d e:Int} (h:aY w v [a,b,d,e]):∃g off c,v=.slice (some ⟨g,off,none⟩) 4 c/\(∀W,aa w W->W.cell? ⟨g,off,none⟩=some (.int .i64 a))/\(∀W,aa w W->W.cell? ⟨g,off+1,none⟩=some (.int .i64 b))/\(∀W,aa w W->W.cell? ⟨g,off+2,none⟩=some (.int .i64 d))/\(∀W,aa w W->W.cell? ⟨g,off+3,none⟩=some (.int .i64 e)):=by
 obtain⟨A,c,rfl,_,_,hA⟩:=h;obtain⟨g,off,rfl,h0⟩:=hA 0 a rfl;obtain⟨g',oY,e1,h1⟩:=hA 1 b rfl;cases e1;obtain⟨g',oY,e1,h2⟩:=hA 2 d rfl;cases e1;obtain⟨g',oY,e1,h3⟩:=hA 3 e rfl;cases e1;exact⟨g,off,c,rfl,ae (by simpa using h0),ae h1,ae h2,ae h3⟩
theorem ib {k:Nat} {p:Nat->Bool}:(List.range (k+1)).any p=((List.range k).any p||p k):=by rw[List.range_succ,List.any_append];simp
def nm (ls:List Int) (e:Int×Int):Int:=ls.getD e.1.toNat 0
def ka (gV jI:Int) (ls:List Int) (l:Int) (es:List (Int×Int)):Bool:=
 ((List.range es.length).all fun i=>nm ls (es.getD i (0,0))/100==l/100)&&((l%100==0&&gV==l/100&&jI==1)||(decide (0<l%100)&&jI != 1&&(List.range es.length).any fun i=>nm ls (es.getD i (0,0))%100==l%100-1))
theorem uz (ve vi vn:Value) (n:ak) (k:Nat) (x gV:Int) (w:World) (h:aQ w ve vi vn n) (hid:n.ids[k]?=some gV):
  Calls Tryz.prog 214 #[.agg #[ve,vi,vn],.int .i64 k,.int .i64 x] w fun e w'=>e=.returned (.bool (gV==x))/\Below w.heap.size w w':=by
 obtain⟨w0,A,c,A2,c2,A3,c3,rfl,rfl,rfl,eV,hm,fJ,fB,HA,bK,aT,H,dL,dR,dU⟩:=zB h;clear h
 obtain⟨_,bl,ol,cl,l',e0,hv,mh,tC,-,hd⟩:=hG H.out.is (x:=(k:Int)) (by omega) (by have:=an hid;omega)
 cases hv;obtain rfl:k=_:=by exact Int.ofNat.inj e0
 obtain rfl:gV=l':=Option.some.inj (hid.symm.trans tC)
 have t0:=ae hd;have bB:aa w0 w0:=ad _;clear hd tC e0 hid
 go_enter Tryz.func214,Tryz.ntmps214
 go_upto_region 1 with(fail);rw[<- bK.out];go_wp2;go_ret;exact⟨rfl,aT.out⟩
theorem su (ve vi vn vl:Value) (n:ak) (ls:List Int) (k:Nat) (es:List (Int×Int)) (l gV jI:Int) (w:World) (h:aQ w ve vi vn n) (hl:aY w vl ls) (bW:n.ends[k]?=some es) (rK:es.length<=6) (eU:∀e∈es,0<=e.1/\e.1<ls.length)
  (tB:∀x∈l::bt ls es,0<=x/\x<=999999999999) (hk:ls[k]?=some l) (hid:n.ids.length≠0->n.ids[k]?=some gV) (nH:n.aea[k]?=some jI):
  Calls Tryz.prog 174 #[.agg #[ve,vi,vn],vl,.int .i64 k] w fun e w'=>e=.returned (.bool (decide (n.ids.length≠0)&&ka gV jI ls l es))/\Below w.heap.size w w':=by
 obtain⟨w0,A,c,A2,c2,A3,c3,rfl,rfl,rfl,eV,hm,fJ,fB,HA,bK,aT,H,dL,dR,dU⟩:=zB h;clear h
 have HL:=zh (hl.keep aT.out)
 by_cases jw:n.ids.length=0
 ·have hr:=zh (show(decide (n.ids.length≠0)&&ka gV jI ls l es)=false by simp[jw])
  have QQ:((n.ids.length:Int)==0)=true:=by simp[jw]
  clear jw;have bB:aa w0 w0:=ad _;obtain⟨AL,cL,rfl,yX,nz,_⟩:=hl
  go_enter Tryz.func174,Tryz.ntmps174
  go_upto_region 1 with(fail);rw[<- bK.out];go_wp2;go_ret;exact⟨bw hr.out,aT.out⟩
 ·have y8:=hid jw;have hr:=zh (show(decide (n.ids.length≠0)&&ka gV jI ls l es)=ka gV jI ls l es by simp[jw])
  have QQ:((n.ids.length:Int)==0)=false:=by simp;exact fun e=>jw (by simp[e])
  obtain⟨_,bl,ol,cl,l',e0,rfl,mh,tC,-,hd⟩:=hG HL.out (x:=(k:Int)) (by omega) (by have:=an hk;omega)
  obtain rfl:k=_:=by exact Int.ofNat.inj e0
  obtain rfl:l=l':=Option.some.inj (hk.symm.trans tC)
  obtain⟨_,bi,oi,ci,i',e1,hv,hki,yC,-,SS⟩:=hG H.out.ns (x:=(k:Int)) (by omega) (by have:=an nH;omega)
  cases hv;obtain rfl:k=_:=by exact Int.ofNat.inj e1
  obtain rfl:jI=i':=Option.some.inj (nH.symm.trans yC)
  obtain⟨_,_,hv,yX,nz,_⟩:=id hl;cases hv;unfold maxLen at nz;have lb:=tB l (by simp);obtain⟨Ko,L5⟩:=lb;have t0:=ae hd;have t1:=ae SS;have kw:=zh bW;have rL:=zh eU;have Kp:=zh tB;have y_:=zh y8;have bB:aa w0 w0:=ad _;have y5:0<=l%100/\l%100<100:=by omega
  obtain⟨y5,rM⟩:=y5;clear hd SS hk tC e0 e1 nH yC hl bW eU tB hid y8 jw
  go_enter Tryz.func174,Tryz.ntmps174
  go_upto_region 1 with(fail);rw[<- bK.out];go_wp2_with fail;refine(j_ 4 l Ko L5 _).mono ?_;rw[vR];rintro e W1 ⟨u1,rfl,dT,ay⟩;obtain⟨g1,o1,c1,rfl,q0,q1⟩:=IZ dT.ints;have cY:aa w0 W1:=ay;clear ay dT bB;go_wp2_with fail;refine(sf _ _ _ _ n ls k es _ (H.out.keep cY.below) (HL.out.keep cY.below) kw.out (by omega) rL.out).mono ?_;rintro e W2 ⟨u2,rfl,dl,bj⟩;have hlen:(bt ls es).length=es.length:=by simp[bt]
  obtain⟨A5,z5,hu,_,hz5,BO⟩:=dl.ints;rw[hlen]at hu;subst hu;unfold maxLen at hz5;have HA5:=zh BO;have cJ:=zh hlen;have lJ:aa W1 W2:=bj;have d_:=cY.after lJ;have q0:=ah q0 lJ;have q1:=ah q1 lJ;have t0:=ah t0 d_;have t1:=ah t1 d_;have dL:=ah dL d_;have dR:=ah dR d_;have dU:=ah dU d_;have b_:=zh d_;clear bj dl BO hlen lJ cY d_;have vS:aa W2 W2:=ad _;go_wp2
  go_loopw [8,26] (fun nr i wr=>∃j:Nat,j<=es.length/\i=.int .i64 j/\nr=.bool ((List.range j).any fun i=>nm ls (es.getD i (0,0))%100==l%100-1)/\((List.range j).all fun i=>nm ls (es.getD i (0,0))/100==l/100)=true/\aa W2 wr) (fun _ i _=>es.length-(intOf i).toNat)
  case atStart=>exact⟨0,Nat.zero_le _,rfl,rfl,rfl,vS⟩
  case round=>
   obtain⟨j,hj,rfl,rfl,bZ,bA⟩:=hrel;have iV:=zh bZ;clear bZ vS
   generalize Bv:((List.range j).any fun i=>nm ls (es.getD i (0,0))%100==l%100-1)=nr
   have L6:=zh Bv;clear Bv
   by_cases hlt:j<es.length
   ·obtain⟨x,hx⟩:=aM es j hlt
    obtain⟨y,hy⟩:=aM (bt ls es) j (by rw[cJ.out];exact hlt)
    have zP:nm ls (es.getD j (0,0))=y:=by
     rw[au hx]
     have:(bt ls es)[j]?=some (nm ls x):=by simp[bt,hx,nm]
     exact Option.some.inj (this.symm.trans hy)
    obtain⟨b1,oZ,rfl,j6⟩:=HA5.out j y hy
    have yb:0<=y/\y<=999999999999:=by
     exact Kp.out y (List.mem_cons_of_mem _ (List.mem_of_getElem? hy))
    obtain⟨y0,y1⟩:=yb;have d1:=ae j6;have u_:=zh zP;clear hx hy zP j6;go_wp2_with fail;refine(j_ 4 y y0 y1 _).mono ?_;rw[vR];rintro e W3 ⟨u3,rfl,eH,bN⟩;obtain⟨g3,o3,Dy,rfl,r0,r1⟩:=IZ eH.ints;have n7:aa W2 W3:=bA.trans bN;have Hq:=zh (And.intro q0 q1);have z0:=ah q0 n7;have z1:=ah q1 n7;have Np:=zh n7;clear bN eH n7 bA q0 q1 d1;go_upto_region 9 with(fail);refine ar 7 (aa W3) (by kernel_rfl) (by kernel_rfl) (by simp) (aj (ad _)) ?_;simp only[zT]
    iterate 7 (refine bU rfl ?_;simp only[zA])
    intro W4 lQ;cases f1:(y/100==l/100)
    ·have F1:=zh f1;have Dz:(y/100 != l/100)=true:=by simp[bne,f1]
     have Gg:=zh lQ;clear f1 lQ r0 r1 z0 z1;go_wp2;go_ret;refine⟨bw ?_,aa.after aT.out (b_.out.after (Np.out.after Gg.out))⟩;rw[hr.out];unfold ka;rw[Bool.and_eq_false_iff]
     exact .inl (a_ hlt (by rw[u_.out];exact F1.out))
    ·have F1:=zh f1;have Dz:(y/100 != l/100)=false:=by simp[bne,f1]
     have r0:=ah r0 lQ;have r1:=ah r1 lQ;have z0:=ah z0 lQ;have z1:=ah z1 lQ;have Gg:=zh (Np.out.after lQ);clear f1 lQ;go_upto_region 11 with(fail);have m1:IntKind.i64.wrap (l%100-1)=l%100-1:=aF _ (by omega) (by omega);refine ar 11 (aa W4) (by kernel_rfl) (by kernel_rfl) (by simp) (aj (ad _)) ?_;simp only[zT]
     iterate 2 (refine bU rfl ?_;simp only[zA])
     iterate 8 (refine im rfl rfl ?_;simp only[zA])
     (first | refine dO rfl rfl ?_ | (refine bU rfl ?_));simp only[zA]
     intro W5 kA;have nI:=zh (Gg.out.after kA);clear kA m1 r0 r1 z0 z1 Dz;go_wp2;go_roundw
     case rel=>exact⟨j+1,by omega,by go_num,by rw[ib,L6.out,u_.out],by rw[dg,iV.out,u_.out,F1.out];rfl,nI.out⟩
     case measure=>simp[intOf];omega
   ·obtain rfl:j=es.length:=by omega
    have oG:Hid (ka gV jI ls l es=((l%100==0&&gV==l/100&&jI==1)||(decide (0<l%100)&&jI != 1&&nr))):=by
     show _=_
     unfold ka;rw[iV.out,L6.out,Bool.true_and]
    have z0:=ah q0 bA;have z1:=ah q1 bA;have t1:=ah t1 bA;have dL:=ah dL bA;have dR:=ah dR bA;have dU:=ah dU bA;have nA:=zh bA;have yI:aa wr wr:=ad _;clear bA q0 q1;cases f2:(l%100==0)
    ·have F2:=zh f2;go_upto_region 15 with(fail);clear yI;refine aS 10 (aa wr) (ad _) ?_;simp only[zT]
     iterate 7 (refine bU rfl ?_;simp only[zA])
     refine im rfl rfl ?_;simp only[zA]
     (first | refine bC rfl rfl ?_ | (refine bU rfl ?_));simp only[zA]
     refine bU rfl ?_;simp only[zA]
     intro W5 kA;have nI:=zh kA;clear kA;go_wp2;go_ret;refine⟨bQ ?_,aa.after aT.out (b_.out.after (nA.out.after nI.out))⟩;rw[hr.out,oG.out,F2.out]
     have:decide (0<l%100)=true:=by
      have:=F2.out
      simp at this ⊢
      omega
     rw[this];simp
    ·have F2:=zh f2;go_upto_region 14 with(fail);clear yI;refine ar 15 (aa wr) (by kernel_rfl) (by kernel_rfl) (by simp) (aj (ad _)) ?_;simp only[zT]
     iterate 5 (refine bU rfl ?_;simp only[zA])
     refine fI ?_ rfl ?_ ?_;rotate_left;(intro W hW;unfold dr;go_simp;(with_reducible refine(uz _ _ _ n k _ gV W (H.out.keep (b_.out.after (nA.out.after hW)).below) y_.out).mono ?_);rintro e W' ⟨rfl,bN⟩;first | (refine⟨?_,aa.trans hW bN⟩;with_reducible rfl) | (subst bN;refine⟨?_,hW⟩;with_reducible rfl))
     simp only[zA]
     refine bU rfl ?_;simp only[zA]
     iterate 6 (refine im rfl rfl ?_;simp only[zA])
     (first | refine bC rfl rfl ?_ | (refine bU rfl ?_));simp only[zA]
     refine bU rfl ?_;simp only[zA]
     intro W5 kA;have nI:=zh kA;clear kA;go_wp2;go_ret;refine⟨bQ ?_,aa.after aT.out (b_.out.after (nA.out.after nI.out))⟩;rw[hr.out,oG.out,F2.out]
     have:decide (0<l%100)=false:=by
      have:=F2.out
      simp at this ⊢
      omega
     rw[this];simp
theorem za (ve vi vn vl:Value) (n:ak) (ls:List Int) (k:Nat) (es:List (Int×Int)) (l gV jI:Int) (w:World) (h:aQ w ve vi vn n) (hl:aY w vl ls) (bW:n.ends[k]?=some es) (_:es.length<=6) (eU:∀e∈es,0<=e.1/\e.1<ls.length)
  (tB:∀x∈l::bt ls es,0<=x/\x<=999999999999) (hk:ls[k]?=some l) (hid:n.ids[k]?=some gV) (nH:n.aea[k]?=some jI):
  Calls Tryz.prog 189 #[.agg #[ve,vi,vn],.int .i64 4,vl,.int .i64 k] w fun e w'=>e=.returned (.bool (ka gV jI ls l es))/\Below w.heap.size w w':=by
 obtain⟨w0,A,c,A2,c2,A3,c3,rfl,rfl,rfl,eV,hm,fJ,fB,HA,bK,aT,H,dL,dR,dU⟩:=zB h;clear h
 have HL:=zh (hl.keep aT.out)
 obtain⟨_,bl,ol,cl,l',e0,rfl,mh,tC,-,hd⟩:=hG HL.out (x:=(k:Int)) (by omega) (by have:=an hk;omega)
 obtain rfl:k=_:=by exact Int.ofNat.inj e0
 obtain rfl:l=l':=Option.some.inj (hk.symm.trans tC)
 obtain⟨_,bi,oi,ci,i',e1,hv,hki,yC,-,SS⟩:=hG H.out.ns (x:=(k:Int)) (by omega) (by have:=an nH;omega)
 cases hv;obtain rfl:k=_:=by exact Int.ofNat.inj e1
 obtain rfl:jI=i':=Option.some.inj (nH.symm.trans yC)
 obtain⟨_,bd,od,cd,d',e2,hv,hkd,WQ,-,yG⟩:=hG H.out.is (x:=(k:Int)) (by omega) (by have:=an hid;omega)
 cases hv;obtain rfl:k=_:=by exact Int.ofNat.inj e2
 obtain rfl:gV=d':=Option.some.inj (hid.symm.trans WQ)
 obtain⟨b0,YB,c0,u0,hA,ID,dS,dB⟩:=gy H.out.es bW;cases hA;obtain⟨A1,z1,rfl,dV,d8,g_⟩:=dB;unfold maxLen at d8;obtain⟨_,_,hv,yX,nz,_⟩:=id hl;cases hv;unfold maxLen at nz;have lb:=tB l (by simp);obtain⟨Ko,L5⟩:=lb;have t0:=ae hd;have t1:=ae SS;have t2:=ae yG;have t3:=ae dS;have r9:=zh g_;have rL:=zh eU;have Kp:=zh tB;have bB:aa w0 w0:=ad _;have y5:0<=l%100/\l%100<100:=by omega
 obtain⟨y5,rM⟩:=y5;clear hd SS yG dS g_ hk tC e0 e1 e2 nH yC hid WQ hl bW eU tB
 go_enter Tryz.func189,Tryz.ntmps189
 go_upto_region 1 with(fail);rw[<- bK.out];go_wp2_with fail;refine(l9 4 l Ko L5 _).mono ?_;rw[vR];rintro e W2 ⟨u1,rfl,dT,ay⟩;obtain⟨g1,o1,c1,rfl,q0,q1⟩:=IZ dT.ints;have d_:aa w0 W2:=ay;have t0:=ah t0 d_;have t1:=ah t1 d_;have t2:=ah t2 d_;have t3:=ah t3 d_;have dL:=ah dL d_;have dR:=ah dR d_;have dU:=ah dU d_;have b_:=zh d_;have vS:aa W2 W2:=ad _;clear ay dT bB d_;go_wp2
 go_loopw [10,28] (fun nr i wr=>∃j:Nat,j<=es.length/\i=.int .i64 j/\nr=.bool ((List.range j).any fun i=>nm ls (es.getD i (0,0))%100==l%100-1)/\((List.range j).all fun i=>nm ls (es.getD i (0,0))/100==l/100)=true/\aa W2 wr) (fun _ i _=>es.length-(intOf i).toNat)
 case atStart=>exact⟨0,Nat.zero_le _,rfl,rfl,rfl,vS⟩
 case round=>
  obtain⟨j,hj,rfl,rfl,bZ,bA⟩:=hrel;have iV:=zh bZ;clear bZ vS
  generalize Bv:((List.range j).any fun i=>nm ls (es.getD i (0,0))%100==l%100-1)=nr
  have L6:=zh Bv;clear Bv
  by_cases hlt:j<es.length
  ·obtain⟨⟨x1,x2⟩,hx⟩:=aM es j hlt;obtain⟨b1,oZ,rfl,j6,iq⟩:=r9.out j _ hx;obtain⟨i1,i2⟩:=rL.out _ (List.mem_of_getElem? hx);simp only at i1 i2
   obtain⟨WR,bl',ol',cl',y,rfl,hv,zb,QE,iH,IM⟩:=hG HL.out i1 i2;cases hv
   have zP:nm ls (es.getD j (0,0))=y:=by rw[au hx];exact iH
   have yb:=Kp.out y (wY hx iH);obtain⟨y0,y1⟩:=yb;have d1:=ah (ae j6) (b_.out.after bA);have d2:=ah (ae iq) (b_.out.after bA);have d3:=ah (ae IM) (b_.out.after bA);have u_:=zh zP;have yI:aa wr wr:=ad _;have qE:=World.block_lt_of_cell? wr _ (d3 wr yI);clear hx j6 iq IM zP QE iH;go_wp2_with fail;refine(l9 4 y y0 y1 _).mono ?_;rw[vR];rintro e W3 ⟨u3,rfl,eH,bN⟩;obtain⟨g3,o3,Dy,rfl,r0,r1⟩:=IZ eH.ints;have n7:aa W2 W3:=bA.after (aa.after (ag _ (ad _)) bN);have z0:=ah q0 n7;have z1:=ah q1 n7;have Np:=zh n7;have HSr:=zh bA;clear bN eH n7 bA q0 q1 d1 d2 d3 yI qE;go_upto_region 7 with(fail);refine ar 7 (aa W3) (by kernel_rfl) (by kernel_rfl) (by simp) (aj (ad _)) ?_;simp only[zT]
   iterate 7 (refine bU rfl ?_;simp only[zA])
   intro W4 lQ;cases f1:(y/100==l/100)
   ·have F1:=zh f1;have Dz:(y/100 != l/100)=true:=by simp[bne,f1]
    have Gg:=zh lQ;clear f1 lQ r0 r1 z0 z1;go_wp2;go_ret;refine⟨bw ?_,aa.after aT.out (b_.out.after (Np.out.after Gg.out))⟩;unfold ka;rw[Bool.and_eq_false_iff]
    exact .inl (a_ hlt (by rw[u_.out];exact F1.out))
   ·have F1:=zh f1;have Dz:(y/100 != l/100)=false:=by simp[bne,f1]
    have r1:=ah r1 lQ;have z1:=ah z1 lQ;have Gg:=zh (Np.out.after lQ);clear f1 lQ r0 z0;go_upto_region 9 with(fail);have m1:IntKind.i64.wrap (l%100-1)=l%100-1:=aF _ (by omega) (by omega);refine ar 9 (aa W4) (by kernel_rfl) (by kernel_rfl) (by simp) (aj (ad _)) ?_;simp only[zT]
    iterate 9 (refine bU rfl ?_;simp only[zA])
    intro W5 kA;have nI:=zh (Gg.out.after kA);clear kA m1 r1 z1 Dz;go_upto_region 11 with(fail);refine aS 4 (aa W5) (ad _) ?_;simp only[zT]
    iterate 2 (refine bU rfl ?_;simp only[zA])
    refine im rfl rfl ?_;simp only[zA]
    (first | refine dO rfl rfl ?_ | (refine bU rfl ?_));simp only[zA]
    intro W6 Kq;have YC:=zh (nI.out.after Kq);clear Kq;go_wp2;go_roundw
    case rel=>exact⟨j+1,by omega,by go_num,by rw[ib,L6.out,u_.out],by rw[dg,iV.out,u_.out,F1.out];rfl,YC.out⟩
    case measure=>simp[intOf];omega
  ·obtain rfl:j=es.length:=by omega
   have oG:Hid (ka gV jI ls l es=((l%100==0&&gV==l/100&&jI==1)||(decide (0<l%100)&&jI != 1&&nr))):=by
    show _=_
    unfold ka;rw[iV.out,L6.out,Bool.true_and]
   have z0:=ah q0 bA;have z1:=ah q1 bA;have t1:=ah t1 bA;have t2:=ah t2 bA;have dL:=ah dL bA;have dR:=ah dR bA;have dU:=ah dU bA;have nA:=zh bA;clear bA q0 q1;go_upto_region 17 with(fail);refine ar 41 (aa wr) (by kernel_rfl) (by kernel_rfl) (by simp) (aj (ad _)) ?_;simp only[zT]
   iterate 5 (refine bU rfl ?_;simp only[zA])
   iterate 9 (refine im rfl rfl ?_;simp only[zA])
   (first | refine bC rfl rfl ?_ | (refine bU rfl ?_));simp only[zA]
   refine bU rfl ?_;simp only[zA]
   iterate 6 (refine im rfl rfl ?_;simp only[zA])
   (first | refine bC rfl rfl ?_ | (refine bU rfl ?_));simp only[zA]
   refine bU rfl ?_;simp only[zA]
   iterate 5 (refine im rfl rfl ?_;simp only[zA])
   iterate 6 (apply gZ rfl rfl;(intro hb bj;intro W hW;go_simp;with_reducible rfl);simp only[zA])
   refine jP rfl rfl rfl ?_;simp only[zA]
   refine im rfl rfl ?_;simp only[zA]
   apply gZ rfl rfl;(intro hb bj;intro W hW;go_simp;with_reducible rfl);simp only[zA]
   refine jP rfl rfl rfl ?_;simp only[zA]
   (first | refine dO rfl rfl ?_ | (refine bU rfl ?_));simp only[zA]
   refine bU rfl ?_;simp only[zA]
   intro W5 kA;have nI:=zh kA;clear kA;go_wp2;go_ret;exact⟨bQ oG.out.symm,aa.after aT.out (b_.out.after (nA.out.after nI.out))⟩
def vT (x:Int):Int:=x/2/10/100
def kS (x:Int):Int:=x/2/10%100
def tD (x:Int):Int:=x/2%10
def vt (x:Int):Int:=x%2
theorem BP (l:Int):eu 5 l=[vT l,kS l,tD l,vt l]:=QP l
theorem Nq (x:Int):0<=kS x/\kS x<100:=by unfold kS;omega
theorem xq (x:Int):0<=vt x/\vt x<=1:=by unfold vt;omega
def mK (l:Int) (e:Int×Int) (y:Int):Bool:=e.2==tD y&&kS y==kS l+1
def jg (ls:List Int) (l:Int) (es:List (Int×Int)):Nat->Int
 | 0=>1
 | j+1=>jg ls l es j+if mK l (es.getD j (0,0)) (nm ls (es.getD j (0,0))) then vt (nm ls (es.getD j (0,0))) else 0
theorem DA (ls:List Int) (l:Int) (es:List (Int×Int)) (j:Nat):1<=jg ls l es j/\jg ls l es j<=1+j:=by
 induction j with
 | zero=>simp[jg]
 | succ j ih=>
  have:=xq (nm ls (es.getD j (0,0)))
  unfold jg
  split <;> omega
def qI (ls:List Int) (l:Int) (es:List (Int×Int)) (j:Nat):Bool:=(List.range j).any fun i=>((i:Int)==tD l)&&(kS (nm ls (es.getD i (0,0)))==kS l-1)
def qJ (ls:List Int) (l:Int) (es:List (Int×Int)) (j:Nat):Bool:=(List.range j).all fun i=>vT (nm ls (es.getD i (0,0)))==vT l
def kJ (gV:Int) (ls:List Int) (l:Int) (es:List (Int×Int)):Bool:=
 qJ ls l es es.length&&(vt l==jg ls l es es.length%2)&&((kS l==0&&tD l==9&&gV==vT l&&vt l==0)||(decide (0<kS l)&&qI ls l es es.length))
theorem Nr {ls:List Int} {es:List (Int×Int)} {j:Nat} {x:Int×Int} {y:Int} (hx:es[j]?=some x) (hy:ls.getD x.1.toNat 0=y):nm ls (es.getD j (0,0))=y/\(es.getD j (0,0)).2=x.2:=by rw[au hx];exact⟨hy,rfl⟩
theorem YD {ls:List Int} {es:List (Int×Int)} {j:Nat} {l x y:Int} {b:Bool} (h:nm ls (es.getD j (0,0))=y/\(es.getD j (0,0)).2=x) (f:(x==tD y&&kS y==kS l+1)=b):mK l (es.getD j (0,0)) (nm ls (es.getD j (0,0)))=b:=by
 unfold mK;rw[h.1,h.2];exact f
theorem vw (ve vi vn vl:Value) (n:ak) (ls:List Int) (k:Nat) (es:List (Int×Int)) (l gV:Int) (w:World) (h:aQ w ve vi vn n) (hl:aY w vl ls) (bW:n.ends[k]?=some es) (rK:es.length<=6) (eU:∀e∈es,0<=e.1/\e.1<ls.length)
  (tB:∀x∈l::bt ls es,0<=x/\x<=999999999999) (hk:ls[k]?=some l) (hid:n.ids.length≠0->n.ids[k]?=some gV):
  Calls Tryz.prog 175 #[.agg #[ve,vi,vn],vl,.int .i64 k] w fun e w'=>e=.returned (.bool (decide (n.ids.length≠0)&&kJ gV ls l es))/\Below w.heap.size w w':=by
 obtain⟨w0,A,c,A2,c2,A3,c3,rfl,rfl,rfl,eV,hm,fJ,fB,HA,bK,aT,H,dL,dR,dU⟩:=zB h;clear h
 have HL:=zh (hl.keep aT.out)
 by_cases jw:n.ids.length=0
 ·have hr:=zh (show(decide (n.ids.length≠0)&&kJ gV ls l es)=false by simp[jw])
  have QQ:((n.ids.length:Int)==0)=true:=by simp[jw]
  clear jw;have bB:aa w0 w0:=ad _;obtain⟨AL,cL,rfl,yX,nz,_⟩:=hl
  go_enter Tryz.func175,Tryz.ntmps175
  go_upto_region 1 with(fail);rw[<- bK.out];go_wp2;go_ret;exact⟨bw hr.out,aT.out⟩
 have y8:=hid jw;have hr:=zh (show(decide (n.ids.length≠0)&&kJ gV ls l es)=kJ gV ls l es by simp[jw])
 have QQ:((n.ids.length:Int)==0)=false:=by simp;exact fun e=>jw (by simp[e])
 obtain⟨_,bl,ol,cl,l',e0,rfl,mh,tC,-,hd⟩:=hG HL.out (x:=(k:Int)) (by omega) (by have:=an hk;omega)
 obtain rfl:k=_:=by exact Int.ofNat.inj e0
 obtain rfl:l=l':=Option.some.inj (hk.symm.trans tC)
 obtain⟨b0,YB,c0,u0,hA,ID,dS,dB⟩:=gy H.out.es bW;cases hA;obtain⟨A1,z1,rfl,dV,d8,g_⟩:=dB;unfold maxLen at d8;obtain⟨_,_,hv,yX,nz,_⟩:=id hl;cases hv;unfold maxLen at nz;have lb:=tB l (by simp);obtain⟨Ko,L5⟩:=lb;have t0:=ae hd;have t3:=ae dS;have r9:=zh g_;have rL:=zh eU;have Kp:=zh tB;have y_:=zh y8;have bB:aa w0 w0:=ad _;have y5:=Nq l;have fB:=xq l;obtain⟨y5,rM⟩:=y5;obtain⟨fB,hm4⟩:=fB;clear hd dS g_ hk tC e0 hl bW eU tB hid y8 jw
 go_enter Tryz.func175,Tryz.ntmps175
 go_upto_region 1 with(fail);rw[<- bK.out];go_wp2_with fail;refine(j_ 5 l Ko L5 _).mono ?_;rw[BP];rintro e W2 ⟨u1,rfl,dT,ay⟩;obtain⟨g1,o1,c1,rfl,q0,q1,q2,q3⟩:=I0 dT.ints;have d_:aa w0 W2:=ay;have t0:=ah t0 d_;have t3:=ah t3 d_;have dL:=ah dL d_;have dR:=ah dR d_;have dU:=ah dU d_;have b_:=zh d_;have vS:aa W2 W2:=ad _;clear ay dT bB d_;go_wp2
 go_loopw [8,9,28] (fun sm nr i wr=>∃j:Nat,j<=es.length/\i=.int .i64 j/\sm=.int .i64 (jg ls l es j)/\nr=.bool (qI ls l es j)/\qJ ls l es j=true/\aa W2 wr) (fun _ _ i _=>es.length-(intOf i).toNat)
 case atStart=>exact⟨0,Nat.zero_le _,rfl,rfl,rfl,rfl,vS⟩
 case round=>
  obtain⟨j,hj,rfl,rfl,rfl,bZ,bA⟩:=hrel;have iV:=zh bZ;have Gh:=DA ls l es j;clear bZ vS
  generalize Bv:qI ls l es j=nr
  generalize Fb:jg ls l es j=sm at Gh ⊢
  obtain⟨abP,abQ⟩:=Gh;have L6:=zh Bv;have CI:=zh Fb;clear Bv Fb
  by_cases hlt:j<es.length
  ·obtain⟨⟨x1,x2⟩,hx⟩:=aM es j hlt;obtain⟨b1,oZ,rfl,j6,iq⟩:=r9.out j _ hx;obtain⟨i1,i2⟩:=rL.out _ (List.mem_of_getElem? hx);simp only at i1 i2
   obtain⟨WR,bl',ol',cl',y,rfl,hv,zb,QE,iH,IM⟩:=hG HL.out i1 i2;cases hv;have zP:=Nr hx iH;have yb:=Kp.out y (wY hx iH);obtain⟨y0,y1⟩:=yb;have d1:=ah (ae j6) (b_.out.after bA);have d2:=ah (ae iq) (b_.out.after bA);have d3:=ah (ae IM) (b_.out.after bA);have u_:=zh zP;have yI:aa wr wr:=ad _;have qE:=World.block_lt_of_cell? wr _ (d3 wr yI);have y3b:=xq y;obtain⟨abR,abS⟩:=y3b;clear hx j6 iq IM zP QE iH;go_wp2_with fail;refine(j_ 5 y y0 y1 _).mono ?_;rw[BP];rintro e W3 ⟨u3,rfl,eH,bN⟩;obtain⟨g3,o3,Dy,rfl,r0,r1,r2,r3⟩:=I0 eH.ints;have fe:aa (wr.alloc (Obj.cells #[Value.int IntKind.i64 (WR:Int),Value.int IntKind.i64 x2] 83)) W3:=bN;have n7:aa W2 W3:=bA.after (aa.after (ag _ (ad _)) fe);have bx0:∀X,aa W3 X->X.cell? ⟨wr.heap.size,0,none⟩=some (.int .i64 (WR:Int)):=ah (ae (by simp)) fe;have Ns:∀X,aa W3 X->X.cell? ⟨wr.heap.size,1,none⟩=some (.int .i64 x2):=ah (ae (by simp)) fe;have z0:=ah q0 n7;have z1:=ah q1 n7;have z2:=ah q2 n7;have z3:=ah q3 n7;have Np:=zh n7;clear bN eH n7 bA q0 q1 q2 q3 d1 d2 d3 yI qE fe;go_upto_region 10 with(fail);refine ar 7 (aa W3) (by kernel_rfl) (by kernel_rfl) (by simp) (aj (ad _)) ?_;simp only[zT]
   iterate 7 (refine bU rfl ?_;simp only[zA])
   intro W4 lQ;cases f1:(vT y==vT l)
   ·have F1:=zh f1;have Dz:(vT y != vT l)=true:=by simp[bne,f1]
    have Gg:=zh lQ;clear f1 lQ r0 r1 r2 r3 z0 z1 z2 z3;go_wp2;go_ret;refine⟨bw ?_,aa.after aT.out (b_.out.after (Np.out.after Gg.out))⟩;rw[hr.out];unfold kJ
    rw[show qJ ls l es es.length=false from a_ hlt (by rw[u_.out.1];exact F1.out)]
    rfl
   ·have F1:=zh f1;have Dz:(vT y != vT l)=false:=by simp[bne,f1]
    have r1:=ah r1 lQ;have r2:=ah r2 lQ;have r3:=ah r3 lQ;have z1:=ah z1 lQ;have z2:=ah z2 lQ;have Ns:=ah Ns lQ;have Gg:=zh (Np.out.after lQ);clear f1 lQ r0 z0 z3 bx0;have m1:IntKind.i64.wrap (kS l-1)=kS l-1:=aF _ (by omega) (by omega);have m2:IntKind.i64.wrap (kS l+1)=kS l+1:=aF _ (by omega) (by omega);go_upto_region 12 with(fail);refine ar 16 (aa W4) (by kernel_rfl) (by kernel_rfl) (by simp) (aj (ad _)) ?_;simp only[zT]
    iterate 7 (refine bU rfl ?_;simp only[zA])
    iterate 8 (refine im rfl rfl ?_;simp only[zA])
    (first | refine bC rfl rfl ?_ | (refine bU rfl ?_));simp only[zA]
    intro W5 kA;have r1:=ah r1 kA;have r3:=ah r3 kA;have z1:=ah z1 kA;have z2:=ah z2 kA;have nI:=zh (Gg.out.after kA);have hsY:aa W5 W5:=ad _;clear kA r2 Ns Dz;cases f3:(x2==tD y&&kS y==kS l+1)
    all_goals
     have F3:=zh (YD u_.out f3);clear f3;go_upto_region 14 with(fail);clear hsY;refine ar 18 (aa W5) (by kernel_rfl) (by kernel_rfl) (by simp) (aj (ad _)) ?_;simp only[zT]
     iterate 2 (refine bU rfl ?_;simp only[zA])
     iterate 6 (refine im rfl rfl ?_;simp only[zA])
     iterate 8 (apply gZ rfl rfl;(intro hb bj;intro W hW;go_simp;with_reducible rfl);simp only[zA])
     refine jP rfl rfl rfl ?_;simp only[zA]
     (first | refine dO rfl rfl ?_ | (refine bU rfl ?_));simp only[zA]
     intro W6 Kq;have YC:=zh (nI.out.after Kq);clear Kq m1 m2 r1 r3 z1 z2;go_wp2;go_roundw
     case rel=>exact⟨j+1,by omega,by go_num,by rw[jg,F3.out,CI.out];try rw[u_.out.1];simp,by unfold qI;rw[ib];rw[show((List.range j).any _)=nr from L6.out,u_.out.1],by unfold qJ;rw[dg,show((List.range j).all _)=true from iV.out,u_.out.1,F1.out];rfl,YC.out⟩
     case measure=>simp[intOf];omega
  ·obtain rfl:j=es.length:=by omega
   have oG:Hid (kJ gV ls l es=((vt l==sm%2)&&((kS l==0&&tD l==9&&gV==vT l&&vt l==0)||(decide (0<kS l)&&nr)))):=by
    show _=_
    unfold kJ;rw[iV.out,L6.out,CI.out,Bool.true_and]
   have z0:=ah q0 bA;have z1:=ah q1 bA;have z2:=ah q2 bA;have z3:=ah q3 bA;have dL:=ah dL bA;have dR:=ah dR bA;have dU:=ah dU bA;have nA:=zh bA;have yI:aa wr wr:=ad _;clear bA q0 q1 q2 q3;cases f2:(vt l==sm%2)
   ·have F2:=zh f2;have f2':(vt l != sm%2)=true:=by simp[bne,f2]
    clear f2;go_wp2;go_ret
    exact⟨bw (by rw[hr.out,oG.out,F2.out];rfl),aa.after aT.out (b_.out.after nA.out)⟩
   ·have F2:=zh f2;have f2':(vt l != sm%2)=false:=by simp[bne,f2]
    clear f2;cases f4:(kS l==0)
    ·have F4:=zh f4;go_wp2;go_ret;refine⟨bQ ?_,aa.after aT.out (b_.out.after nA.out)⟩;rw[hr.out,oG.out,F2.out,F4.out]
     have:decide (0<kS l)=true:=by
      have:=F4.out
      simp at this ⊢
      omega
     rw[this];simp
    ·have F4:=zh f4;go_upto_region 19 with(fail);clear yI;refine ar 19 (aa wr) (by kernel_rfl) (by kernel_rfl) (by simp) (aj (ad _)) ?_;simp only[zT]
     iterate 5 (refine bU rfl ?_;simp only[zA])
     iterate 5 (refine im rfl rfl ?_;simp only[zA])
     refine dA (v:=?_) rfl rfl ?_ ?_;rotate_left;(intro hb;intro W hW;unfold dr;go_simp;(with_reducible refine(uz _ _ _ n k _ gV W (H.out.keep (b_.out.after (nA.out.after hW)).below) y_.out).mono ?_);rintro e W' ⟨rfl,bN⟩;first | (refine⟨?_,aa.trans hW bN⟩;with_reducible rfl) | (subst bN;refine⟨?_,hW⟩;with_reducible rfl))
     simp only[zA]
     (first | refine bC rfl rfl ?_ | (refine bU rfl ?_));simp only[zA]
     refine bU rfl ?_;simp only[zA]
     iterate 4 (refine im rfl rfl ?_;simp only[zA])
     (first | refine bC rfl rfl ?_ | (refine bU rfl ?_));simp only[zA]
     refine bU rfl ?_;simp only[zA]
     intro W5 kA;have nI:=zh kA;clear kA;go_wp2;go_ret;refine⟨bQ ?_,aa.after aT.out (b_.out.after (nA.out.after nI.out))⟩;rw[hr.out,oG.out,F2.out,F4.out]
     have:decide (0<kS l)=false:=by
      have:=F4.out
      simp at this ⊢
      omega
     rw[this];simp
theorem zd (ve vi vn vl:Value) (n:ak) (ls:List Int) (k:Nat) (es:List (Int×Int)) (l gV jI:Int) (w:World) (h:aQ w ve vi vn n) (hl:aY w vl ls) (bW:n.ends[k]?=some es) (rK:es.length<=6) (eU:∀e∈es,0<=e.1/\e.1<ls.length)
  (tB:∀x∈l::bt ls es,0<=x/\x<=999999999999) (hk:ls[k]?=some l) (hid:n.ids[k]?=some gV) (nH:n.aea[k]?=some jI):
  Calls Tryz.prog 189 #[.agg #[ve,vi,vn],.int .i64 5,vl,.int .i64 k] w fun e w'=>e=.returned (.bool (kJ gV ls l es))/\Below w.heap.size w w':=by
 obtain⟨w0,A,c,A2,c2,A3,c3,rfl,rfl,rfl,eV,hm,fJ,fB,HA,bK,aT,H,dL,dR,dU⟩:=zB h;clear h
 have HL:=zh (hl.keep aT.out)
 obtain⟨_,bl,ol,cl,l',e0,rfl,mh,tC,-,hd⟩:=hG HL.out (x:=(k:Int)) (by omega) (by have:=an hk;omega)
 obtain rfl:k=_:=by exact Int.ofNat.inj e0
 obtain rfl:l=l':=Option.some.inj (hk.symm.trans tC)
 obtain⟨_,bi,oi,ci,i',e1,hv,hki,yC,-,SS⟩:=hG H.out.ns (x:=(k:Int)) (by omega) (by have:=an nH;omega)
 cases hv;obtain rfl:k=_:=by exact Int.ofNat.inj e1
 obtain rfl:jI=i':=Option.some.inj (nH.symm.trans yC)
 obtain⟨_,bd,od,cd,d',e2,hv,hkd,WQ,-,yG⟩:=hG H.out.is (x:=(k:Int)) (by omega) (by have:=an hid;omega)
 cases hv;obtain rfl:k=_:=by exact Int.ofNat.inj e2
 obtain rfl:gV=d':=Option.some.inj (hid.symm.trans WQ)
 obtain⟨b0,YB,c0,u0,hA,ID,dS,dB⟩:=gy H.out.es bW;cases hA;obtain⟨A1,z1,rfl,dV,d8,g_⟩:=dB;unfold maxLen at d8;obtain⟨_,_,hv,yX,nz,_⟩:=id hl;cases hv;unfold maxLen at nz;have lb:=tB l (by simp);obtain⟨Ko,L5⟩:=lb;have t0:=ae hd;have t1:=ae SS;have t2:=ae yG;have t3:=ae dS;have r9:=zh g_;have rL:=zh eU;have Kp:=zh tB;have bB:aa w0 w0:=ad _;have y5:=Nq l;have fB:=xq l;obtain⟨y5,rM⟩:=y5;obtain⟨fB,hm4⟩:=fB;clear hd SS yG dS g_ hk tC e0 e1 e2 nH yC hid WQ hl bW eU tB t1
 go_enter Tryz.func189,Tryz.ntmps189
 go_upto_region 1 with(fail);rw[<- bK.out];go_wp2_with fail;refine(l9 5 l Ko L5 _).mono ?_;rw[BP];rintro e W2 ⟨u1,rfl,dT,ay⟩;obtain⟨g1,o1,c1,rfl,q0,q1,q2,q3⟩:=I0 dT.ints;have d_:aa w0 W2:=ay;have t0:=ah t0 d_;have t2:=ah t2 d_;have t3:=ah t3 d_;have dL:=ah dL d_;have dR:=ah dR d_;have dU:=ah dU d_;have b_:=zh d_;have vS:aa W2 W2:=ad _;clear ay dT bB d_;go_wp2
 go_loopw [10,11,28] (fun nr sm i wr=>∃j:Nat,j<=es.length/\i=.int .i64 j/\sm=.int .i64 (jg ls l es j)/\nr=.bool (qI ls l es j)/\qJ ls l es j=true/\aa W2 wr) (fun _ _ i _=>es.length-(intOf i).toNat)
 case atStart=>exact⟨0,Nat.zero_le _,rfl,rfl,rfl,rfl,vS⟩
 case round=>
  obtain⟨j,hj,rfl,rfl,rfl,bZ,bA⟩:=hrel;have iV:=zh bZ;have Gh:=DA ls l es j;clear bZ vS
  generalize Bv:qI ls l es j=nr
  generalize Fb:jg ls l es j=sm at Gh ⊢
  obtain⟨abP,abQ⟩:=Gh;have L6:=zh Bv;have CI:=zh Fb;clear Bv Fb
  by_cases hlt:j<es.length
  ·obtain⟨⟨x1,x2⟩,hx⟩:=aM es j hlt;obtain⟨b1,oZ,rfl,j6,iq⟩:=r9.out j _ hx;obtain⟨i1,i2⟩:=rL.out _ (List.mem_of_getElem? hx);simp only at i1 i2
   obtain⟨WR,bl',ol',cl',y,rfl,hv,zb,QE,iH,IM⟩:=hG HL.out i1 i2;cases hv;have zP:=Nr hx iH;have yb:=Kp.out y (wY hx iH);obtain⟨y0,y1⟩:=yb;have d1:=ah (ae j6) (b_.out.after bA);have d2:=ah (ae iq) (b_.out.after bA);have d3:=ah (ae IM) (b_.out.after bA);have u_:=zh zP;have yI:aa wr wr:=ad _;have qE:=World.block_lt_of_cell? wr _ (d3 wr yI);have y3b:=xq y;obtain⟨abR,abS⟩:=y3b;clear hx j6 iq IM zP QE iH;go_wp2_with fail;refine(l9 5 y y0 y1 _).mono ?_;rw[BP];rintro e W3 ⟨u3,rfl,eH,bN⟩;obtain⟨g3,o3,Dy,rfl,r0,r1,r2,r3⟩:=I0 eH.ints;have fe:aa (wr.alloc (Obj.cells #[Value.int IntKind.i64 (WR:Int),Value.int IntKind.i64 x2] 83)) W3:=bN;have n7:aa W2 W3:=bA.after (aa.after (ag _ (ad _)) fe);have bx0:∀X,aa W3 X->X.cell? ⟨wr.heap.size,0,none⟩=some (.int .i64 (WR:Int)):=ah (ae (by simp)) fe;have Ns:∀X,aa W3 X->X.cell? ⟨wr.heap.size,1,none⟩=some (.int .i64 x2):=ah (ae (by simp)) fe;have z0:=ah q0 n7;have z1:=ah q1 n7;have z2:=ah q2 n7;have z3:=ah q3 n7;have Np:=zh n7;clear bN eH n7 bA q0 q1 q2 q3 d1 d2 d3 yI qE fe;go_upto_region 7 with(fail);refine ar 7 (aa W3) (by kernel_rfl) (by kernel_rfl) (by simp) (aj (ad _)) ?_;simp only[zT]
   iterate 7 (refine bU rfl ?_;simp only[zA])
   intro W4 lQ;cases f1:(vT y==vT l)
   ·have F1:=zh f1;have Dz:(vT y != vT l)=true:=by simp[bne,f1]
    have Gg:=zh lQ;clear f1 lQ r0 r1 r2 r3 z0 z1 z2 z3;go_wp2;go_ret;refine⟨bw ?_,aa.after aT.out (b_.out.after (Np.out.after Gg.out))⟩;unfold kJ
    rw[show qJ ls l es es.length=false from a_ hlt (by rw[u_.out.1];exact F1.out)]
    rfl
   ·have F1:=zh f1;have Dz:(vT y != vT l)=false:=by simp[bne,f1]
    have r1:=ah r1 lQ;have r2:=ah r2 lQ;have r3:=ah r3 lQ;have z1:=ah z1 lQ;have z2:=ah z2 lQ;have Ns:=ah Ns lQ;have Gg:=zh (Np.out.after lQ);clear f1 lQ r0 z0 z3 bx0;have m1:IntKind.i64.wrap (kS l-1)=kS l-1:=aF _ (by omega) (by omega);have m2:IntKind.i64.wrap (kS l+1)=kS l+1:=aF _ (by omega) (by omega);go_upto_region 9 with(fail);refine ar 9 (aa W4) (by kernel_rfl) (by kernel_rfl) (by simp) (aj (ad _)) ?_;simp only[zT]
    iterate 9 (refine bU rfl ?_;simp only[zA])
    intro W5 kA;have r1:=ah r1 kA;have r2:=ah r2 kA;have r3:=ah r3 kA;have z1:=ah z1 kA;have z2:=ah z2 kA;have Ns:=ah Ns kA;have nI:=zh (Gg.out.after kA);clear kA;go_upto_region 12 with(fail);refine aS 11 (aa W5) (ad _) ?_;simp only[zT]
    iterate 2 (refine bU rfl ?_;simp only[zA])
    iterate 2 (refine im rfl rfl ?_;simp only[zA])
    iterate 5 (apply gZ rfl rfl;(intro hb bj;intro W hW;go_simp;with_reducible rfl);simp only[zA])
    refine jP rfl rfl rfl ?_;simp only[zA]
    (first | refine dO rfl rfl ?_ | (refine bU rfl ?_));simp only[zA]
    intro W6 Kq;have r1:=ah r1 Kq;have r2:=ah r2 Kq;have r3:=ah r3 Kq;have z1:=ah z1 Kq;have Ns:=ah Ns Kq;have YC:=zh (nI.out.after Kq);clear Kq z2;go_upto_region 13 with(fail);refine ar 16 (aa W6) (by kernel_rfl) (by kernel_rfl) (by simp) (aj (ad _)) ?_;simp only[zT]
    iterate 9 (refine bU rfl ?_;simp only[zA])
    iterate 6 (refine im rfl rfl ?_;simp only[zA])
    (first | refine bC rfl rfl ?_ | (refine bU rfl ?_));simp only[zA]
    intro W7 hW7;have r3:=ah r3 hW7;have QR:=zh (YC.out.after hW7);have hsY:aa W7 W7:=ad _;clear hW7 m1 m2 r1 r2 z1 Ns Dz;cases f3:(kS y==kS l+1&&tD y==x2)
    ·have F3:Hid (mK l (es.getD j (0,0)) (nm ls (es.getD j (0,0)))=false):=by
      show _=_
      unfold mK;rw[u_.out.1,u_.out.2,Bool.and_comm,show(x2==tD y)=(tD y==x2)from Bool.beq_comm,f3]
     clear f3;go_wp2;go_roundw
     case rel=>exact⟨j+1,by omega,by go_num,by rw[jg,F3.out,CI.out];simp,by unfold qI;rw[ib];rw[show((List.range j).any _)=nr from L6.out,u_.out.1,Bool.and_comm,show((j:Int)==tD l)=(tD l==(j:Int))from Bool.beq_comm],by unfold qJ;rw[dg,show((List.range j).all _)=true from iV.out,u_.out.1,F1.out];rfl,QR.out⟩
     case measure=>simp[intOf];omega
    ·have F3:Hid (mK l (es.getD j (0,0)) (nm ls (es.getD j (0,0)))=true):=by
      show _=_
      unfold mK;rw[u_.out.1,u_.out.2,Bool.and_comm,show(x2==tD y)=(tD y==x2)from Bool.beq_comm,f3]
     clear f3;go_wp2;go_roundw
     case rel=>exact⟨j+1,by omega,by go_num,by rw[jg,F3.out,CI.out,u_.out.1];simp,by unfold qI;rw[ib];rw[show((List.range j).any _)=nr from L6.out,u_.out.1,Bool.and_comm,show((j:Int)==tD l)=(tD l==(j:Int))from Bool.beq_comm],by unfold qJ;rw[dg,show((List.range j).all _)=true from iV.out,u_.out.1,F1.out];rfl,QR.out⟩
     case measure=>simp[intOf];omega
  ·obtain rfl:j=es.length:=by omega
   have oG:Hid (kJ gV ls l es=((vt l==sm%2)&&((kS l==0&&tD l==9&&gV==vT l&&vt l==0)||(decide (0<kS l)&&nr)))):=by
    show _=_
    unfold kJ;rw[iV.out,L6.out,CI.out,Bool.true_and]
   have z0:=ah q0 bA;have z1:=ah q1 bA;have z2:=ah q2 bA;have z3:=ah q3 bA;have t2:=ah t2 bA;have dL:=ah dL bA;have dR:=ah dR bA;have dU:=ah dU bA;have nA:=zh bA;have yI:aa wr wr:=ad _;clear bA q0 q1 q2 q3;cases f2:(vt l==sm%2)
   ·have F2:=zh f2;have f2':(vt l != sm%2)=true:=by simp[bne,f2]
    clear f2;go_wp2;go_ret
    exact⟨bw (by rw[oG.out,F2.out];rfl),aa.after aT.out (b_.out.after nA.out)⟩
   ·have F2:=zh f2;have f2':(vt l != sm%2)=false:=by simp[bne,f2]
    clear f2;clear yI;go_upto_region 20 with(fail);refine ar 37 (aa wr) (by kernel_rfl) (by kernel_rfl) (by simp) (aj (ad _)) ?_;simp only[zT]
    iterate 5 (refine bU rfl ?_;simp only[zA])
    iterate 4 (refine im rfl rfl ?_;simp only[zA])
    (first | refine bC rfl rfl ?_ | (refine bU rfl ?_));simp only[zA]
    refine bU rfl ?_;simp only[zA]
    iterate 9 (refine im rfl rfl ?_;simp only[zA])
    (first | refine bC rfl rfl ?_ | (refine bU rfl ?_));simp only[zA]
    refine bU rfl ?_;simp only[zA]
    iterate 4 (refine im rfl rfl ?_;simp only[zA])
    (first | refine bC rfl rfl ?_ | (refine bU rfl ?_));simp only[zA]
    refine bU rfl ?_;simp only[zA]
    iterate 5 (refine im rfl rfl ?_;simp only[zA])
    apply gZ rfl rfl;(intro hb bj;intro W hW;go_simp;with_reducible rfl);simp only[zA]
    refine jP rfl rfl rfl ?_;simp only[zA]
    (first | refine dO rfl rfl ?_ | (refine bU rfl ?_));simp only[zA]
    refine bU rfl ?_;simp only[zA]
    intro W5 kA;have nI:=zh kA;clear kA;go_wp2;go_ret;exact⟨bQ (by rw[oG.out,F2.out,Bool.true_and]),aa.after aT.out (b_.out.after (nA.out.after nI.out))⟩
theorem Kr {n:ak} (h:iK n<=1048576):n.ids.length<=17592186044416:=by unfold iK at h;omega
end Go.Proofs.YtgmdpppljkmabaaGreat
