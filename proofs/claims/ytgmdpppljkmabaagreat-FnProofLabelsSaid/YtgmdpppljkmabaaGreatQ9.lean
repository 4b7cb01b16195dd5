/- Parts of the proof: walks of functions and plain laws. -/
import Derived.Test.YtgmdpppljkmabaaGreatQ0
import Derived.Test.YtgmdpppljkmabaaGreatQ1
import Derived.Test.YtgmdpppljkmabaaGreatQ8
import Derived.Test.YtgmdpppljkmabaaGreatQ5
import Derived.Test.YtgmdpppljkmabaaGreatQ4
import Derived.Test.YtgmdpppljkmabaaGreatQ3
import Derived.Test.YtgmdpppljkmabaaGreatQ6
import Derived.Laws.CopyOwn
import Derived.Shelf.Bits.Mul64
set_option maxRecDepth 100000
set_option maxHeartbeats 16000000
namespace Go.Proofs.YtgmdpppljkmabaaGreat
open Go Go.RowKit
theorem Gi (v:Value) (xs:List Int) (x:Int) (w:World) (h:aY w v xs):
  Calls Tryz.prog 201 #[v,.int .i64 x] w fun e w'=>∃i:Int,e=.returned (.int .i64 i)/\decide (0<=i)=iB xs x/\w=w':=by
 obtain⟨A,c,rfl,eV,hm,hA⟩:=h;unfold maxLen at hm;have HA:=zh hA;clear hA
 go_enter Tryz.func201,Tryz.ntmps201
 go_wp2
 go_loop [8] (fun i=>∃k:Nat,k<=xs.length/\i=.int .i64 k/\x∉xs.take k) (fun i=>xs.length-(intOf i).toNat)
 case atStart=>exact⟨0,Nat.zero_le _,rfl,by simp⟩
 case round=>
  obtain⟨k,hk,rfl,iA⟩:=hrel;have q9:=zh iA;clear iA
  by_cases hlt:k<xs.length
  ·obtain⟨y,hy⟩:=aM xs k hlt;obtain⟨b,off,rfl,fj⟩:=HA.out k y hy;have Hy:=zh hy;clear hy;cases JR:(x==y)
   ·have WS:=zh JR;go_wp2
    go_round
    case rel=>
     refine⟨k+1,by omega,by go_num,?_⟩
     rw[bh Hy.out];simp only[List.mem_append,List.mem_singleton,not_or];exact⟨q9.out,by simpa using WS.out⟩
    case measure=>simp[intOf];omega
   ·have WS:=zh JR;go_wp2;go_ret;refine⟨_,rfl,?_,rfl⟩;have e:x=y:=by simpa using WS.out
    rw[e];unfold iB;simp[List.mem_of_getElem? Hy.out]
  ·go_wp2;go_ret;refine⟨_,rfl,?_,rfl⟩
   have:=q9.out
   rw[jo xs hlt]at this;unfold iB;simpa using this
theorem mm (v:Value) (xs:List Int) (x:Int) (w:World) (h:aY w v xs):
  Calls Tryz.prog 145 #[v,.int .i64 x] w fun e w'=>e=.returned (.bool (iB xs x))/\w=w':=by
 have H:=zh h;obtain⟨A,c,rfl,eV,hm,hA⟩:=h;clear hA
 go_enter Tryz.func145,Tryz.ntmps145
 go_wp2_with fail;refine(Gi _ xs x _ H.out).mono ?_;rintro e w1 ⟨i,rfl,hi,rfl⟩;have Hi:=zh hi;clear hi;go_wp2;go_ret;exact⟨bQ Hi.out,rfl⟩
def gX (n:ak) (s:Int) (ls:List Int) (l gV jI:Int) (es:List (Int×Int)):Bool:=
 if s=1 then decide (l<=1) && !((bt ls es).any fun x=>x != 1-l)
 else if s=2 then decide (l<=2) && !iB (bt ls es) l
 else if s=3 then xp l (bt ls es)
 else if s=4 then decide (n.ids.length≠0)&&ka gV jI ls l es
 else decide (n.ids.length≠0)&&kJ gV ls l es
theorem DB:∀args w,(callFunc 172 args).run Tryz.prog w=.ok (.enter 172 args) w:=enters_of Tryz.func172 (by kernel_rfl) rfl
theorem Nt (x l:Int) (b:Nat) (w:World) (h0:0<=l) (h1:l<=999999999999) (hc:w.cell? ⟨b,0,none⟩=some (.int .i64 l)):
  Calls Tryz.prog 172 #[.int .i64 x,.pointer (some ⟨b,0,none⟩)] w fun e w'=>e=.returned (.bool (x != 1-l))/\w=w':=by
 go_enter Tryz.func172,Tryz.ntmps172
 go_wp2;go_ret;exact⟨rfl,rfl⟩
theorem Ks (l:Int) (b:Nat) (w:World) (xs:List Int) (h0:0<=l) (h1:l<=999999999999) (hc:w.cell? ⟨b,0,none⟩=some (.int .i64 l)):oS w 172 #[.pointer (some ⟨b,0,none⟩)] (fun x=>x != 1-l) xs:=by
 intro x _ X hX;exact(Nt x l b X h0 h1 (bc hX hc)).mono fun _ _ ⟨he,hw⟩=>⟨he,hw ▸ Below.refl _ _⟩
theorem uG (ve vi vn vl:Value) (n:ak) (s:Int) (ls:List Int) (k:Nat) (es:List (Int×Int)) (l gV jI:Int) (w:World) (h:aQ w ve vi vn n) (hl:aY w vl ls) (cY:1<=s) (vx:s<=5) (bW:n.ends[k]?=some es) (rK:es.length<=6) (eU:∀e∈es,0<=e.1/\e.1<ls.length)
  (tB:∀x∈l::bt ls es,0<=x/\x<=999999999999) (hk:ls[k]?=some l) (hid:n.ids.length≠0->n.ids[k]?=some gV) (nH:n.aea[k]?=some jI):
  Calls Tryz.prog 109 #[.agg #[ve,vi,vn],.int .i64 s,vl,.int .i64 k] w fun e w'=>e=.returned (.bool (gX n s ls l gV jI es))/\Below w.heap.size w w':=by
 obtain⟨w0,A,c,A2,c2,A3,c3,rfl,rfl,rfl,eV,hm,fJ,fB,HA,bK,aT,H,dL,dR,dU⟩:=zB h;clear h
 have HL:=zh (hl.keep aT.out)
 obtain⟨_,bl,ol,cl,l',e0,rfl,mh,tC,-,hd⟩:=hG HL.out (x:=(k:Int)) (by omega) (by have:=an hk;omega)
 obtain rfl:k=_:=by exact Int.ofNat.inj e0
 obtain rfl:l=l':=Option.some.inj (hk.symm.trans tC)
 obtain⟨_,_,hv,yX,nz,_⟩:=id hl;cases hv;unfold maxLen at nz;obtain⟨Ko,L5⟩:=tB l (by simp);have t0:=ae hd;have kw:=zh bW;have rL:=zh eU;have Kp:=zh tB;have Hk:=zh hk;have y_:=zh hid;have QS:=zh nH;clear hd hk tC e0 hl bW eU tB hid nH
 go_enter Tryz.func109,Tryz.ntmps109
 go_upto_region 1 with(fail);rw[<- bK.out];refine xd (w0:=w0) 7 9 14 18 10 l (bt ls es) (by kernel_rfl) (by kernel_rfl) rfl (ad _) rfl rfl ⟨_,_,_,rfl⟩ ⟨_,_,_,rfl⟩ ⟨_,_,_,rfl⟩ (by decide) (by simp) (by simp) ?_;simp only[List.take_succ_cons,List.take_zero]
 iterate 7 (apply aR rfl;(intro W hW;go_simp;with_reducible rfl);simp only[zA])
 refine⟨rfl,⟨rfl,fun W hW=>?_⟩,?_⟩
 ·unfold k_
  go_simp
  refine(sf _ _ _ _ n ls k es W (H.out.keep hW.below) (HL.out.keep hW.below) kw.out (by omega) rL.out).mono ?_;rintro e W' ⟨u,rfl,ho,hb⟩;exact⟨u,rfl,ho,hb⟩
 intro u b W hW ho hI;simp only[zA];have hlen:(bt ls es).length=es.length:=by simp[bt]
 have HU:=zh (show ∀X,aa W X->aY X u (bt ls es)from fun X hX=>ho.ints.keep hX.below)
 obtain⟨Bu,du,hu,_⟩:=id ho.ints;rw[hlen]at hu;have q0:=ae hI.cells.1;have HW:=zh hW;have cJ:=zh hlen;rw[hu];rw[hu]at HU;have yI:aa W W:=ad _;have dL:=ah dL hW;have dR:=ah dR hW;have dU:=ah dU hW;unfold Qs;clear ho hI hW hlen hu t0
 by_cases c1:s=1
 ·subst c1;have hr:=zh (show gX n 1 ls l gV jI es=(decide (l<=1) && !((bt ls es).any fun x=>x != 1-l))by simp[gX])
  go_upto_region 4 with(fail);clear yI;refine aS 8 (aa W) (ad _) ?_;simp only[zT]
  iterate 3 (refine bU rfl ?_;simp only[zA])
  iterate 2 (refine im rfl rfl ?_;simp only[zA])
  refine dA (v:=?_) rfl rfl ?_ ?_;rotate_left;(intro hb;intro W hW;unfold dr;go_simp;(with_reducible refine(mC _ (bt ls es) _ _ (fun x=>x != 1-l) W (HU.out W hW) DB (Ks l b W (bt ls es) Ko L5 (q0 W hW))).mono ?_);rintro e W' ⟨rfl,bN⟩;first | (refine⟨?_,aa.trans hW bN⟩;with_reducible rfl) | (subst bN;refine⟨?_,hW⟩;with_reducible rfl))
  simp only[zA]
  refine im rfl rfl ?_;simp only[zA]
  (first | refine bC rfl rfl ?_ | (refine bU rfl ?_));simp only[zA]
  intro W5 kA;have nI:=zh kA;clear kA;go_wp2;go_ret;exact⟨bQ hr.out.symm,aa.after aT.out (HW.out.after nI.out)⟩
 ·have kB:(s==1)=false:=by simpa using c1
  by_cases c2:s=2
  ·subst c2;have hr:=zh (show gX n 2 ls l gV jI es=(decide (l<=2) && !iB (bt ls es) l)by simp[gX])
   clear c1 kB;go_upto_region 6 with(fail);clear yI;refine aS 9 (aa W) (ad _) ?_;simp only[zT]
   iterate 3 (refine bU rfl ?_;simp only[zA])
   iterate 2 (refine im rfl rfl ?_;simp only[zA])
   refine dA (v:=?_) rfl rfl ?_ ?_;rotate_left;(intro hb;intro W hW;unfold dr;go_simp;(with_reducible refine(mm _ (bt ls es) _ W (HU.out W hW)).mono ?_);rintro e W' ⟨rfl,bN⟩;first | (refine⟨?_,aa.trans hW bN⟩;with_reducible rfl) | (subst bN;refine⟨?_,hW⟩;with_reducible rfl))
   simp only[zA]
   refine im rfl rfl ?_;simp only[zA]
   (first | refine bC rfl rfl ?_ | (refine bU rfl ?_));simp only[zA]
   refine bU rfl ?_;simp only[zA]
   intro W5 kA;have nI:=zh kA;clear kA;go_wp2;go_ret;exact⟨bQ hr.out.symm,aa.after aT.out (HW.out.after nI.out)⟩
  ·have Bj:(s==2)=false:=by simpa using c2
   by_cases c3:s=3
   ·subst c3;have hr:=zh (show gX n 3 ls l gV jI es=xp l (bt ls es)by simp[gX])
    clear c1 kB c2 Bj;go_wp2_with fail
    refine(ss l _ (bt ls es) W Ko L5 (HU.out W (ad _)) (by rw[cJ.out];omega)).mono ?_
    rintro e W5 ⟨rfl,kT⟩;have nI:=zh kT;clear kT;go_wp2;go_ret;exact⟨bQ hr.out.symm,aa.after aT.out (HW.out.after nI.out)⟩
   ·have Dy:(s==3)=false:=by simpa using c3
    by_cases c4:s=4
    ·subst c4;have hr:=zh (show gX n 4 ls l gV jI es=(decide (n.ids.length≠0)&&ka gV jI ls l es)by simp[gX])
     clear c1 kB c2 Bj c3 Dy;go_wp2_with fail;refine(su _ _ _ _ n ls k es l gV jI W (H.out.keep HW.out.below) (HL.out.keep HW.out.below) kw.out rK rL.out Kp.out Hk.out y_.out QS.out).mono ?_;rintro e W5 ⟨rfl,kT⟩;have nI:=zh kT;clear kT;go_wp2;go_ret
     exact⟨bQ (by rw[hr.out];first | rfl | simp),aa.after aT.out (HW.out.after nI.out)⟩
    ·have c4':(s==4)=false:=by simpa using c4
     have hr:=zh (show gX n s ls l gV jI es=(decide (n.ids.length≠0)&&kJ gV ls l es)by simp[gX,c1,c2,c3,c4])
     clear c1 c2 c3 c4;go_wp2_with fail;refine(vw _ _ _ _ n ls k es l gV W (H.out.keep HW.out.below) (HL.out.keep HW.out.below) kw.out rK rL.out Kp.out Hk.out y_.out).mono ?_;rintro e W5 ⟨rfl,kT⟩;have nI:=zh kT;clear kT;go_wp2;go_ret
     exact⟨bQ (by rw[hr.out];first | rfl | simp),aa.after aT.out (HW.out.after nI.out)⟩
theorem Nu (l:Int) (xs:List Int):xs.all (ey (1-l) (1-l)) = !(xs.any fun x=>x != 1-l):=by
 rw[List.not_any_eq_all_not];congr 1
 funext x
 rw[Bool.eq_iff_iff,ap];simp
 omega
theorem Nv (ls:List Int) (es:List (Int×Int)):((es.map (·.1)).map fun x=>ls.getD x.toNat 0)=bt ls es:=by simp[bt]
def sw (ls:List Int) (lo hi:Int):Bool:=ls.all (ey lo hi)
theorem DC (v:Value) (xs:List Int) (lo hi:Int) (w:World) (h:aY w v xs):
  Calls Tryz.prog 133 #[v,.int .i64 lo,.int .i64 hi] w fun e w'=>e=.returned (.bool (sw xs lo hi))/\w=w':=zH v xs lo hi w h
theorem BQ (v:Value) (xs:List Int) (lo hi:Int) (w:World) (h:aY w v xs):
  Calls Tryz.prog 99 #[v,.int .i64 lo,.int .i64 hi] w fun e w'=>e=.returned (.bool (sw xs lo hi))/\Below w.heap.size w w':=jZ v xs lo hi w h
theorem Nw (ve vi vn vl:Value) (n:ak) (s:Int) (ls:List Int) (k:Nat) (es:List (Int×Int)) (l gV jI:Int) (w:World) (h:aQ w ve vi vn n) (hl:aY w vl ls) (cY:1<=s) (vx:s<=5) (bW:n.ends[k]?=some es) (rK:es.length<=6) (eU:∀e∈es,0<=e.1/\e.1<ls.length)
  (tB:∀x∈l::bt ls es,0<=x/\x<=999999999999) (hk:ls[k]?=some l) (hid:n.ids.length≠0->n.ids[k]?=some gV) (nH:n.aea[k]?=some jI):
  Calls Tryz.prog 126 #[.agg #[ve,vi,vn],.int .i64 s,vl,.int .i64 k] w fun e w'=>e=.returned (.bool (gX n s ls l gV jI es))/\Below w.heap.size w w':=by
 obtain⟨w0,A,c,A2,c2,A3,c3,rfl,rfl,rfl,eV,hm,fJ,fB,HA,bK,aT,H,dL,dR,dU⟩:=zB h;clear h
 have HL:=zh (hl.keep aT.out)
 obtain⟨_,bl,ol,cl,l',e0,rfl,mh,tC,-,hd⟩:=hG HL.out (x:=(k:Int)) (by omega) (by have:=an hk;omega)
 obtain rfl:k=_:=by exact Int.ofNat.inj e0
 obtain rfl:l=l':=Option.some.inj (hk.symm.trans tC)
 obtain⟨_,_,hv,yX,nz,_⟩:=id hl;cases hv;unfold maxLen at nz;obtain⟨Ko,L5⟩:=tB l (by simp);have t0:=ae hd;have kw:=zh bW;have rL:=zh eU;have Kp:=zh tB;have Hk:=zh hk;have y_:=zh hid;have QS:=zh nH;have bB:aa w0 w0:=ad _;clear hd hk tC e0 hl bW eU tB hid nH
 go_enter Tryz.func126,Tryz.ntmps126
 go_upto_region 1 with(fail);rw[<- bK.out];go_wp2_with fail;refine(iZ _ _ _ n k es _ H.out kw.out (by omega)).mono ?_;rintro e W1 ⟨u1,rfl,dT,ay⟩;have rP:=zh dT.ints;have dC:Hid (aa w0 W1):=ay;clear dT ay bB;go_wp2_with fail
 refine(y7 _ _ ls (es.map (·.1)) _ (HL.out.keep dC.out.below) rP.out (by simp;omega) (fun x hx=>by obtain⟨e,he,rfl⟩:=List.mem_map.1 hx;exact rL.out e he)).mono ?_
 rw[Nv];rintro e W ⟨u,rfl,ho,hb⟩;have hlen:(bt ls es).length=es.length:=by simp[bt]
 have HU:=zh (show ∀X,aa W X->aY X u (bt ls es)from fun X hX=>ho.ints.keep hX.below)
 have HW:=zh (dC.out.trans hb);have cJ:=zh hlen;have yI:aa W W:=ad _;have dL:=ah dL HW.out;have dR:=ah dR HW.out;have dU:=ah dU HW.out;have t0:=ah t0 HW.out;clear ho hb hlen
 by_cases c1:s=1
 ·subst c1;have hr:=zh (show gX n 1 ls l gV jI es=(decide (l<=1)&&sw (bt ls es) (1-l) (1-l))by simp[gX,sw,Nu])
  have m1:IntKind.i64.wrap (1-l)=1-l:=aF _ (by omega) (by omega);go_upto_region 4 with(fail);clear yI;refine ar 20 (aa W) (by kernel_rfl) (by kernel_rfl) (by simp) (aj (ad _)) ?_;simp only[zT]
  iterate 6 (refine bU rfl ?_;simp only[zA])
  iterate 11 (refine im rfl rfl ?_;simp only[zA])
  refine dA (v:=?_) rfl rfl ?_ ?_;rotate_left;(intro hb;intro W hW;unfold dr;go_simp;(with_reducible refine(DC _ (bt ls es) _ _ W (HU.out W hW)).mono ?_);rintro e W' ⟨rfl,bN⟩;first | (refine⟨?_,aa.trans hW bN⟩;with_reducible rfl) | (subst bN;refine⟨?_,hW⟩;with_reducible rfl))
  simp only[zA]
  (first | refine bC rfl rfl ?_ | (refine bU rfl ?_));simp only[zA]
  refine bU rfl ?_;simp only[zA]
  intro W5 kA;have nI:=zh kA;clear kA m1;go_wp2;go_ret;exact⟨bQ hr.out.symm,aa.after aT.out (HW.out.after nI.out)⟩
 ·have kB:(s==1)=false:=by simpa using c1
  by_cases c2:s=2
  ·subst c2;have hr:=zh (show gX n 2 ls l gV jI es=(decide (l<=2) && !iB (bt ls es) l)by simp[gX])
   clear c1 kB;go_upto_region 6 with(fail);clear yI;refine aS 15 (aa W) (ad _) ?_;simp only[zT]
   iterate 6 (refine bU rfl ?_;simp only[zA])
   iterate 5 (refine im rfl rfl ?_;simp only[zA])
   refine dA (v:=?_) rfl rfl ?_ ?_;rotate_left;(intro hb;intro W hW;unfold dr;go_simp;(with_reducible refine(pS _ (bt ls es) _ W (HU.out W hW)).mono ?_);rintro e W' ⟨rfl,bN⟩;first | (refine⟨?_,aa.trans hW bN⟩;with_reducible rfl) | (subst bN;refine⟨?_,hW⟩;with_reducible rfl))
   simp only[zA]
   refine im rfl rfl ?_;simp only[zA]
   (first | refine bC rfl rfl ?_ | (refine bU rfl ?_));simp only[zA]
   refine bU rfl ?_;simp only[zA]
   intro W5 kA;have nI:=zh kA;clear kA;go_wp2;go_ret;exact⟨bQ hr.out.symm,aa.after aT.out (HW.out.after nI.out)⟩
  ·have Bj:(s==2)=false:=by simpa using c2
   by_cases c3:s=3
   ·subst c3;have hr:=zh (show gX n 3 ls l gV jI es=Gf l (bt ls es)by simp[gX,UE Ko])
    clear c1 kB c2 Bj;go_wp2_with fail
    refine(BM l _ (bt ls es) W Ko L5 (HU.out W (ad _)) (by rw[cJ.out];omega)).mono ?_
    rintro e W5 ⟨rfl,kT⟩;have nI:=zh kT;clear kT;go_wp2;go_ret;exact⟨bQ hr.out.symm,aa.after aT.out (HW.out.after nI.out)⟩
   ·have Dy:(s==3)=false:=by simpa using c3
    by_cases jw:n.ids.length=0
    ·have hr:=zh (show gX n s ls l gV jI es=false by simp[gX,c1,c2,c3,jw])
     have QQ:((n.ids.length:Int)==0)=true:=by simp[jw]
     have QT:decide (0<n.ids.length)=false:=by simp[jw]
     have UF:decide ((0:Int)<(n.ids.length:Int))=false:=by simp[jw]
     clear c1 c2 c3 jw;go_upto_region 9 with(fail);clear yI;refine aS 12 (aa W) (ad _) ?_;simp only[zT]
     iterate 5 (refine bU rfl ?_;simp only[zA])
     iterate 5 (refine mD rfl rfl (by simp[*]) ?_;simp only[zA])
     (first | refine bC rfl rfl ?_ | (refine bU rfl ?_));simp only[zA]
     refine bU rfl ?_;simp only[zA]
     intro W5 kA;have nI:=zh kA;clear kA;go_wp2;go_ret
     exact⟨bQ (by rw[hr.out];try simp),aa.after aT.out (HW.out.after nI.out)⟩
    ·have y8:=y_.out jw
     have UF:decide ((0:Int)<(n.ids.length:Int))=true:=by simp;omega
     have adH:decide (0<n.ids.length)=true:=by simp;omega
     by_cases c4:s=4
     ·subst c4;have hr:=zh (show gX n 4 ls l gV jI es=ka gV jI ls l es by simp[gX,jw])
      have UG:=zh y8;have abT:0<n.ids.length:=by omega
      clear c1 kB c2 Bj c3 Dy jw y8;go_wp2_with fail;refine(za _ _ _ _ n ls k es l gV jI W (H.out.keep HW.out.below) (HL.out.keep HW.out.below) kw.out rK rL.out Kp.out Hk.out UG.out QS.out).mono ?_;rintro e W5 ⟨rfl,kT⟩;have nI:=zh kT;clear kT;go_wp2;go_ret;exact⟨bQ hr.out.symm,aa.after aT.out (HW.out.after nI.out)⟩
     ·obtain rfl:s=5:=by omega
      have hr:=zh (show gX n 5 ls l gV jI es=kJ gV ls l es by simp[gX,jw])
      have UG:=zh y8;have abT:0<n.ids.length:=by omega
      clear c1 kB c2 Bj c3 Dy c4 jw y8;go_wp2_with fail;refine(zd _ _ _ _ n ls k es l gV jI W (H.out.keep HW.out.below) (HL.out.keep HW.out.below) kw.out rK rL.out Kp.out Hk.out UG.out QS.out).mono ?_;rintro e W5 ⟨rfl,kT⟩;have nI:=zh kT;clear kT;go_wp2;go_ret;exact⟨bQ hr.out.symm,aa.after aT.out (HW.out.after nI.out)⟩
def dY (n:ak) (s:Int) (ls:List Int):Bool:=al n&&ey 1 5 s&&((ls.length:Int)==(n.ends.length:Int))&&sw ls 0 999999999999
theorem kU (ve vi vn vl:Value) (n:ak) (s:Int) (ls:List Int) (w:World) (h:aQ w ve vi vn n) (hl:aY w vl ls):
  Calls Tryz.prog 112 #[.agg #[ve,vi,vn],.int .i64 s,vl] w fun e w'=>e=.returned (.bool (dY n s ls))/\Below w.heap.size w w':=by
 obtain⟨w0,A,c,A2,c2,A3,c3,rfl,rfl,rfl,eV,hm,fJ,fB,HA,bK,aT,H,dL,dR,dU⟩:=zB h;clear h
 have HL:=zh (hl.keep aT.out);obtain⟨AL,cL,rfl,yX,nz,_⟩:=hl;unfold maxLen at nz
 go_enter Tryz.func112,Tryz.ntmps112
 go_upto_region 1 with(fail);rw[<- bK.out];refine aS 19 (aa w0) (ad _) ?_;simp only[zT]
 refine bU rfl ?_;simp only[zA]
 refine fI ?_ rfl ?_ ?_;rotate_left;(intro W hW;unfold dr;go_simp;(with_reducible refine(q_ _ _ _ n W (H.out.keep hW.below)).mono ?_);rintro e W' ⟨rfl,bN⟩;first | (refine⟨?_,aa.trans hW bN⟩;with_reducible rfl) | (subst bN;refine⟨?_,hW⟩;with_reducible rfl))
 simp only[zA]
 refine bU rfl ?_;simp only[zA]
 refine im rfl rfl ?_;simp only[zA]
 refine dA (v:=?_) rfl rfl ?_ ?_;rotate_left;(intro hb;intro W hW;unfold dr;go_simp;(with_reducible refine(qW _ W).mono ?_);rintro e W' ⟨rfl,bN⟩;first | (refine⟨?_,aa.trans hW bN⟩;with_reducible rfl) | (subst bN;refine⟨?_,hW⟩;with_reducible rfl))
 simp only[zA]
 (first | refine bC rfl rfl ?_ | (refine bU rfl ?_));simp only[zA]
 refine bU rfl ?_;simp only[zA]
 iterate 6 (refine im rfl rfl ?_;simp only[zA])
 (first | refine bC rfl rfl ?_ | (refine bU rfl ?_));simp only[zA]
 refine bU rfl ?_;simp only[zA]
 refine im rfl rfl ?_;simp only[zA]
 refine dA (v:=?_) rfl rfl ?_ ?_;rotate_left;(intro hb;intro W hW;unfold dr;go_simp;(with_reducible refine(DC _ ls _ _ W (HL.out.keep hW.below)).mono ?_);rintro e W' ⟨rfl,bN⟩;first | (refine⟨?_,aa.trans hW bN⟩;with_reducible rfl) | (subst bN;refine⟨?_,hW⟩;with_reducible rfl))
 simp only[zA]
 (first | refine bC rfl rfl ?_ | (refine bU rfl ?_));simp only[zA]
 refine bU rfl ?_;simp only[zA]
 intro W hW;have HW:=zh hW;clear hW;go_wp2;go_ret;exact⟨rfl,aa.after aT.out HW.out⟩
theorem jx (ve vi vn vl:Value) (n:ak) (s:Int) (ls:List Int) (w:World) (h:aQ w ve vi vn n) (hl:aY w vl ls) (eP:iK n<=1048576):
  Calls Tryz.prog 60 #[.agg #[ve,vi,vn],.int .i64 s,vl] w fun e w'=>e=.returned (.bool (dY n s ls))/\Below w.heap.size w w':=by
 obtain⟨w0,A,c,A2,c2,A3,c3,rfl,rfl,rfl,eV,hm,fJ,fB,HA,bK,aT,H,dL,dR,dU⟩:=zB h;clear h
 have HL:=zh (hl.keep aT.out);obtain⟨AL,cL,rfl,yX,nz,_⟩:=hl;unfold maxLen at nz
 go_enter Tryz.func60,Tryz.ntmps60
 go_upto_region 1 with(fail);rw[<- bK.out];refine aS 19 (aa w0) (ad _) ?_;simp only[zT]
 refine bU rfl ?_;simp only[zA]
 refine fI ?_ rfl ?_ ?_;rotate_left;(intro W hW;unfold dr;go_simp;(with_reducible refine(j1 _ _ _ n W (H.out.keep hW.below) (Kr eP)).mono ?_);rintro e W' ⟨rfl,bN⟩;first | (refine⟨?_,aa.trans hW bN⟩;with_reducible rfl) | (subst bN;refine⟨?_,hW⟩;with_reducible rfl))
 simp only[zA]
 refine bU rfl ?_;simp only[zA]
 refine im rfl rfl ?_;simp only[zA]
 refine dA (v:=?_) rfl rfl ?_ ?_;rotate_left;(intro hb;intro W hW;unfold dr;go_simp;(with_reducible refine(ax _ W).mono ?_);rintro e W' ⟨rfl,bN⟩;first | (refine⟨?_,aa.trans hW bN⟩;with_reducible rfl) | (subst bN;refine⟨?_,hW⟩;with_reducible rfl))
 simp only[zA]
 (first | refine bC rfl rfl ?_ | (refine bU rfl ?_));simp only[zA]
 refine bU rfl ?_;simp only[zA]
 iterate 6 (refine im rfl rfl ?_;simp only[zA])
 (first | refine bC rfl rfl ?_ | (refine bU rfl ?_));simp only[zA]
 refine bU rfl ?_;simp only[zA]
 refine im rfl rfl ?_;simp only[zA]
 refine dA (v:=?_) rfl rfl ?_ ?_;rotate_left;(intro hb;intro W hW;unfold dr;go_simp;(with_reducible refine(BQ _ ls _ _ W (HL.out.keep hW.below)).mono ?_);rintro e W' ⟨rfl,bN⟩;first | (refine⟨?_,aa.trans hW bN⟩;with_reducible rfl) | (subst bN;refine⟨?_,hW⟩;with_reducible rfl))
 simp only[zA]
 (first | refine bC rfl rfl ?_ | (refine bU rfl ?_));simp only[zA]
 refine bU rfl ?_;simp only[zA]
 intro W hW;have HW:=zh hW;clear hW;go_wp2;go_ret;exact⟨rfl,aa.after aT.out HW.out⟩
def fR (n:ak) (s:Int) (ls:List Int) (k:Nat):Bool:=gX n s ls (ls.getD k 0) (n.ids.getD k 0) (n.aea.getD k 0) (n.ends.getD k [])
theorem Gj {n:ak} {s:Int} {ls:List Int} (h:dY n s ls=true) {k:Nat} (hk:k<n.ends.length):
  ∃es l gV jI,1<=s/\s<=5/\n.ends[k]?=some es/\es.length<=6/\(∀e∈es,0<=e.1/\e.1<ls.length)/\(∀x∈l::bt ls es,0<=x/\x<=999999999999)/\ls[k]?=some l/\(n.ids.length≠0->n.ids[k]?=some gV)/\n.aea[k]?=some jI/\fR n s ls k=gX n s ls l gV jI es:=by
 unfold dY at h;simp only[Bool.and_eq_true,beq_iff_eq]at h;obtain⟨⟨⟨h1,h2⟩,h3⟩,h4⟩:=h;have hs:=ap.1 h2;have hl:ls.length=n.ends.length:=by omega
 obtain⟨es,bW⟩:=aM n.ends k hk;obtain⟨l,Fc⟩:=aM ls k (by omega);obtain⟨r1,r2⟩:=bX h1 bW;unfold sw at h4;rw[List.all_eq_true]at h4;have ha:∀x∈ls,0<=x/\x<=999999999999:=fun x hx=>ap.1 (h4 x hx)
 unfold al at h1;simp only[Bool.and_eq_true]at h1;obtain⟨⟨⟨-,i1⟩,i2⟩,-⟩:=h1;unfold js at i2;simp only[Bool.and_eq_true,beq_iff_eq]at i2;obtain⟨jI,YE⟩:=aM n.aea k (by omega)
 have FG:n.ids.length≠0->n.ids[k]?=some (n.ids.getD k 0):=fun h0=>by
  unfold vb at i1;simp only[Bool.or_eq_true,Bool.and_eq_true,beq_iff_eq]at i1
  have:n.ids.length=n.ends.length:=by
   rcases i1 with e | ⟨e,-⟩
   ·exact absurd (by simpa using e) h0
   ·omega
  have tC:k<n.ids.length:=by omega
  rw[zDd,List.getElem?_eq_getElem tC];rfl
 exact⟨es,l,_,jI,hs.1,hs.2,bW,r1,fun e he=>by rw[hl];exact r2 e he,fun x hx=>ha x (Qz Fc (fun e he=>by rw[hl];exact r2 e he) hx),Fc,FG,YE,by simp[fR,bW,Fc,YE]⟩
theorem mL {n:ak} {s:Int} {ls:List Int} (h:dY n s ls=true):al n=true/\ls.length=n.ends.length/\n.ends.length<=40:=by
 unfold dY at h;simp only[Bool.and_eq_true,beq_iff_eq]at h
 exact⟨h.1.1.1,by have:=h.1.2;omega,(aE h.1.1.1).2⟩
def vU (ix:List (List (Int×Int))) (v:Int):Bool:=ey 0 ((ix.length:Int)-1) v
theorem Kt (ve vi vn:Value) (ix:List (List (Int×Int))) (v:Int) (w:World) (h:nU w ve ix):
  Calls Tryz.prog 108 #[.agg #[ve,vi,vn],.int .i64 v] w fun e w'=>e=.returned (.bool (vU ix v))/\Below w.heap.size w w':=lY ve vi vn ix v w h
theorem QU {a b c d:Bool} (h1:a=b) (h2:c=d):Ending.returned (.tuple #[.bool a,.bool c])=.returned (.tuple #[.bool b,.bool d]):=by rw[h1,h2]
def abU (n:ak) (s m:Int) (ls:List Int) (k:Nat):Bool:=if s=0 then abG m (ls.getD k 0) (bt ls (n.ends.getD k [])) else fR n s ls k
section
variable {W W' : World} {B : Nat} {ve vi vn vl : Value} {s m aU QK st : Int}
end
def SU (n:ak) (s m aU QK:Int):List Int×Int×Int:=Ux (Yt n (abU n s m)) aU QK (Yr QK 0 n.ends.length 0) (List.replicate n.ends.length (-1)) 0 0
def gD (x:Int) (N j:Nat):List Value:=List.replicate j (.int .i64 x)++List.replicate (N-j) (.int .i64 0)
theorem xr {x:Int} {N j:Nat} (h:j<=N):(gD x N j).length=N:=by simp[gD];omega
theorem qK {x:Int} {N j m:Nat} (h:j+m<=N):splice (gD x N j) j (List.replicate m (.int .i64 x))=gD x N (j+m):=by
 unfold splice gD
 rw[List.take_append_of_le_length (by simp),List.take_replicate,Nat.min_self,List.length_replicate,List.drop_append,List.drop_replicate,List.length_replicate,List.drop_replicate,show j-(j+m)=0 by omega,show N-j-(j+m-j)=N-(j+m)by omega,List.replicate_zero,List.nil_append,<- List.append_assoc,List.replicate_append_replicate]
theorem QV {w:World} {base g N:Nat} {x:Int} (h:w.heap[g]?=some (.cells (gD x N N).toArray 3 (0,0))) (hb:base<=g) (hN:N<=1000000):Own w base (.slice (some ⟨g,0,none⟩) N N) (List.replicate N x):=by
 unfold Own
 refine⟨by simp,.inr ⟨g,N,_,by simp,hb,h,by simp,by unfold maxLen;omega,by simp[gD],?_⟩⟩
 simp[gD]
theorem DD {w:World} {g N j:Nat} {x:Int} (h:w.heap[g]?=some (.cells (gD x N j).toArray 3 (0,0))) {i:Nat} (hi:i<j):w.cell? ⟨g,i,none⟩=some (.int .i64 x):=by
 have:(gD x N j)[i]?=some (.int .i64 x):=by
  unfold gD;rw[List.getElem?_append_left (by simpa using hi)];simp[hi]
 simp[World.cell?,h,this]
theorem QW {w:World} {b:Nat} {x:Int} (h:w.cell? ⟨b,0,none⟩=some (.int .i64 x)) {j:Nat} {v:Value} (hj:(List.replicate 1 (Value.int .i64 x))[j]?=some v):w.cell? ((⟨b,0,none⟩:Addr).add j)=some v:=by
 have h1:=an hj;simp at h1
 subst h1;simp at hj
 subst hj;rw[Go.Addr.add_lit];exact h
theorem Nx {w:World} {g N j m:Nat} {x:Int} (h:w.heap[g]?=some (.cells (gD x N j).toArray 3 (0,0))) (hm:m<=j) {i:Nat} {v:Value} (hi:(List.replicate m (Value.int .i64 x))[i]?=some v):w.cell? ((⟨g,0,none⟩:Addr).add i)=some v:=by
 have h1:=an hi;rw[List.length_replicate]at h1;rw[List.getElem?_replicate,if_pos h1]at hi;rw[<- Option.some.inj hi,Go.Addr.add_lit,Nat.zero_add];exact DD h (by omega)
theorem l_ (b c:Nat) (x:Int) (N:Nat) (w:World) (hN:1<=N) (Ku:N<=1000000) (hc:w.cell? ⟨b,0,none⟩=some (.int .i64 x)):
  Calls Tryz.prog 150 #[.slice (some ⟨b,0,none⟩) 1 c,.int .i64 N] w fun e w'=>∃u,e=.returned u/\Own w' w.heap.size u (List.replicate N x)/\Below w.heap.size w w':=by
 have e1:IntKind.u64.wrap (N:Int)=N:=IntWalk.u64_in _ (by omega);have hm:=Tryz.bits_Mul 1 N (by omega) (by omega) w;rw[show(1*N/18446744073709551616:Nat)=0 by omega,show(1*N%18446744073709551616:Nat)=N by omega]at hm
 have Hm:=zh hm;have e2:IntKind.i64.wrap (N:Int)=N:=aF _ (by omega) (by omega);have m2:=t_ N Ku;have Hc:=zh hc;have hn0:¬((N:Int)<0):=by omega
 have aet:¬(9223372036854775807<(N:Int)):=by omega
 clear hm hc
 go_enter Tryz.func150,Tryz.ntmps150
 go_wp2_with fail;refine Hm.out.mono ?_;rintro e w1 ⟨rfl,rfl⟩
 have HG2:Hid ((w1.alloc (.cells (Array.replicate N (Value.int .i64 0)) 3)).heap[w1.heap.size]?=some (.cells (gD x N 0).toArray 3 (0,0))):=by
  show(w1.heap.push _)[w1.heap.size]?=_
  rw[Array.getElem?_push_size];simp[gD]
 go_wp2_with (refine wpList_copy_splice rfl _ _ 25 25 rfl 3 Tryz.underlying25 (by kernel_rfl) (some ⟨w1.heap.size,0,none⟩) (some ⟨b,0,none⟩) N N 1 c rfl rfl w1.heap.size 0 (gD x N 0) 3 HG2.out (List.replicate 1 (.int .i64 x)) (by rw[List.length_replicate];exact(Nat.min_eq_left hN).symm) (fun _=>⟨rfl,_,rfl,fun j v hj=>QW (bc (am _ _) Hc.out) hj⟩) (by rw[xr (Nat.zero_le _),List.length_replicate];omega) (by simp[Value.oneCell']) w1.heap.size w1 (am _ _) (Nat.le_refl _) ?_;intro w3 SV bN)
 obtain⟨g,hg⟩:∃g,g=w1.heap.size:=⟨_,rfl⟩
 have Hg:=zh hg;rw[<- hg]at SV ⊢;clear hg
 have HG3:Hid (w3.heap[g]?=some (.cells (gD x N 1).toArray 3 (0,0))):=by
  have:=SV.out
  rw[show List.replicate 1 (Value.int .i64 x)=List.replicate 1 (.int .i64 x)from rfl,qK (by omega)]at this;exact this
 have Qb:=zh bN;clear SV bN;go_wp2
 go_loopw [8] (fun nv wr=>∃j:Nat,1<=j/\j<=N/\nv=.int .i64 j/\wr.heap[g]?=some (.cells (gD x N j).toArray 3 (0,0))/\Below w1.heap.size w1 wr) (fun nv _=>N-(intOf nv).toNat)
 case atStart=>exact⟨1,Nat.le_refl _,hN,rfl,HG3.out,Qb.out⟩
 case round=>
  obtain⟨j,uf,hj,rfl,zF,hb⟩:=hrel;have HG:=zh zF;have HB:=zh hb;clear zF hb
  by_cases hlt:j<N
  ·obtain⟨m,hm⟩:∃m,m=min j (N-j):=⟨_,rfl⟩
   have rM:1<=m:=by omega
   have fJ:j+m<=N:=by omega
   have UH:m<=j:=by omega
   have hNj:¬N=j:=by omega
   have Hmm:=zh hm;clear hm;have m3:IntKind.i64.wrap ((j:Int)+m)=(j:Int)+m:=aF _ (by omega) (by omega);have bB:aa w1 wr:=HB.out;go_upto_region 9 with(fail);refine eR (w0:=w1) 9 [false,false,false,false,false,false,false,true,true] (by kernel_rfl) (by kernel_rfl) (bB) ?_;simp only[eE,ea,zT]
   iterate 7 (apply aR rfl;(intro W hW;go_simp;with_reducible rfl);simp only[zA])
   obtain⟨W,dE⟩:∃W,W=World.drew wr:=⟨_,rfl⟩
   rw[<- dE]
   have hW:aa w1 W:=by rw[dE];exact aj (bB)
   refine ee (fun Q' HQ=>?_)
   (refine wpList_copy_splice rfl _ _ 25 25 rfl 3 Tryz.underlying25 (by kernel_rfl) (some ⟨g,j,none⟩) (some ⟨g,0,none⟩) (N-j) (N-j) j N (by go_simp) (by go_simp) g j (gD x N j) 3 (by rw[dE];exact HG.out) (List.replicate m (.int .i64 x)) (by rw[List.length_replicate];exact Hmm.out) (fun _=>⟨rfl,_,rfl,fun i v hi=>Nx (by rw[dE];exact HG.out) UH hi⟩) (by rw[xr hj];simpa using fJ) (by simp[Value.oneCell']) w1.heap.size w1 hW (by rw[Hg.out];exact Nat.le_refl _) ?_);intro w4 y6 tn;refine HQ _ _ tn ?_;replace hW:aa w1 w4:=tn;simp only[List.length_replicate,goInt]
   (try simp only[zA])
   refine dG (v:=?_) rfl ?_ hW ?_;rotate_left;(go_simp;with_reducible rfl)
   simp only[zA];simp only[bz]
   have HG4:Hid (w4.heap[g]?=some (.cells (gD x N (j+m)).toArray 3 (0,0))):=by
    have:=y6.out
    rw[qK fJ]at this;exact this
   have MQ:=zh hW;clear y6 tn hW dE bB;go_wp2;go_roundw
   case rel=>exact⟨j+m,by omega,fJ,by go_num,HG4.out,MQ.out⟩
   case measure=>simp[intOf];omega
  ·obtain rfl:j=N:=by omega
   go_wp2;go_ret
   exact⟨_,rfl,QV HG.out (by rw[Hg.out];exact Nat.le_refl _) Ku,HB.out⟩
section
variable {W W' : World} {B : Nat} {ve vi vn va vl : Value}
end
theorem lm (ve vi vn:Value) (n:ak) (w:World) (h:aQ w ve vi vn n) (hN:1<=n.ends.length) (Ku:n.ends.length<=1000000):
  Calls Tryz.prog 140 #[.agg #[ve,vi,vn]] w fun e w'=>∃u,e=.returned u/\Own w' w.heap.size u (List.replicate n.ends.length (-1))/\Below w.heap.size w w':=by
 obtain⟨w0,A,c,A2,c2,A3,c3,rfl,rfl,rfl,eV,hm,fJ,fB,HA,bK,aT,H,dL,dR,dU⟩:=zB h;clear h
 go_enter Tryz.func140,Tryz.ntmps140
 go_upto_region 1 with(fail);rw[<- bK.out];go_wp2_with fail;refine(l_ w0.heap.size 1 (-1) n.ends.length _ hN Ku (by simp)).mono ?_;rintro e w1 ⟨u,rfl,ho,hb⟩;have Ho:=zh ho;have Hb:Hid (aa w0 w1):=aa.after (ag _ (ad _)) hb;clear ho hb;go_wp2;go_ret
 exact⟨_,rfl,Ho.out.mono (by have:=aT.out.size;simp;omega),aa.after aT.out Hb.out⟩
def I2 (R:Option (Option (List Int))):Bool:=match R with | some (some _)=>true | _=>false
def TcU (len:Nat) (R:Option (Option (List Int))) (U:Value):Prop:=match R with | some (some _)=>∃g c,U=.slice (some ⟨g,0,none⟩) len c | _=>U=.slice none 0 0
def fE (n:ak):Option (Option (List Int)):=gh n 400002 (List.replicate n.ends.length (-1)) 0 0
theorem rm (ve vi vn:Value) (n:ak) (w:World) (h:aQ w ve vi vn n) (hn:al n=true):
  Calls Tryz.prog 78 #[.agg #[ve,vi,vn]] w fun e w'=>∃U,e=.returned (.tuple #[U,.bool (fE n).isSome])/\TcU n.ends.length (fE n) U/\Below w.heap.size w w':=by
 have lN:=aE hn;have kz:=lN.1;have np:=lN.2;clear lN;have yZ:Hid (∀(k:Nat) (es:List (Int×Int)),n.ends[k]?=some es->es.length<=6/\∀e∈es,0<=e.1/\e.1<n.ends.length):=fun (k:Nat) (es:List (Int×Int)) he=>bX hn he
 clear hn;obtain⟨R,hR⟩:∃R,R=fE n:=⟨_,rfl⟩
 rw[<- hR];have HR:=zh hR;clear hR
 obtain⟨w0,A,c,A2,c2,A3,c3,rfl,rfl,rfl,eV,hm,fJ,fB,HA,bK,aT,H,dL,dR,dU⟩:=zB h;clear h
 have bB:aa w0 w0:=ad _
 go_enter Tryz.func78,Tryz.ntmps78
 go_upto_region 1 with(fail);rw[<- bK.out];go_wp2_with fail;refine(lm _ _ _ n w0 H.out kz (by omega)).mono ?_;rintro e w1 ⟨u,rfl,ho,ay⟩
 obtain⟨g,cU,rfl,hUl,hUm⟩:∃g cU,u=.slice (some ⟨g,0,none⟩) n.ends.length cU/\n.ends.length<=cU/\cU<=maxLen:=by
  rcases dz ho with⟨h0,WF⟩ | ⟨g,cc,h0,_,_,h3,h4⟩
  ·rw[List.length_replicate]at WF;omega
  ·rw[List.length_replicate]at h0 h3;exact⟨g,cc,h0,h3,h4⟩
 unfold maxLen at hUm;have rP:=zh ho;have SW:=zh (World.ownsRow.lt ho g (by simp[Value.ownBlock])).1;have HS1:=zh (bB.trans ay);clear ho ay bB;go_wp2
 go_loopw [5,6] (fun us uv wr=>∃(l:List Int) (v:Int) (s f:Nat),us=.int .i64 (s:Int)/\uv=.int .i64 v/\Own wr w0.heap.size (.slice (some ⟨g,0,none⟩) n.ends.length cU) l/\vo n l v s f/\gh n f l v s=R/\aa w0 wr) (fun us uv _=>oB (intOf uv) (intOf us).toNat)
 case atStart=>exact⟨_,0,0,400002,rfl,rfl,rP.out,xn,HR.out.symm,HS1.out⟩
 case round=>
  obtain⟨l,v,s,f,rfl,rfl,ho,jd,dH,bA⟩:=hrel;have Ho:=zh ho;have mn:=zh jd;have mM:=zh dH;have hlen:=jd.len;have Ny:=jd.lo;have Af:=jd.hi;have I3:=jd.st;clear ho dH jd
  by_cases hv:(n.ends.length:Int)<=v
  ·have hr:Hid (R=some (some l)):=by show _=_;rw[<- mM.out];exact BC mn.out hv
   have HS:=zh bA;obtain rfl:v=(n.ends.length:Int):=by omega
   clear bA hv Ny Af I3;go_wp2
   go_ret2
   exact⟨_,by rw[hr.out];rfl,by rw[hr.out];exact⟨g,cU,rfl⟩,aa.after aT.out HS.out⟩
  ·by_cases C3:v<0
   ·have hr:Hid (R=some none):=by show _=_;rw[<- mM.out];exact BE mn.out (by omega) C3
    have HS:=zh bA;have hvl:v<(n.ends.length:Int):=by omega
    clear bA hv Ny Af I3;go_wp2
    go_ret2
    exact⟨_,by rw[hr.out];rfl,by rw[hr.out];rfl,aa.after aT.out HS.out⟩
   ·obtain⟨k,rfl⟩:=Int.eq_ofNat_of_zero_le (show 0<=v by omega)
    have hk:k<n.ends.length:=by omega
    obtain⟨x,hx⟩:=aM l k (by omega);have sk:=mn.out.rng x (List.mem_of_getElem? hx);obtain⟨f',rfl⟩:=BH mn.out;have cz:=Ho.out.cell hx;have fz:=Ho.out.free k;have Hx:=zh hx;have m1:IntKind.i64.wrap ((k:Int)-1)=(k:Int)-1:=aF _ (by omega) (by omega);have m2:IntKind.i64.wrap (x+1)=x+1:=aF _ (by omega) (by omega);have m3:IntKind.i64.wrap ((s:Int)+1)=(s:Int)+1:=aF _ (by omega) (by omega);have m4:IntKind.i64.wrap ((k:Int)+1)=(k:Int)+1:=aF _ (by omega) (by omega);clear hx hv C3 Ny Af
    by_cases h2:x=2
    ·subst h2;have Hb:=zh (BF mn.out hk Hx.out);clear m2 m3 m4 sk;go_wp2;go_roundw
     case rel=>exact⟨l.set k (-1),(k:Int)-1,s,f',rfl,by first | rfl | go_num,Ho.out.set (k:=k) (-1),Hb.out.2,by rw[<- Hb.out.1];exact mM.out,bA.setCell SW.out _⟩
     case measure=>(simp[intOf,oB];try omega)
    ·have h2':(x=2)=False:=by simp[h2]
     have h2b:(x==2)=false:=by simp[h2]
     by_cases hs:s=200000
     ·have hr:Hid (R=none):=by show _=_;rw[<- mM.out];subst hs;exact BG mn.out hk Hx.out h2
      have HS:=zh bA
      have cY:((s:Int)=200000)=True:=by simp;omega
      have d_:(s=200000)=True:=by simp[hs]
      have hZ:((s:Int)==200000)=true:=by simp;omega
      clear bA m1 m2 m3 m4 sk h2 hs I3;go_wp2
      go_ret2
      exact⟨_,by rw[hr.out];rfl,by rw[hr.out];rfl,aa.after aT.out HS.out⟩
     ·have MZ:((s:Int)=200000)=False:=by simp;omega
      have d_:(s=200000)=False:=by simp[hs]
      have hZ:((s:Int)==200000)=false:=by simp;omega
      have Hg:=zh (Nd mn.out hk Hx.out h2 hs);have Hs:=zh hs;clear h2 hs sk;obtain⟨es,bW⟩:=aM n.ends k hk;obtain⟨r1,r2⟩:=yZ.out k es bW;have kw:=zh bW;have qL:=zh r1;have yJ:=zh r2;clear bW r1 r2;go_upto_region 14 with(fail);obtain⟨l2,lL⟩:∃l2,l2=l.set k (x+1):=⟨_,rfl⟩
      rw[<- lL]at Hg;obtain⟨W0,CH⟩:∃W0,W0=wr.setCell ⟨g,k,none⟩ (.int .i64 (x+1)):=⟨_,rfl⟩
      rw[<- CH]
      have eX:Hid (Own W0 w0.heap.size (.slice (some ⟨g,0,none⟩) n.ends.length cU) l2):=by show Own _ _ _ _;rw[CH,lL];exact Ho.out.set (k:=k) (x+1)
      have DE:l2.length=n.ends.length:=by rw[lL,List.length_set];exact hlen
      have oQ:l2[k]?=some (x+1):=by rw[lL,List.getElem?_set_self (by omega)]
      have lp:Hid (aa w0 W0):=by show aa _ _;rw[CH];exact bA.setCell SW.out _
      have c2:=ae (eX.out.cell oQ)
      have YF:=zh (show ∀X,aa W0 X->aY X (.slice (some ⟨g,0,none⟩) n.ends.length cU) l2 from fun X hX=>by have:=(Own.since eX.out hX).ints;exact this)
      have t0:=ah dL lp.out;have t1:=ah dR lp.out;have t2:=ah dU lp.out;have hz:aa W0 W0:=ad _;have Nz:=zh DE;have Hx2:=zh oQ
      have iL:=zh (show fQ n l2 k = !(iB (bt l2 es) (x+1))by unfold fQ iB;rw[au kw.out,au oQ])
      have HP:=zh (And.intro dL (And.intro dR dU));clear CH lL DE oQ bA cz fz dL dR dU;refine cH (w0:=W0) 9 [false,false,false,true,false,false,false,false,true] (by kernel_rfl) (by kernel_rfl) (hz) ?_;simp only[eE,ea,zT]
      iterate 7 (apply aR rfl;(intro W hW;go_simp;with_reducible rfl);simp only[zA])
      intro W hW;refine Or.inl ⟨rfl,?_⟩
      go_simp
      (with_reducible refine(sf _ _ _ _ n l2 k es W (H.out.keep (lp.out.after hW).below) (YF.out W hW) kw.out (by have:=qL.out;omega) (by rw[Nz.out];exact yJ.out)).mono ?_)
      rintro e W' ⟨un,rfl,eY,hbn⟩;refine⟨_,rfl,hW.trans hbn,?_⟩
      replace hW:=hW.trans hbn
      have s9:=zh eY.ints;clear eY hbn
      (try simp only[zA])
      refine Or.inl ⟨rfl,?_⟩
      go_simp
      (with_reducible refine(mm _ (bt l2 es) (x+1) _ s9.out).mono ?_)
      rintro e W' ⟨rfl,rfl⟩;refine⟨_,rfl,hW,?_⟩
      replace hW:=hW
      skip
      (try simp only[zA])
      simp only[bz];have i8:=zh (Own.since eX.out hW);have NA:=zh (lp.out.after hW);obtain⟨dL,dR,dU⟩:=HP.out;cases hb:iB (bt l2 es) (x+1)
      ·have Kv:fQ n l2 k=true:=by rw[iL.out,hb];rfl
       rw[Kv]at Hg;clear hW hz t0 t1 t2 c2 hb m1 m2 m3;go_wp2;go_roundw
       case rel=>exact⟨l2,(k:Int)+1,s+1,f',by go_num,by first | rfl | go_num,i8.out,by have:=Hg.out.2;simpa using this,by have:=Hg.out.1;simp at this;rw[<- this];exact mM.out,NA.out⟩
       case measure=>(have:=Hs.out;have:=mn.out.st;simp[intOf,oB];try omega)
      ·have Kv:fQ n l2 k=false:=by rw[iL.out,hb];rfl
       rw[Kv]at Hg;clear hW hz t0 t1 t2 c2 hb m1 m2 m3;go_wp2;go_roundw
       case rel=>exact⟨l2,(k:Int),s+1,f',by go_num,by first | rfl | go_num,i8.out,by have:=Hg.out.2;simpa using this,by have:=Hg.out.1;simp at this;rw[<- this];exact mM.out,NA.out⟩
       case measure=>(have:=Hs.out;have:=mn.out.st;simp[intOf,oB];try omega)
def jM (n:ak) (p:Nat) (w:Nat):Bool:=decide (ai n w=p)&&decide (n.aea.getD w 0=1)
def cS (n:ak) (p k:Nat):List Nat:=(List.range k).filter (jM n p)
def jT (n:ak) (p:Nat):List Nat:=cS n p n.ends.length
theorem kc (n:ak) (p k:Nat):cS n p (k+1)=cS n p k++(if jM n p k=true then [k] else []):=by
 unfold cS;rw[List.range_succ,List.filter_append];congr 1
 cases h:jM n p k <;> simp[h]
theorem Gk (n:ak) (p k:Nat):(cS n p k).length<=k:=by
 unfold cS;exact Nat.le_trans (List.length_filter_le _ _) (by simp)
theorem DF (n:ak) (p:Nat) {j k:Nat} (h:j<=k):(cS n p j).length<=(cS n p k).length:=by
 induction k with
 | zero => obtain rfl : j = 0 := by omega
           exact Nat.le_refl _
 | succ k ih=>
  rcases Nat.lt_or_ge j (k+1)with h1 | h1
  ·rw[kc,List.length_append]
   have:=ih (by omega)
   omega
  ·obtain rfl:j=k+1:=by omega
   exact Nat.le_refl _
def jN (n:ak) (p k:Nat):Int:=match cS n p k with
 | [] => -1
 | w::_=>(w:Int)
theorem DG (n:ak) (p k:Nat) : -1<=jN n p k/\jN n p k<k:=by
 unfold jN
 cases h:cS n p k with
 | nil=>show -1<=(-1:Int)/\(-1:Int)<k;omega
 | cons w l=>
  have:w∈cS n p k:=by rw[h];exact List.mem_cons_self
  have:=List.mem_range.1 (List.mem_filter.1 this).1
  show -1<=(w:Int)/\(w:Int)<k
  constructor <;> omega
theorem tE (n:ak) (p k:Nat):jN n p k<0↔(cS n p k).length=0:=by
 unfold jN
 cases h:cS n p k with
 | nil=>simp
 | cons w l=>simp
theorem ro {n:ak} {p k:Nat} (h:jM n p k=false):cS n p (k+1)=cS n p k/\jN n p (k+1)=jN n p k:=by
 have:cS n p (k+1)=cS n p k:=by rw[kc,h];simp
 exact⟨this,by unfold jN;rw[this]⟩
theorem DH {n:ak} {p k:Nat} (h:jM n p k=true) (h0:jN n p k<0):(cS n p (k+1)).length=1/\jN n p (k+1)=k:=by
 have h1:cS n p k=[]:=List.eq_nil_of_length_eq_zero ((tE n p k).1 h0)
 have:cS n p (k+1)=[k]:=by rw[kc,h,h1];rfl
 exact⟨by rw[this];rfl,by unfold jN;rw[this]⟩
theorem Kw {n:ak} {p k:Nat} (h:jM n p k=true) (h0:¬jN n p k<0) (hk:k<n.ends.length):(jT n p).length≠1:=by
 have h1:(cS n p k).length≠0:=fun e=>h0 ((tE n p k).2 e)
 have h2:(cS n p (k+1)).length=(cS n p k).length+1:=by rw[kc,h];simp
 have h3:=DF n p (show k+1<=n.ends.length by omega)
 unfold jT;omega
def gE (n:ak) (v:Nat):Int:=jN n (ai n v) n.ends.length
def jy (n:ak) (v:Nat):Bool:=(jT n (ai n v)).length==1
def eL (n:ak):Bool:=(List.range n.ends.length).all (jy n)
def pk (n:ak) (k:Nat):List Int:=(List.range k).map (gE n)
theorem Gl (n:ak) (k:Nat):pk n (k+1)=pk n k++[gE n k]:=by unfold pk;rw[List.range_succ,List.map_append];rfl
theorem Ag (n:ak) (k:Nat):(pk n k).length=k:=by simp[pk]
theorem rp {n:ak} {v:Nat} (hv:v<n.ends.length) (h:(jT n (ai n v)).length≠1):eL n=false:=by
 rw[Bool.eq_false_iff];intro hc
 have:=List.all_eq_true.1 hc v (List.mem_range.2 hv)
 exact h (by simpa[jy]using this)
def jU (n:ak) (p k:Nat):Nat:=((List.range k).filter fun w=>decide (ai n w=p)).length
def jz (n:ak) (p:Nat):Nat:=jU n p n.ends.length
theorem uH (n:ak) (p k:Nat):jU n p (k+1)=jU n p k+(if ai n k=p then 1 else 0):=by
 unfold jU;rw[List.range_succ,List.filter_append,List.length_append];congr 1
 by_cases h:ai n k=p
 ·rw[if_pos h,List.filter_cons_of_pos (by simpa using h)];rfl
 ·rw[if_neg h,List.filter_cons_of_neg (by simpa using h)];rfl
theorem Ah (n:ak) (p k:Nat):jU n p k<=k:=by
 unfold jU;exact Nat.le_trans (List.length_filter_le _ _) (by simp)
def mp (n:ak) (v:Nat):Bool:=!(jz n (ai n v)%2==1)
def iT (n:ak):Bool:=(List.range n.ends.length).all (mp n)
theorem sy {k v:Nat} {f:Nat->Bool} (hv:v<k) (h:f v=false):(List.range k).all f=false:=by
 rw[Bool.eq_false_iff];intro hc;rw[List.all_eq_true.1 hc v (List.mem_range.2 hv)]at h;cases h
def Ai (n:ak):Bool:=(ch n).any fun e=>decide (e.1=e.2.2.1)&&decide (e.2.1=e.2.2.2)
def sA (n:ak):Bool:=!Ai n&&decide ((ch n).length+jR n n.ends.length=n.ends.length)
def e_ (n:ak) (s:Int):Bool:=
 if s=1 then ll n
 else if s=2 then I2 (fE n)
 else if s=3 then sA n
 else if n.ids.length=0 then false
 else if s=4 then eL n
 else iT n
def lq (n:ak) (s:Int):Bool:=if s=2 then (fE n).isSome else true
def qm (n:ak) (s:Int):Bool:=al n&&ey 1 5 s
def aB (n:ak) (s:Int):Bool:=qm n s&&e_ n s
def aC (n:ak) (s:Int):Bool:=qm n s&&lq n s
def gj (n:ak) (v i:Nat):Int×Int:=(n.ends.getD v []).getD i (0,0)
def mq (n:ak) (v i:Nat):Int:=(bS (gW n (et v i (gj n v i))) v).getD (gj n v i).1.toNat 0
def qM (out d:Int):Int:=if 0<=d/\(out=0\/d+1<out) then d+1 else out
def qN (n:ak) (v:Nat) (out:Int) (i:Nat):Int:=if gj n v i=((v:Int),(i:Int)) then out else qM out (mq n v i)
def BS (n:ak) (v k:Nat) (out:Int):Int:=(List.range k).foldl (qN n v) out
def Qc (n:ak) (k:Nat):Int:=(List.range k).foldl (fun out v=>BS n v (n.ends.getD v []).length out) 0
def BU (n:ak):Int:=Qc n n.ends.length
theorem tF (n:ak) (v k:Nat) (out:Int):BS n v (k+1) out=qN n v (BS n v k out) k:=by unfold BS;rw[List.range_succ,List.foldl_append];rfl
theorem xt (n:ak) (k:Nat):Qc n (k+1)=BS n k (n.ends.getD k []).length (Qc n k):=by unfold Qc;rw[List.range_succ,List.foldl_append];rfl
theorem Kx {out d:Int} (h:0<=out):0<=qM out d:=by unfold qM;split <;> omega
theorem Gm {out d:Int} (h:0<=out):qM out d=0↔out=0/\d<0:=by
 unfold qM
 split
 ·rename_i h1;omega
 ·rename_i h1;omega
theorem Ky {n:ak} {v:Nat} {out:Int} {i:Nat} (h:0<=out):0<=qN n v out i:=by
 unfold qN
 split
 ·exact h
 ·exact Kx h
def Aj (n:ak) (v i:Nat):Prop:=gj n v i=((v:Int),(i:Int))\/mq n v i<0
theorem Gn {n:ak} {v:Nat} {out:Int} {i:Nat} (h:0<=out):qN n v out i=0↔out=0/\Aj n v i:=by
 unfold qN Aj
 split
 ·rename_i e;exact⟨fun h=>⟨h,.inl e⟩,fun h=>h.1⟩
 ·rename_i e
  rw[Gm h];exact⟨fun h=>⟨h.1,.inr h.2⟩,fun h=>⟨h.1,h.2.resolve_left e⟩⟩
theorem DI {n:ak} {v k:Nat} {out:Int} (h:0<=out):0<=BS n v k out:=by
 induction k with
 | zero=>exact h
 | succ k ih=>rw[tF];exact Ky ih
theorem Kz {n:ak} {v k:Nat} {out:Int} (h:0<=out):BS n v k out=0↔out=0/\∀i,i<k->Aj n v i:=by
 induction k with
 | zero=>exact⟨fun h=>⟨h,fun i hi=>by omega⟩,fun h=>h.1⟩
 | succ k ih=>
  rw[tF,Gn (DI h),ih];constructor
  ·rintro⟨⟨h1,h2⟩,h3⟩
   exact⟨h1,fun i hi=>by rcases Nat.lt_or_ge i k with h4 | h4;exact h2 i h4;rw[show i=k by omega];exact h3⟩
  ·rintro⟨h1,h2⟩;exact⟨⟨h1,fun i hi=>h2 i (by omega)⟩,h2 k (by omega)⟩
theorem QX {n:ak} {k:Nat}:0<=Qc n k:=by
 induction k with
 | zero=>exact Int.le_refl _
 | succ k ih=>rw[xt];exact DI ih
theorem NB {n:ak} {k:Nat}:Qc n k=0↔∀v,v<k->∀i,i<(n.ends.getD v []).length->Aj n v i:=by
 induction k with
 | zero=>exact⟨fun _ v hv=>by omega,fun _=>rfl⟩
 | succ k ih=>
  rw[xt,Kz QX,ih];constructor
  ·rintro⟨h1,h2⟩ v hv;rcases Nat.lt_or_ge v k with h4 | h4
   ·exact h1 v h4
   ·rw[show v=k by omega];exact h2
  ·intro h;exact⟨fun v hv=>h v (by omega),h k (by omega)⟩
theorem gF {n:ak} {v i:Nat} {f:Int×Int}:bv n v i f↔i<(n.ends.getD v []).length/\gj n v i=f:=by
 unfold bv gj
 rw[List.getElem?_eq_some_iff];constructor
 ·rintro⟨h,rfl⟩;exact⟨h,au (List.getElem?_eq_getElem h)⟩
 ·rintro⟨h,rfl⟩;exact⟨h,(au (List.getElem?_eq_getElem h)).symm⟩
def uI (n:ak):Bool:=(List.range n.ends.length).any fun v=>(List.range (n.ends.getD v []).length).any fun i=>decide (gj n v i=((v:Int),(i:Int)))
theorem I4 {n:ak} (hn:al n=true):Ai n=uI n:=by
 rw[Bool.eq_iff_iff]
 unfold Ai uI
 simp only[List.any_eq_true,List.mem_range,decide_eq_true_eq,Bool.and_eq_true];constructor
 ·rintro⟨e,he,h1,h2⟩;obtain⟨v,i,f,hv,hp,hk,rfl⟩:=b7.1 he;obtain⟨h3,h4⟩:=gF.1 hp;refine⟨v,hv,i,h3,?_⟩;rw[h4];exact Prod.ext h1.symm h2.symm
 ·rintro⟨v,hv,i,hi,h⟩;refine⟨_,b7.2 ⟨v,i,_,hv,gF.2 ⟨hi,h⟩,?_,rfl⟩,rfl,rfl⟩;unfold jL;simp
theorem QY {n:ak} (hn:al n=true):sA n=(!uI n&&BU n==0):=by
 unfold sA;rw[I4 hn];cases hs:uI n
 ·simp only[Bool.not_false,Bool.true_and];rw[Bool.eq_iff_iff,decide_eq_true_eq,beq_iff_eq,rf hn];unfold BU;rw[NB]
  have hns:∀v i,v<n.ends.length->i<(n.ends.getD v []).length->gj n v i≠((v:Int),(i:Int)):=by
   intro v i hv hi e
   have:uI n=true:=List.any_eq_true.2 ⟨v,List.mem_range.2 hv,List.any_eq_true.2 ⟨i,List.mem_range.2 hi,decide_eq_true e⟩⟩
   rw[hs]at this;cases this
  have rJ:∀v i,v<n.ends.length->∀(hi:i<(n.ends.getD v []).length),(¬f6 (gW n (et v i (gj n v i))) v (gj n v i).1.toNat↔Aj n v i):=by
   intro v i hv hi;have hp:bv n v i (gj n v i):=gF.2 ⟨hi,rfl⟩;obtain⟨p1,p2,p3,p4,p5⟩:=df hn hp;have hc:=re hn (et v i (gj n v i)) (j9 hn hp);have d9:(gW n (et v i (gj n v i))).ends.length=n.ends.length:=by simp[gW]
   have:=h_ hc (v:=v) (w:=(gj n v i).1.toNat) (by omega) (by omega)
   unfold Aj;rw[<- this];unfold mq;constructor
   ·intro h;exact .inr (by omega)
   ·rintro(h | h)
    ·exact absurd h (hns v i hv hi)
    ·omega
  constructor
  ·intro h v hv i hi;exact(rJ v i hv hi).1 (h v i _ (gF.2 ⟨hi,rfl⟩))
  ·intro h v i f hp;obtain⟨h1,h2⟩:=gF.1 hp;have hv:=(df hn hp).1;subst h2;exact(rJ v i hv h1).2 (h v hv i h1)
 ·simp
theorem mN (n:ak):(bn n).length=n.ends.length:=by simp[bn]
theorem xx (n:ak) (k:Nat):(List.range (k+1)).map (fun v=>(ai n v:Int))=(List.range k).map (fun v=>(ai n v:Int))++[(ai n k:Int)]:=by rw[List.range_succ,List.map_append];rfl
theorem jh (ve vi vn:Value) (n:ak) (w:World) (h:aQ w ve vi vn n) (hn:al n=true):
  Calls Tryz.prog 164 #[.agg #[ve,vi,vn]] w fun e w'=>∃u,e=.returned u/\Own w' w.heap.size u (bn n)/\Below w.heap.size w w':=by
 have eS:=aE hn;have rg:=eS.1;have rh:=eS.2;have Hn:=zh hn
 obtain⟨w0,A,c,A2,c2,A3,c3,rfl,rfl,rfl,eV,hm,fJ,fB,HA,bK,aT,H,dL,dR,dU⟩:=zB h;clear h
 have bB:aa w0 w0:=ad _;clear hn eS;unfold bn
 go_enter Tryz.func164,Tryz.ntmps164
 go_upto_region 1 with(fail);rw[<- bK.out];go_wp2
 go_loopw [3,8] (fun u i wr=>∃k:Nat,k<=n.ends.length/\i=.int .i64 k/\Own wr w0.heap.size u ((List.range k).map fun v=>(ai n v:Int))/\aa w0 wr) (fun _ i _=>n.ends.length-(intOf i).toNat)
 case atStart=>exact⟨0,Nat.zero_le _,rfl,by simpa using bH _ w0.heap.size,bB⟩
 case round=>
  obtain⟨k,hk,rfl,ho,bA⟩:=hrel;have Ho:=zh ho;have Hs:=zh bA;clear ho bB
  by_cases hlt:k<n.ends.length
  ·have m3:IntKind.i64.wrap ((k:Int)+1)=(k:Int)+1:=aF _ (by omega) (by omega)
   have cJ:Hid (((List.range k).map fun v=>(ai n v:Int)).length+1<=17592186044416):=by show _<=_;simp;omega
   have jm:=zh (xx n k);go_wp2_with fail;refine(F7 _ _ _ n k 40 wr (H.out.keep Hs.out.below) Hn.out hlt).mono ?_;rintro e w2 ⟨u2,rfl,dl,bj⟩;have hl:=xl Hn.out hlt
   obtain⟨gd,m,cd,rfl,hm⟩:∃gd m cd,u2=.slice (some ⟨gd,0,none⟩) m cd/\0<m:=by
    rcases dl.cases with⟨-,e1⟩ | ⟨gd,cd,rfl,iH,lh⟩
    ·rw[e1]at hl;cases hl
    ·refine⟨gd,_,cd,rfl,?_⟩
     cases hq:fg n k 40 n.ends.length with
     | nil=>rw[hq]at hl;cases hl
     | cons a b=>simp
   obtain⟨y,hy⟩:∃y,y=(ai n k:Int):=⟨_,rfl⟩
   rw[<- hy]at hl jm;have Nb:=dl.cell hl;have rM:(0:Int)<m:=by omega
   have b_:=zh (Hs.out.after bj);have eX:=zh (Ho.out.since bj);have Hy:=zh hy;clear dl bj hl bA hy
   go_wp2_with (at_builtin;refine dy rfl _ _ rfl rfl (eX.out.since (ag _ (ad _))) w2.heap.size y rfl (by simp[go_sem]) cJ.out (ag _ b_.out) ?_;intro g cc w3 eH hZ)
   have i8:=zh eH;have ew:=zh hZ;clear eH hZ;go_wp2;go_roundw
   case rel=>exact⟨k+1,by omega,by first | rfl | go_num,by rw[jm.out];have:=i8.out;simpa using this,ew.out⟩
   case measure=>simp[intOf];omega
  ·obtain rfl:k=n.ends.length:=by omega
   clear hk hlt;go_wp2;go_ret;exact⟨_,rfl,Ho.out.mono aT.out.size,aa.after aT.out Hs.out⟩
end Go.Proofs.YtgmdpppljkmabaaGreat
