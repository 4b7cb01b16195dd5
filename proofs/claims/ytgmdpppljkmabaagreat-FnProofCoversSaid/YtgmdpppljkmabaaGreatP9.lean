/- Parts of the proof: walks of functions and plain laws. -/
import Derived.Test.YtgmdpppljkmabaaGreatP0
import Derived.Test.YtgmdpppljkmabaaGreatP1
import Derived.Test.YtgmdpppljkmabaaGreatP8
import Derived.Test.YtgmdpppljkmabaaGreatP5
import Derived.Test.YtgmdpppljkmabaaGreatP2
import Derived.Test.YtgmdpppljkmabaaGreatP4
import Derived.Test.YtgmdpppljkmabaaGreatP6
import Derived.Test.YtgmdpppljkmabaaGreatP3
import Derived.Laws.CopyOwn
import Derived.Shelf.Bits.Mul64
set_option maxRecDepth 100000
set_option maxHeartbeats 16000000
namespace Go.Proofs.YtgmdpppljkmabaaGreat
open Go Go.RowKit
theorem DN (v:Value) (xs:List Int) (x:Int) (w:World) (h:aO w v xs):
  Calls Tryz.prog 201 #[v,.int .i64 x] w fun e w'=>∃i:Int,e=.returned (.int .i64 i)/\decide (0<=i)=jx xs x/\w=w':=by
 obtain⟨A,c,rfl,fg,hm,hA⟩:=h;unfold maxLen at hm;have HA:=zh hA;clear hA
 go_enter Tryz.func201,Tryz.ntmps201
 go_wp2
 go_loop [8] (fun i=>∃k:Nat,k<=xs.length/\i=.int .i64 k/\x∉xs.take k) (fun i=>xs.length-(intOf i).toNat)
 case atStart=>exact⟨0,Nat.zero_le _,rfl,by simp⟩
 case round=>
  obtain⟨k,hk,rfl,jH⟩:=hrel;have pc:=zh jH;clear jH
  by_cases az:k<xs.length
  ·obtain⟨y,hy⟩:=aA xs k az;obtain⟨b,off,rfl,gy⟩:=HA.out k y hy;have Hy:=zh hy;clear hy;cases CH:(x==y)
   ·have SD:=zh CH;go_wp2
    go_round
    case rel=>
     refine⟨k+1,by omega,by go_num,?_⟩
     rw[aV Hy.out];simp only[List.mem_append,List.mem_singleton,not_or];exact⟨pc.out,by simpa using SD.out⟩
    case measure=>simp[intOf];omega
   ·have SD:=zh CH;go_wp2;go_ret;refine⟨_,rfl,?_,rfl⟩;have e:x=y:=by simpa using SD.out
    rw[e];unfold jx;simp[List.mem_of_getElem? Hy.out]
  ·go_wp2;go_ret;refine⟨_,rfl,?_,rfl⟩
   have:=pc.out
   rw[js xs az]at this;unfold jx;simpa using this
theorem wH (v:Value) (xs:List Int) (x:Int) (w:World) (h:aO w v xs):
  Calls Tryz.prog 145 #[v,.int .i64 x] w fun e w'=>e=.returned (.bool (jx xs x))/\w=w':=by
 have H:=zh h;obtain⟨A,c,rfl,fg,hm,hA⟩:=h;clear hA
 go_enter Tryz.func145,Tryz.ntmps145
 go_wp2_with fail;refine(DN _ xs x _ H.out).mono ?_;rintro e w1 ⟨i,rfl,hi,rfl⟩;have Hi:=zh hi;clear hi;go_wp2;go_ret;exact⟨bJ Hi.out,rfl⟩
def fS (n:aj) (s:Int) (ls:List Int) (l fN iF:Int) (es:List (Int×Int)):Bool:=
 if s=1 then decide (l<=1) && !((aR ls es).any fun x=>x != 1-l)
 else if s=2 then decide (l<=2) && !jx (aR ls es) l
 else if s=3 then ws l (aR ls es)
 else if s=4 then decide (n.ids.length≠0)&&kh fN iF ls l es
 else decide (n.ids.length≠0)&&km fN ls l es
theorem Bi:∀args w,(callFunc 172 args).run Tryz.prog w=.ok (.enter 172 args) w:=enters_of Tryz.func172 (by kernel_rfl) rfl
theorem J2 (x l:Int) (b:Nat) (w:World) (h0:0<=l) (h1:l<=999999999999) (hc:w.cell? ⟨b,0,none⟩=some (.int .i64 l)):
  Calls Tryz.prog 172 #[.int .i64 x,.pointer (some ⟨b,0,none⟩)] w fun e w'=>e=.returned (.bool (x != 1-l))/\w=w':=by
 go_enter Tryz.func172,Tryz.ntmps172
 go_wp2;go_ret;exact⟨rfl,rfl⟩
theorem GJ (l:Int) (b:Nat) (w:World) (xs:List Int) (h0:0<=l) (h1:l<=999999999999) (hc:w.cell? ⟨b,0,none⟩=some (.int .i64 l)):mH w 172 #[.pointer (some ⟨b,0,none⟩)] (fun x=>x != 1-l) xs:=by
 intro x _ X hX;exact(J2 x l b X h0 h1 (bc hX hc)).mono fun _ _ ⟨he,hw⟩=>⟨he,hw ▸ Below.refl _ _⟩
theorem se (ve vi vn vl:Value) (n:aj) (s:Int) (ls:List Int) (k:Nat) (es:List (Int×Int)) (l fN iF:Int) (w:World) (h:aC w ve vi vn n) (hl:aO w vl ls) (dr:1<=s) (Me:s<=5) (bM:n.ends[k]?=some es) (p8:es.length<=6) (d_:∀e∈es,0<=e.1/\e.1<ls.length)
  (qw:∀x∈l::aR ls es,0<=x/\x<=999999999999) (hk:ls[k]?=some l) (hid:n.ids.length≠0->n.ids[k]?=some fN) (lD:n.acn[k]?=some iF):
  Calls Tryz.prog 109 #[.agg #[ve,vi,vn],.int .i64 s,vl,.int .i64 k] w fun e w'=>e=.returned (.bool (fS n s ls l fN iF es))/\Below w.heap.size w w':=by
 obtain⟨w0,A,c,A2,c2,A3,c3,rfl,rfl,rfl,fg,hm,f8,fP,HA,bS,aT,H,dP,d9,dV⟩:=zB h;clear h
 have HL:=zh (hl.keep aT.out)
 obtain⟨_,bl,ol,cl,l',e0,rfl,pQ,tk,-,hd⟩:=gG HL.out (x:=(k:Int)) (by omega) (by have:=al hk;omega)
 obtain rfl:k=_:=by exact Int.ofNat.inj e0
 obtain rfl:l=l':=Option.some.inj (hk.symm.trans tk)
 obtain⟨_,_,hv,yo,mF,_⟩:=id hl;cases hv;unfold maxLen at mF;obtain⟨GG,IN⟩:=qw l (by simp);have t0:=ae hd;have jZ:=zh bM;have pO:=zh d_;have GH:=zh qw;have Hk:=zh hk;have wu:=zh hid;have M3:=zh lD;clear hd hk tk e0 hl bM d_ qw hid lD
 go_enter Tryz.func109,Tryz.ntmps109
 go_upto_region 1 with(fail);rw[<- bS.out];refine tU (w0:=w0) 7 9 14 18 10 l (aR ls es) (by kernel_rfl) (by kernel_rfl) rfl (aa _) rfl rfl ⟨_,_,_,rfl⟩ ⟨_,_,_,rfl⟩ ⟨_,_,_,rfl⟩ (by decide) (by simp) (by simp) ?_;simp only[List.take_succ_cons,List.take_zero]
 iterate 7 (apply bv rfl;(intro W hW;go_simp;with_reducible rfl);simp only[zA])
 refine⟨rfl,⟨rfl,fun W hW=>?_⟩,?_⟩
 ·unfold j9
  go_simp
  refine(Am _ _ _ _ n ls k es W (H.out.keep hW.below) (HL.out.keep hW.below) jZ.out (by omega) pO.out).mono ?_;rintro e W' ⟨u,rfl,ho,hb⟩;exact⟨u,rfl,ho,hb⟩
 intro u b W hW ho hI;simp only[zA];have g_:(aR ls es).length=es.length:=by simp[aR]
 have HU:=zh (show ∀X,ab W X->aO X u (aR ls es)from fun X hX=>ho.ints.keep hX.below)
 obtain⟨Bu,du,hu,_⟩:=id ho.ints;rw[g_]at hu;have q0:=ae hI.cells.1;have HW:=zh hW;have dz:=zh g_;rw[hu];rw[hu]at HU;have vR:ab W W:=aa _;have dP:=ag dP hW;have d9:=ag d9 hW;have dV:=ag dV hW;unfold Mw;clear ho hI hW g_ hu t0
 by_cases c1:s=1
 ·subst c1;have hr:=zh (show fS n 1 ls l fN iF es=(decide (l<=1) && !((aR ls es).any fun x=>x != 1-l))by simp[fS])
  go_upto_region 4 with(fail);clear vR;refine aE 8 (ab W) (aa _) ?_;simp only[zT]
  iterate 3 (refine b_ rfl ?_;simp only[zA])
  iterate 2 (refine iL rfl rfl ?_;simp only[zA])
  refine dl (v:=?_) rfl rfl ?_ ?_;rotate_left;(intro hb;intro W hW;unfold da;go_simp;(with_reducible refine(lw _ (aR ls es) _ _ (fun x=>x != 1-l) W (HU.out W hW) Bi (GJ l b W (aR ls es) GG IN (q0 W hW))).mono ?_);rintro e W' ⟨rfl,bB⟩;first | (refine⟨?_,ab.trans hW bB⟩;with_reducible rfl) | (subst bB;refine⟨?_,hW⟩;with_reducible rfl))
  simp only[zA]
  refine iL rfl rfl ?_;simp only[zA]
  (first | refine bK rfl rfl ?_ | (refine b_ rfl ?_));simp only[zA]
  intro W5 jN;have ma:=zh jN;clear jN;go_wp2;go_ret;exact⟨bJ hr.out.symm,ab.after aT.out (HW.out.after ma.out)⟩
 ·have jO:(s==1)=false:=by simpa using c1
  by_cases c2:s=2
  ·subst c2;have hr:=zh (show fS n 2 ls l fN iF es=(decide (l<=2) && !jx (aR ls es) l)by simp[fS])
   clear c1 jO;go_upto_region 6 with(fail);clear vR;refine aE 9 (ab W) (aa _) ?_;simp only[zT]
   iterate 3 (refine b_ rfl ?_;simp only[zA])
   iterate 2 (refine iL rfl rfl ?_;simp only[zA])
   refine dl (v:=?_) rfl rfl ?_ ?_;rotate_left;(intro hb;intro W hW;unfold da;go_simp;(with_reducible refine(wH _ (aR ls es) _ W (HU.out W hW)).mono ?_);rintro e W' ⟨rfl,bB⟩;first | (refine⟨?_,ab.trans hW bB⟩;with_reducible rfl) | (subst bB;refine⟨?_,hW⟩;with_reducible rfl))
   simp only[zA]
   refine iL rfl rfl ?_;simp only[zA]
   (first | refine bK rfl rfl ?_ | (refine b_ rfl ?_));simp only[zA]
   refine b_ rfl ?_;simp only[zA]
   intro W5 jN;have ma:=zh jN;clear jN;go_wp2;go_ret;exact⟨bJ hr.out.symm,ab.after aT.out (HW.out.after ma.out)⟩
  ·have wI:(s==2)=false:=by simpa using c2
   by_cases c3:s=3
   ·subst c3;have hr:=zh (show fS n 3 ls l fN iF es=ws l (aR ls es)by simp[fS])
    clear c1 jO c2 wI;go_wp2_with fail
    refine(qz l _ (aR ls es) W GG IN (HU.out W (aa _)) (by rw[dz.out];omega)).mono ?_
    rintro e W5 ⟨rfl,pS⟩;have ma:=zh pS;clear pS;go_wp2;go_ret;exact⟨bJ hr.out.symm,ab.after aT.out (HW.out.after ma.out)⟩
   ·have Bf:(s==3)=false:=by simpa using c3
    by_cases c4:s=4
    ·subst c4;have hr:=zh (show fS n 4 ls l fN iF es=(decide (n.ids.length≠0)&&kh fN iF ls l es)by simp[fS])
     clear c1 jO c2 wI c3 Bf;go_wp2_with fail;refine(qA _ _ _ _ n ls k es l fN iF W (H.out.keep HW.out.below) (HL.out.keep HW.out.below) jZ.out p8 pO.out GH.out Hk.out wu.out M3.out).mono ?_;rintro e W5 ⟨rfl,pS⟩;have ma:=zh pS;clear pS;go_wp2;go_ret
     exact⟨bJ (by rw[hr.out];first | rfl | simp),ab.after aT.out (HW.out.after ma.out)⟩
    ·have c4':(s==4)=false:=by simpa using c4
     have hr:=zh (show fS n s ls l fN iF es=(decide (n.ids.length≠0)&&km fN ls l es)by simp[fS,c1,c2,c3,c4])
     clear c1 c2 c3 c4;go_wp2_with fail;refine(sN _ _ _ _ n ls k es l fN W (H.out.keep HW.out.below) (HL.out.keep HW.out.below) jZ.out p8 pO.out GH.out Hk.out wu.out).mono ?_;rintro e W5 ⟨rfl,pS⟩;have ma:=zh pS;clear pS;go_wp2;go_ret
     exact⟨bJ (by rw[hr.out];first | rfl | simp),ab.after aT.out (HW.out.after ma.out)⟩
theorem J3 (l:Int) (xs:List Int):xs.all (fF (1-l) (1-l)) = !(xs.any fun x=>x != 1-l):=by
 rw[List.not_any_eq_all_not];congr 1
 funext x
 rw[Bool.eq_iff_iff,bz];simp
 omega
theorem J4 (ls:List Int) (es:List (Int×Int)):((es.map (·.1)).map fun x=>ls.getD x.toNat 0)=aR ls es:=by simp[aR]
def sf (ls:List Int) (lo hi:Int):Bool:=ls.all (fF lo hi)
theorem Bj (v:Value) (xs:List Int) (lo hi:Int) (w:World) (h:aO w v xs):
  Calls Tryz.prog 133 #[v,.int .i64 lo,.int .i64 hi] w fun e w'=>e=.returned (.bool (sf xs lo hi))/\w=w':=xk v xs lo hi w h
theorem yO (v:Value) (xs:List Int) (lo hi:Int) (w:World) (h:aO w v xs):
  Calls Tryz.prog 99 #[v,.int .i64 lo,.int .i64 hi] w fun e w'=>e=.returned (.bool (sf xs lo hi))/\Below w.heap.size w w':=lc v xs lo hi w h
theorem Bk (ve vi vn vl:Value) (n:aj) (s:Int) (ls:List Int) (k:Nat) (es:List (Int×Int)) (l fN iF:Int) (w:World) (h:aC w ve vi vn n) (hl:aO w vl ls) (dr:1<=s) (Me:s<=5) (bM:n.ends[k]?=some es) (p8:es.length<=6) (d_:∀e∈es,0<=e.1/\e.1<ls.length)
  (qw:∀x∈l::aR ls es,0<=x/\x<=999999999999) (hk:ls[k]?=some l) (hid:n.ids.length≠0->n.ids[k]?=some fN) (lD:n.acn[k]?=some iF):
  Calls Tryz.prog 126 #[.agg #[ve,vi,vn],.int .i64 s,vl,.int .i64 k] w fun e w'=>e=.returned (.bool (fS n s ls l fN iF es))/\Below w.heap.size w w':=by
 obtain⟨w0,A,c,A2,c2,A3,c3,rfl,rfl,rfl,fg,hm,f8,fP,HA,bS,aT,H,dP,d9,dV⟩:=zB h;clear h
 have HL:=zh (hl.keep aT.out)
 obtain⟨_,bl,ol,cl,l',e0,rfl,pQ,tk,-,hd⟩:=gG HL.out (x:=(k:Int)) (by omega) (by have:=al hk;omega)
 obtain rfl:k=_:=by exact Int.ofNat.inj e0
 obtain rfl:l=l':=Option.some.inj (hk.symm.trans tk)
 obtain⟨_,_,hv,yo,mF,_⟩:=id hl;cases hv;unfold maxLen at mF;obtain⟨GG,IN⟩:=qw l (by simp);have t0:=ae hd;have jZ:=zh bM;have pO:=zh d_;have GH:=zh qw;have Hk:=zh hk;have wu:=zh hid;have M3:=zh lD;have aU:ab w0 w0:=aa _;clear hd hk tk e0 hl bM d_ qw hid lD
 go_enter Tryz.func126,Tryz.ntmps126
 go_upto_region 1 with(fail);rw[<- bS.out];go_wp2_with fail;refine(iu _ _ _ n k es _ H.out jZ.out (by omega)).mono ?_;rintro e W1 ⟨u1,rfl,gR,aN⟩;have vS:=zh gR.ints;have dM:Hid (ab w0 W1):=aN;clear gR aN aU;go_wp2_with fail
 refine(wm _ _ ls (es.map (·.1)) _ (HL.out.keep dM.out.below) vS.out (by simp;omega) (fun x hx=>by obtain⟨e,he,rfl⟩:=List.mem_map.1 hx;exact pO.out e he)).mono ?_
 rw[J4];rintro e W ⟨u,rfl,ho,hb⟩;have g_:(aR ls es).length=es.length:=by simp[aR]
 have HU:=zh (show ∀X,ab W X->aO X u (aR ls es)from fun X hX=>ho.ints.keep hX.below)
 have HW:=zh (dM.out.trans hb);have dz:=zh g_;have vR:ab W W:=aa _;have dP:=ag dP HW.out;have d9:=ag d9 HW.out;have dV:=ag dV HW.out;have t0:=ag t0 HW.out;clear ho hb g_
 by_cases c1:s=1
 ·subst c1;have hr:=zh (show fS n 1 ls l fN iF es=(decide (l<=1)&&sf (aR ls es) (1-l) (1-l))by simp[fS,sf,J3])
  have m1:IntKind.i64.wrap (1-l)=1-l:=aH _ (by omega) (by omega);go_upto_region 4 with(fail);clear vR;refine av 20 (ab W) (by kernel_rfl) (by kernel_rfl) (by simp) (ah (aa _)) ?_;simp only[zT]
  iterate 6 (refine b_ rfl ?_;simp only[zA])
  iterate 11 (refine iL rfl rfl ?_;simp only[zA])
  refine dl (v:=?_) rfl rfl ?_ ?_;rotate_left;(intro hb;intro W hW;unfold da;go_simp;(with_reducible refine(Bj _ (aR ls es) _ _ W (HU.out W hW)).mono ?_);rintro e W' ⟨rfl,bB⟩;first | (refine⟨?_,ab.trans hW bB⟩;with_reducible rfl) | (subst bB;refine⟨?_,hW⟩;with_reducible rfl))
  simp only[zA]
  (first | refine bK rfl rfl ?_ | (refine b_ rfl ?_));simp only[zA]
  refine b_ rfl ?_;simp only[zA]
  intro W5 jN;have ma:=zh jN;clear jN m1;go_wp2;go_ret;exact⟨bJ hr.out.symm,ab.after aT.out (HW.out.after ma.out)⟩
 ·have jO:(s==1)=false:=by simpa using c1
  by_cases c2:s=2
  ·subst c2;have hr:=zh (show fS n 2 ls l fN iF es=(decide (l<=2) && !jx (aR ls es) l)by simp[fS])
   clear c1 jO;go_upto_region 6 with(fail);clear vR;refine aE 15 (ab W) (aa _) ?_;simp only[zT]
   iterate 6 (refine b_ rfl ?_;simp only[zA])
   iterate 5 (refine iL rfl rfl ?_;simp only[zA])
   refine dl (v:=?_) rfl rfl ?_ ?_;rotate_left;(intro hb;intro W hW;unfold da;go_simp;(with_reducible refine(nK _ (aR ls es) _ W (HU.out W hW)).mono ?_);rintro e W' ⟨rfl,bB⟩;first | (refine⟨?_,ab.trans hW bB⟩;with_reducible rfl) | (subst bB;refine⟨?_,hW⟩;with_reducible rfl))
   simp only[zA]
   refine iL rfl rfl ?_;simp only[zA]
   (first | refine bK rfl rfl ?_ | (refine b_ rfl ?_));simp only[zA]
   refine b_ rfl ?_;simp only[zA]
   intro W5 jN;have ma:=zh jN;clear jN;go_wp2;go_ret;exact⟨bJ hr.out.symm,ab.after aT.out (HW.out.after ma.out)⟩
  ·have wI:(s==2)=false:=by simpa using c2
   by_cases c3:s=3
   ·subst c3;have hr:=zh (show fS n 3 ls l fN iF es=DL l (aR ls es)by simp[fS,Qz GG])
    clear c1 jO c2 wI;go_wp2_with fail
    refine(yL l _ (aR ls es) W GG IN (HU.out W (aa _)) (by rw[dz.out];omega)).mono ?_
    rintro e W5 ⟨rfl,pS⟩;have ma:=zh pS;clear pS;go_wp2;go_ret;exact⟨bJ hr.out.symm,ab.after aT.out (HW.out.after ma.out)⟩
   ·have Bf:(s==3)=false:=by simpa using c3
    by_cases iT:n.ids.length=0
    ·have hr:=zh (show fS n s ls l fN iF es=false by simp[fS,c1,c2,c3,iT])
     have M1:((n.ids.length:Int)==0)=true:=by simp[iT]
     have Uo:decide (0<n.ids.length)=false:=by simp[iT]
     have Uq:decide ((0:Int)<(n.ids.length:Int))=false:=by simp[iT]
     clear c1 c2 c3 iT;go_upto_region 9 with(fail);clear vR;refine aE 12 (ab W) (aa _) ?_;simp only[zT]
     iterate 5 (refine b_ rfl ?_;simp only[zA])
     iterate 5 (refine nI rfl rfl (by simp[*]) ?_;simp only[zA])
     (first | refine bK rfl rfl ?_ | (refine b_ rfl ?_));simp only[zA]
     refine b_ rfl ?_;simp only[zA]
     intro W5 jN;have ma:=zh jN;clear jN;go_wp2;go_ret
     exact⟨bJ (by rw[hr.out];try simp),ab.after aT.out (HW.out.after ma.out)⟩
    ·have wt:=wu.out iT
     have Uq:decide ((0:Int)<(n.ids.length:Int))=true:=by simp;omega
     have abO:decide (0<n.ids.length)=true:=by simp;omega
     by_cases c4:s=4
     ·subst c4;have hr:=zh (show fS n 4 ls l fN iF es=kh fN iF ls l es by simp[fS,iT])
      have QF:=zh wt;have Z7:0<n.ids.length:=by omega
      clear c1 jO c2 wI c3 Bf iT wt;go_wp2_with fail;refine(wv _ _ _ _ n ls k es l fN iF W (H.out.keep HW.out.below) (HL.out.keep HW.out.below) jZ.out p8 pO.out GH.out Hk.out QF.out M3.out).mono ?_;rintro e W5 ⟨rfl,pS⟩;have ma:=zh pS;clear pS;go_wp2;go_ret;exact⟨bJ hr.out.symm,ab.after aT.out (HW.out.after ma.out)⟩
     ·obtain rfl:s=5:=by omega
      have hr:=zh (show fS n 5 ls l fN iF es=km fN ls l es by simp[fS,iT])
      have QF:=zh wt;have Z7:0<n.ids.length:=by omega
      clear c1 jO c2 wI c3 Bf c4 iT wt;go_wp2_with fail;refine(wG _ _ _ _ n ls k es l fN iF W (H.out.keep HW.out.below) (HL.out.keep HW.out.below) jZ.out p8 pO.out GH.out Hk.out QF.out M3.out).mono ?_;rintro e W5 ⟨rfl,pS⟩;have ma:=zh pS;clear pS;go_wp2;go_ret;exact⟨bJ hr.out.symm,ab.after aT.out (HW.out.after ma.out)⟩
def ed (n:aj) (s:Int) (ls:List Int):Bool:=ak n&&fF 1 5 s&&((ls.length:Int)==(n.ends.length:Int))&&sf ls 0 999999999999
theorem mc (ve vi vn vl:Value) (n:aj) (s:Int) (ls:List Int) (w:World) (h:aC w ve vi vn n) (hl:aO w vl ls):
  Calls Tryz.prog 112 #[.agg #[ve,vi,vn],.int .i64 s,vl] w fun e w'=>e=.returned (.bool (ed n s ls))/\Below w.heap.size w w':=by
 obtain⟨w0,A,c,A2,c2,A3,c3,rfl,rfl,rfl,fg,hm,f8,fP,HA,bS,aT,H,dP,d9,dV⟩:=zB h;clear h
 have HL:=zh (hl.keep aT.out);obtain⟨AL,cL,rfl,yo,mF,_⟩:=hl;unfold maxLen at mF
 go_enter Tryz.func112,Tryz.ntmps112
 go_upto_region 1 with(fail);rw[<- bS.out];refine aE 19 (ab w0) (aa _) ?_;simp only[zT]
 refine b_ rfl ?_;simp only[zA]
 refine fc ?_ rfl ?_ ?_;rotate_left;(intro W hW;unfold da;go_simp;(with_reducible refine(lY _ _ _ n W (H.out.keep hW.below)).mono ?_);rintro e W' ⟨rfl,bB⟩;first | (refine⟨?_,ab.trans hW bB⟩;with_reducible rfl) | (subst bB;refine⟨?_,hW⟩;with_reducible rfl))
 simp only[zA]
 refine b_ rfl ?_;simp only[zA]
 refine iL rfl rfl ?_;simp only[zA]
 refine dl (v:=?_) rfl rfl ?_ ?_;rotate_left;(intro hb;intro W hW;unfold da;go_simp;(with_reducible refine(oW _ W).mono ?_);rintro e W' ⟨rfl,bB⟩;first | (refine⟨?_,ab.trans hW bB⟩;with_reducible rfl) | (subst bB;refine⟨?_,hW⟩;with_reducible rfl))
 simp only[zA]
 (first | refine bK rfl rfl ?_ | (refine b_ rfl ?_));simp only[zA]
 refine b_ rfl ?_;simp only[zA]
 iterate 6 (refine iL rfl rfl ?_;simp only[zA])
 (first | refine bK rfl rfl ?_ | (refine b_ rfl ?_));simp only[zA]
 refine b_ rfl ?_;simp only[zA]
 refine iL rfl rfl ?_;simp only[zA]
 refine dl (v:=?_) rfl rfl ?_ ?_;rotate_left;(intro hb;intro W hW;unfold da;go_simp;(with_reducible refine(Bj _ ls _ _ W (HL.out.keep hW.below)).mono ?_);rintro e W' ⟨rfl,bB⟩;first | (refine⟨?_,ab.trans hW bB⟩;with_reducible rfl) | (subst bB;refine⟨?_,hW⟩;with_reducible rfl))
 simp only[zA]
 (first | refine bK rfl rfl ?_ | (refine b_ rfl ?_));simp only[zA]
 refine b_ rfl ?_;simp only[zA]
 intro W hW;have HW:=zh hW;clear hW;go_wp2;go_ret;exact⟨rfl,ab.after aT.out HW.out⟩
theorem md (ve vi vn vl:Value) (n:aj) (s:Int) (ls:List Int) (w:World) (h:aC w ve vi vn n) (hl:aO w vl ls) (fO:iO n<=1048576):
  Calls Tryz.prog 60 #[.agg #[ve,vi,vn],.int .i64 s,vl] w fun e w'=>e=.returned (.bool (ed n s ls))/\Below w.heap.size w w':=by
 obtain⟨w0,A,c,A2,c2,A3,c3,rfl,rfl,rfl,fg,hm,f8,fP,HA,bS,aT,H,dP,d9,dV⟩:=zB h;clear h
 have HL:=zh (hl.keep aT.out);obtain⟨AL,cL,rfl,yo,mF,_⟩:=hl;unfold maxLen at mF
 go_enter Tryz.func60,Tryz.ntmps60
 go_upto_region 1 with(fail);rw[<- bS.out];refine aE 19 (ab w0) (aa _) ?_;simp only[zT]
 refine b_ rfl ?_;simp only[zA]
 refine fc ?_ rfl ?_ ?_;rotate_left;(intro W hW;unfold da;go_simp;(with_reducible refine(ec _ _ _ n W (H.out.keep hW.below) (xJ fO)).mono ?_);rintro e W' ⟨rfl,bB⟩;first | (refine⟨?_,ab.trans hW bB⟩;with_reducible rfl) | (subst bB;refine⟨?_,hW⟩;with_reducible rfl))
 simp only[zA]
 refine b_ rfl ?_;simp only[zA]
 refine iL rfl rfl ?_;simp only[zA]
 refine dl (v:=?_) rfl rfl ?_ ?_;rotate_left;(intro hb;intro W hW;unfold da;go_simp;(with_reducible refine(C9 _ W).mono ?_);rintro e W' ⟨rfl,bB⟩;first | (refine⟨?_,ab.trans hW bB⟩;with_reducible rfl) | (subst bB;refine⟨?_,hW⟩;with_reducible rfl))
 simp only[zA]
 (first | refine bK rfl rfl ?_ | (refine b_ rfl ?_));simp only[zA]
 refine b_ rfl ?_;simp only[zA]
 iterate 6 (refine iL rfl rfl ?_;simp only[zA])
 (first | refine bK rfl rfl ?_ | (refine b_ rfl ?_));simp only[zA]
 refine b_ rfl ?_;simp only[zA]
 refine iL rfl rfl ?_;simp only[zA]
 refine dl (v:=?_) rfl rfl ?_ ?_;rotate_left;(intro hb;intro W hW;unfold da;go_simp;(with_reducible refine(yO _ ls _ _ W (HL.out.keep hW.below)).mono ?_);rintro e W' ⟨rfl,bB⟩;first | (refine⟨?_,ab.trans hW bB⟩;with_reducible rfl) | (subst bB;refine⟨?_,hW⟩;with_reducible rfl))
 simp only[zA]
 (first | refine bK rfl rfl ?_ | (refine b_ rfl ?_));simp only[zA]
 refine b_ rfl ?_;simp only[zA]
 intro W hW;have HW:=zh hW;clear hW;go_wp2;go_ret;exact⟨rfl,ab.after aT.out HW.out⟩
def dC (n:aj) (s:Int) (ls:List Int) (k:Nat):Bool:=fS n s ls (ls.getD k 0) (n.ids.getD k 0) (n.acn.getD k 0) (n.ends.getD k [])
theorem yP {n:aj} {s:Int} {ls:List Int} (h:ed n s ls=true) {k:Nat} (hk:k<n.ends.length):
  ∃es l fN iF,1<=s/\s<=5/\n.ends[k]?=some es/\es.length<=6/\(∀e∈es,0<=e.1/\e.1<ls.length)/\(∀x∈l::aR ls es,0<=x/\x<=999999999999)/\ls[k]?=some l/\(n.ids.length≠0->n.ids[k]?=some fN)/\n.acn[k]?=some iF/\dC n s ls k=fS n s ls l fN iF es:=by
 unfold ed at h;simp only[Bool.and_eq_true,beq_iff_eq]at h;obtain⟨⟨⟨h1,h2⟩,h3⟩,h4⟩:=h;have hs:=bz.1 h2;have hl:ls.length=n.ends.length:=by omega
 obtain⟨es,bM⟩:=aA n.ends k hk;obtain⟨l,CP⟩:=aA ls k (by omega);obtain⟨r1,r2⟩:=bV h1 bM;unfold sf at h4;rw[List.all_eq_true]at h4;have ha:∀x∈ls,0<=x/\x<=999999999999:=fun x hx=>bz.1 (h4 x hx)
 unfold ak at h1;simp only[Bool.and_eq_true]at h1;obtain⟨⟨⟨-,i1⟩,i2⟩,-⟩:=h1;unfold fe at i2;simp only[Bool.and_eq_true,beq_iff_eq]at i2;obtain⟨iF,Ur⟩:=aA n.acn k (by omega)
 have Dk:n.ids.length≠0->n.ids[k]?=some (n.ids.getD k 0):=fun h0=>by
  unfold sF at i1;simp only[Bool.or_eq_true,Bool.and_eq_true,beq_iff_eq]at i1
  have:n.ids.length=n.ends.length:=by
   rcases i1 with e | ⟨e,-⟩
   ·exact absurd (by simpa using e) h0
   ·omega
  have tk:k<n.ids.length:=by omega
  rw[zDd,List.getElem?_eq_getElem tk];rfl
 exact⟨es,l,_,iF,hs.1,hs.2,bM,r1,fun e he=>by rw[hl];exact r2 e he,fun x hx=>ha x (MB CP (fun e he=>by rw[hl];exact r2 e he) hx),CP,Dk,Ur,by simp[dC,bM,CP,Ur]⟩
theorem nP {n:aj} {s:Int} {ls:List Int} (h:ed n s ls=true):ak n=true/\ls.length=n.ends.length/\n.ends.length<=40:=by
 unfold ed at h;simp only[Bool.and_eq_true,beq_iff_eq]at h
 exact⟨h.1.1.1,by have:=h.1.2;omega,(aB h.1.1.1).2⟩
def aK (n:aj) (s:Int) (ls:List Int) (v:Int):Bool:=ed n s ls&&fF 0 ((n.ends.length:Int)-1) v
def bt (n:aj) (s:Int) (ls:List Int) (v:Int):Bool:=aK n s ls v&&dC n s ls v.toNat
def tl (fv:List (List (Int×Int))) (v:Int):Bool:=fF 0 ((fv.length:Int)-1) v
theorem GK (ve vi vn:Value) (fv:List (List (Int×Int))) (v:Int) (w:World) (h:lx w ve fv):
  Calls Tryz.prog 108 #[.agg #[ve,vi,vn],.int .i64 v] w fun e w'=>e=.returned (.bool (tl fv v))/\Below w.heap.size w w':=mI ve vi vn fv v w h
theorem M4 {a b c d:Bool} (h1:a=b) (h2:c=d):Ending.returned (.tuple #[.bool a,.bool c])=.returned (.tuple #[.bool b,.bool d]):=by rw[h1,h2]
theorem mX (ve vi vn:Value) (n:aj) (s:Int) (vl:Value) (ls:List Int) (v:Int) (w:World) (h:aC w ve vi vn n) (_ : -9223372036854775808<=s/\s<=9223372036854775807) (hl:aO w vl ls) (_ : -9223372036854775808<=v/\v<=9223372036854775807) (fO:iO n<=1048576) (zW:ls.length<=1048576):
  Calls Tryz.prog 51 #[.agg #[ve,vi,vn],.int .i64 s,vl,.int .i64 v] w fun e w'=>e=.returned (.tuple #[.bool (bt n s ls v),.bool (aK n s ls v)])/\Below w.heap.size w w':=by
 obtain⟨w0,A,c,A2,c2,A3,c3,rfl,rfl,rfl,fg,hm,f8,fP,HA,bS,aT,H,dP,d9,dV⟩:=zB h;clear h
 have HL:=zh (hl.keep aT.out);obtain⟨AL,cL,rfl,yo,mF,_⟩:=hl;unfold maxLen at mF
 go_enter Tryz.func51,Tryz.ntmps51
 go_upto_region 1 with(fail);rw[<- bS.out];refine aE 11 (ab w0) (aa _) ?_;simp only[zT]
 iterate 3 (refine b_ rfl ?_;simp only[zA])
 refine fc ?_ rfl ?_ ?_;rotate_left;(intro W hW;unfold da;go_simp;(with_reducible refine(mc _ _ _ _ n s ls W (H.out.keep hW.below) (HL.out.keep hW.below)).mono ?_);rintro e W' ⟨rfl,bB⟩;first | (refine⟨?_,ab.trans hW bB⟩;with_reducible rfl) | (subst bB;refine⟨?_,hW⟩;with_reducible rfl))
 simp only[zA]
 iterate 2 (refine b_ rfl ?_;simp only[zA])
 iterate 2 (refine iL rfl rfl ?_;simp only[zA])
 refine dl (v:=?_) rfl rfl ?_ ?_;rotate_left;(intro hb;intro W hW;unfold da;go_simp;(with_reducible refine(Jm _ _ _ n v W (H.out.keep hW.below)).mono ?_);rintro e W' ⟨rfl,bB⟩;first | (refine⟨?_,ab.trans hW bB⟩;with_reducible rfl) | (subst bB;refine⟨?_,hW⟩;with_reducible rfl))
 simp only[zA]
 refine iL rfl rfl ?_;simp only[zA]
 (first | refine dE rfl rfl ?_ | (refine b_ rfl ?_));simp only[zA]
 intro W hW
 cases hg:(!ed n s ls || !ta n v)
 ·simp only[Bool.or_eq_false_iff,Bool.not_eq_false',ta,Bool.and_eq_true]at hg;obtain⟨g1,g2,g3⟩:=hg;have hv:=bz.1 g3;obtain⟨k,rfl⟩:=Int.eq_ofNat_of_zero_le hv.1;obtain⟨es,l,fN,iF,a1,a2,a3,a4,a5,a6,a7,a8,a9,J5⟩:=yP g1 (k:=k) (by omega);have R1:=zh (show aK n s ls k=true by simp[aK,g1,g3])
  have R0:=zh (show bt n s ls k=fS n s ls l fN iF es by rw[bt,R1.out,Bool.true_and,Int.toNat_natCast,J5])
  have HA:=zh (And.intro a3 (And.intro a5 (And.intro a6 (And.intro a7 (And.intro a8 a9)))));have HW:=zh hW;clear g1 g2 g3 hv a3 a5 a6 a7 a8 a9 J5;go_wp2_with fail;refine(Bk _ _ _ _ n s ls k es l fN iF W (H.out.keep HW.out.below) (HL.out.keep HW.out.below) a1 a2 HA.out.1 a4 HA.out.2.1 HA.out.2.2.1 HA.out.2.2.2.1 HA.out.2.2.2.2.1 HA.out.2.2.2.2.2).mono ?_;rintro e w2 ⟨rfl,bx⟩;have Fh:=zh (HW.out.trans bx);clear bx hW;go_wp2
  go_ret2
  exact⟨M4 R0.out.symm R1.out.symm,ab.after aT.out Fh.out⟩
 ·have R1:=zh (show aK n s ls v=false by
   simp only[Bool.or_eq_true,Bool.not_eq_true',ta,Bool.and_eq_false_iff]at hg;rcases hg with hg | hg | hg
   ·simp[aK,hg]
   ·simp[aK,ed,hg]
   ·simp[aK,hg])
  have R0:=zh (show bt n s ls v=false by simp[bt,R1.out])
  have HW:=zh hW;clear hW hg;go_wp2
  go_ret2
  exact⟨M4 R0.out.symm R1.out.symm,ab.after aT.out HW.out⟩
theorem mY (ve vi vn:Value) (n:aj) (s:Int) (vl:Value) (ls:List Int) (v:Int) (w:World) (h:aC w ve vi vn n) (_ : -9223372036854775808<=s/\s<=9223372036854775807) (hl:aO w vl ls) (_ : -9223372036854775808<=v/\v<=9223372036854775807) (fO:iO n<=1048576) (zW:ls.length<=1048576):
  Calls Tryz.prog 50 #[.agg #[ve,vi,vn],.int .i64 s,vl,.int .i64 v] w fun e w'=>e=.returned (.tuple #[.bool (bt n s ls v),.bool (aK n s ls v)])/\Below w.heap.size w w':=by
 obtain⟨w0,A,c,A2,c2,A3,c3,rfl,rfl,rfl,fg,hm,f8,fP,HA,bS,aT,H,dP,d9,dV⟩:=zB h;clear h
 have HL:=zh (hl.keep aT.out);obtain⟨AL,cL,rfl,yo,mF,_⟩:=hl;unfold maxLen at mF
 go_enter Tryz.func50,Tryz.ntmps50
 go_upto_region 1 with(fail);rw[<- bS.out];refine aE 11 (ab w0) (aa _) ?_;simp only[zT]
 iterate 3 (refine b_ rfl ?_;simp only[zA])
 refine fc ?_ rfl ?_ ?_;rotate_left;(intro W hW;unfold da;go_simp;(with_reducible refine(md _ _ _ _ n s ls W (H.out.keep hW.below) (HL.out.keep hW.below) fO).mono ?_);rintro e W' ⟨rfl,bB⟩;first | (refine⟨?_,ab.trans hW bB⟩;with_reducible rfl) | (subst bB;refine⟨?_,hW⟩;with_reducible rfl))
 simp only[zA]
 iterate 2 (refine b_ rfl ?_;simp only[zA])
 iterate 2 (refine iL rfl rfl ?_;simp only[zA])
 refine dl (v:=?_) rfl rfl ?_ ?_;rotate_left;(intro hb;intro W hW;unfold da;go_simp;(with_reducible refine(GK _ _ _ n.ends v W (H.out.keep hW.below).es).mono ?_);rintro e W' ⟨rfl,bB⟩;first | (refine⟨?_,ab.trans hW bB⟩;with_reducible rfl) | (subst bB;refine⟨?_,hW⟩;with_reducible rfl))
 simp only[zA]
 refine iL rfl rfl ?_;simp only[zA]
 (first | refine dE rfl rfl ?_ | (refine b_ rfl ?_));simp only[zA]
 intro W hW
 cases hg:(!ed n s ls || !tl n.ends v)
 ·simp only[Bool.or_eq_false_iff,Bool.not_eq_false',tl]at hg;obtain⟨g1,g3⟩:=hg;have hv:=bz.1 g3;obtain⟨k,rfl⟩:=Int.eq_ofNat_of_zero_le hv.1;obtain⟨es,l,fN,iF,a1,a2,a3,a4,a5,a6,a7,a8,a9,J5⟩:=yP g1 (k:=k) (by omega);have R1:=zh (show aK n s ls k=true by simp[aK,g1,g3])
  have R0:=zh (show bt n s ls k=fS n s ls l fN iF es by rw[bt,R1.out,Bool.true_and,Int.toNat_natCast,J5])
  have HA:=zh (And.intro a3 (And.intro a5 (And.intro a6 (And.intro a7 (And.intro a8 a9)))));have HW:=zh hW;clear g1 g3 hv a3 a5 a6 a7 a8 a9 J5;go_wp2_with fail;refine(se _ _ _ _ n s ls k es l fN iF W (H.out.keep HW.out.below) (HL.out.keep HW.out.below) a1 a2 HA.out.1 a4 HA.out.2.1 HA.out.2.2.1 HA.out.2.2.2.1 HA.out.2.2.2.2.1 HA.out.2.2.2.2.2).mono ?_;rintro e w2 ⟨rfl,bx⟩;have Fh:=zh (HW.out.trans bx);clear bx hW;go_wp2
  go_ret2
  exact⟨M4 R0.out.symm R1.out.symm,ab.after aT.out Fh.out⟩
 ·have R1:=zh (show aK n s ls v=false by
   simp only[Bool.or_eq_true,Bool.not_eq_true',tl]at hg;rcases hg with hg | hg
   ·simp[aK,hg]
   ·simp[aK,hg])
  have R0:=zh (show bt n s ls v=false by simp[bt,R1.out])
  have HW:=zh hW;clear hW hg;go_wp2
  go_ret2
  exact⟨M4 R0.out.symm R1.out.symm,ab.after aT.out HW.out⟩
def Z8 (n:aj) (s m:Int) (ls:List Int) (k:Nat):Bool:=if s=0 then ZF m (ls.getD k 0) (aR ls (n.ends.getD k [])) else dC n s ls k
section
variable {W W' : World} {B : Nat} {ve vi vn vl : Value} {s m aJ MU st : Int}
end
def O5 (n:aj) (s m aJ MU:Int):List Int×Int×Int:=Qu (Ud n (Z8 n s m)) aJ MU (Ub MU 0 n.ends.length 0) (List.replicate n.ends.length (-1)) 0 0
def fI (x:Int) (N j:Nat):List Value:=List.replicate j (.int .i64 x)++List.replicate (N-j) (.int .i64 0)
theorem uz {x:Int} {N j:Nat} (h:j<=N):(fI x N j).length=N:=by simp[fI];omega
theorem oN {x:Int} {N j m:Nat} (h:j+m<=N):splice (fI x N j) j (List.replicate m (.int .i64 x))=fI x N (j+m):=by
 unfold splice fI
 rw[List.take_append_of_le_length (by simp),List.take_replicate,Nat.min_self,List.length_replicate,List.drop_append,List.drop_replicate,List.length_replicate,List.drop_replicate,show j-(j+m)=0 by omega,show N-j-(j+m-j)=N-(j+m)by omega,List.replicate_zero,List.nil_append,<- List.append_assoc,List.replicate_append_replicate]
theorem M5 {w:World} {base g N:Nat} {x:Int} (h:w.heap[g]?=some (.cells (fI x N N).toArray 3 (0,0))) (hb:base<=g) (hN:N<=1000000):Own w base (.slice (some ⟨g,0,none⟩) N N) (List.replicate N x):=by
 unfold Own
 refine⟨by simp,.inr ⟨g,N,_,by simp,hb,h,by simp,by unfold maxLen;omega,by simp[fI],?_⟩⟩
 simp[fI]
theorem Bl {w:World} {g N j:Nat} {x:Int} (h:w.heap[g]?=some (.cells (fI x N j).toArray 3 (0,0))) {i:Nat} (hi:i<j):w.cell? ⟨g,i,none⟩=some (.int .i64 x):=by
 have:(fI x N j)[i]?=some (.int .i64 x):=by
  unfold fI;rw[List.getElem?_append_left (by simpa using hi)];simp[hi]
 simp[World.cell?,h,this]
theorem M6 {w:World} {b:Nat} {x:Int} (h:w.cell? ⟨b,0,none⟩=some (.int .i64 x)) {j:Nat} {v:Value} (hj:(List.replicate 1 (Value.int .i64 x))[j]?=some v):w.cell? ((⟨b,0,none⟩:Addr).add j)=some v:=by
 have h1:=al hj;simp at h1
 subst h1;simp at hj
 subst hj;rw[Go.Addr.add_lit];exact h
theorem J6 {w:World} {g N j m:Nat} {x:Int} (h:w.heap[g]?=some (.cells (fI x N j).toArray 3 (0,0))) (hm:m<=j) {i:Nat} {v:Value} (hi:(List.replicate m (Value.int .i64 x))[i]?=some v):w.cell? ((⟨g,0,none⟩:Addr).add i)=some v:=by
 have h1:=al hi;rw[List.length_replicate]at h1;rw[List.getElem?_replicate,if_pos h1]at hi;rw[<- Option.some.inj hi,Go.Addr.add_lit,Nat.zero_add];exact Bl h (by omega)
theorem sg (b c:Nat) (x:Int) (N:Nat) (w:World) (hN:1<=N) (J7:N<=1000000) (hc:w.cell? ⟨b,0,none⟩=some (.int .i64 x)):
  Calls Tryz.prog 150 #[.slice (some ⟨b,0,none⟩) 1 c,.int .i64 N] w fun e w'=>∃u,e=.returned u/\Own w' w.heap.size u (List.replicate N x)/\Below w.heap.size w w':=by
 have e1:IntKind.u64.wrap (N:Int)=N:=IntWalk.u64_in _ (by omega);have hm:=Tryz.bits_Mul 1 N (by omega) (by omega) w;rw[show(1*N/18446744073709551616:Nat)=0 by omega,show(1*N%18446744073709551616:Nat)=N by omega]at hm
 have Hm:=zh hm;have e2:IntKind.i64.wrap (N:Int)=N:=aH _ (by omega) (by omega);have m2:=r_ N J7;have Hc:=zh hc;have Z9:¬((N:Int)<0):=by omega
 have zW:¬(9223372036854775807<(N:Int)):=by omega
 clear hm hc
 go_enter Tryz.func150,Tryz.ntmps150
 go_wp2_with fail;refine Hm.out.mono ?_;rintro e w1 ⟨rfl,rfl⟩
 have HG2:Hid ((w1.alloc (.cells (Array.replicate N (Value.int .i64 0)) 3)).heap[w1.heap.size]?=some (.cells (fI x N 0).toArray 3 (0,0))):=by
  show(w1.heap.push _)[w1.heap.size]?=_
  rw[Array.getElem?_push_size];simp[fI]
 go_wp2_with (refine wpList_copy_splice rfl _ _ 25 25 rfl 3 Tryz.underlying25 (by kernel_rfl) (some ⟨w1.heap.size,0,none⟩) (some ⟨b,0,none⟩) N N 1 c rfl rfl w1.heap.size 0 (fI x N 0) 3 HG2.out (List.replicate 1 (.int .i64 x)) (by rw[List.length_replicate];exact(Nat.min_eq_left hN).symm) (fun _=>⟨rfl,_,rfl,fun j v hj=>M6 (bc (ai _ _) Hc.out) hj⟩) (by rw[uz (Nat.zero_le _),List.length_replicate];omega) (by simp[Value.oneCell']) w1.heap.size w1 (ai _ _) (Nat.le_refl _) ?_;intro w3 Z_ bB)
 obtain⟨g,hg⟩:∃g,g=w1.heap.size:=⟨_,rfl⟩
 have Hg:=zh hg;rw[<- hg]at Z_ ⊢;clear hg
 have HG3:Hid (w3.heap[g]?=some (.cells (fI x N 1).toArray 3 (0,0))):=by
  have:=Z_.out
  rw[show List.replicate 1 (Value.int .i64 x)=List.replicate 1 (.int .i64 x)from rfl,oN (by omega)]at this;exact this
 have Yj:=zh bB;clear Z_ bB;go_wp2
 go_loopw [8] (fun nv wr=>∃j:Nat,1<=j/\j<=N/\nv=.int .i64 j/\wr.heap[g]?=some (.cells (fI x N j).toArray 3 (0,0))/\Below w1.heap.size w1 wr) (fun nv _=>N-(intOf nv).toNat)
 case atStart=>exact⟨1,Nat.le_refl _,hN,rfl,HG3.out,Yj.out⟩
 case round=>
  obtain⟨j,rz,hj,rfl,vJ,hb⟩:=hrel;have HG:=zh vJ;have HB:=zh hb;clear vJ hb
  by_cases az:j<N
  ·obtain⟨m,hm⟩:∃m,m=min j (N-j):=⟨_,rfl⟩
   have ru:1<=m:=by omega
   have f8:j+m<=N:=by omega
   have hmj:m<=j:=by omega
   have hNj:¬N=j:=by omega
   have Hmm:=zh hm;clear hm;have m3:IntKind.i64.wrap ((j:Int)+m)=(j:Int)+m:=aH _ (by omega) (by omega);have aU:ab w1 wr:=HB.out;go_upto_region 9 with(fail);refine eh (w0:=w1) 9 [false,false,false,false,false,false,false,true,true] (by kernel_rfl) (by kernel_rfl) (aU) ?_;simp only[er,dS,zT]
   iterate 7 (apply bv rfl;(intro W hW;go_simp;with_reducible rfl);simp only[zA])
   obtain⟨W,cS⟩:∃W,W=World.drew wr:=⟨_,rfl⟩
   rw[<- cS]
   have hW:ab w1 W:=by rw[cS];exact ah (aU)
   refine df (fun Q' HQ=>?_)
   (refine wpList_copy_splice rfl _ _ 25 25 rfl 3 Tryz.underlying25 (by kernel_rfl) (some ⟨g,j,none⟩) (some ⟨g,0,none⟩) (N-j) (N-j) j N (by go_simp) (by go_simp) g j (fI x N j) 3 (by rw[cS];exact HG.out) (List.replicate m (.int .i64 x)) (by rw[List.length_replicate];exact Hmm.out) (fun _=>⟨rfl,_,rfl,fun i v hi=>J6 (by rw[cS];exact HG.out) hmj hi⟩) (by rw[uz hj];simpa using f8) (by simp[Value.oneCell']) w1.heap.size w1 hW (by rw[Hg.out];exact Nat.le_refl _) ?_);intro w4 JT vL;refine HQ _ _ vL ?_;replace hW:ab w1 w4:=vL;simp only[List.length_replicate,goInt]
   (try simp only[zA])
   refine de (v:=?_) rfl ?_ hW ?_;rotate_left;(go_simp;with_reducible rfl)
   simp only[zA];simp only[bh]
   have HG4:Hid (w4.heap[g]?=some (.cells (fI x N (j+m)).toArray 3 (0,0))):=by
    have:=JT.out
    rw[oN f8]at this;exact this
   have GF:=zh hW;clear JT vL hW cS aU;go_wp2;go_roundw
   case rel=>exact⟨j+m,by omega,f8,by go_num,HG4.out,GF.out⟩
   case measure=>simp[intOf];omega
  ·obtain rfl:j=N:=by omega
   go_wp2;go_ret
   exact⟨_,rfl,M5 HG.out (by rw[Hg.out];exact Nat.le_refl _) J7,HB.out⟩
section
variable {W W' : World} {B : Nat} {ve vi vn va vl : Value}
end
def J8 (R:Option (Option (List Int))):Bool:=match R with | some (some _)=>true | _=>false
def kn (n:aj):Option (Option (List Int)):=ik n 400002 (List.replicate n.ends.length (-1)) 0 0
def mZ (n:aj) (p:Nat) (w:Nat):Bool:=decide (am n w=p)&&decide (n.acn.getD w 0=1)
def dx (n:aj) (p k:Nat):List Nat:=(List.range k).filter (mZ n p)
def pp (n:aj) (p:Nat):List Nat:=dx n p n.ends.length
theorem kW (n:aj) (p k:Nat):dx n p (k+1)=dx n p k++(if mZ n p k=true then [k] else []):=by
 unfold dx;rw[List.range_succ,List.filter_append];congr 1
 cases h:mZ n p k <;> simp[h]
theorem Bm (n:aj) (p:Nat) {j k:Nat} (h:j<=k):(dx n p j).length<=(dx n p k).length:=by
 induction k with
 | zero => obtain rfl : j = 0 := by omega
           exact Nat.le_refl _
 | succ k ih=>
  rcases Nat.lt_or_ge j (k+1)with h1 | h1
  ·rw[kW,List.length_append]
   have:=ih (by omega)
   omega
  ·obtain rfl:j=k+1:=by omega
   exact Nat.le_refl _
def jB (n:aj) (p k:Nat):Int:=match dx n p k with
 | [] => -1
 | w::_=>(w:Int)
theorem Bp (n:aj) (p k:Nat) : -1<=jB n p k/\jB n p k<k:=by
 unfold jB
 cases h:dx n p k with
 | nil=>show -1<=(-1:Int)/\(-1:Int)<k;omega
 | cons w l=>
  have:w∈dx n p k:=by rw[h];exact List.mem_cons_self
  have:=List.mem_range.1 (List.mem_filter.1 this).1
  show -1<=(w:Int)/\(w:Int)<k
  constructor <;> omega
theorem rG (n:aj) (p k:Nat):jB n p k<0↔(dx n p k).length=0:=by
 unfold jB
 cases h:dx n p k with
 | nil=>simp
 | cons w l=>simp
theorem DO {n:aj} {p k:Nat} (h:mZ n p k=false):dx n p (k+1)=dx n p k/\jB n p (k+1)=jB n p k:=by
 have:dx n p (k+1)=dx n p k:=by rw[kW,h];simp
 exact⟨this,by unfold jB;rw[this]⟩
theorem Bq {n:aj} {p k:Nat} (h:mZ n p k=true) (h0:jB n p k<0):(dx n p (k+1)).length=1/\jB n p (k+1)=k:=by
 have h1:dx n p k=[]:=List.eq_nil_of_length_eq_zero ((rG n p k).1 h0)
 have:dx n p (k+1)=[k]:=by rw[kW,h,h1];rfl
 exact⟨by rw[this];rfl,by unfold jB;rw[this]⟩
theorem GL {n:aj} {p k:Nat} (h:mZ n p k=true) (h0:¬jB n p k<0) (hk:k<n.ends.length):(pp n p).length≠1:=by
 have h1:(dx n p k).length≠0:=fun e=>h0 ((rG n p k).2 e)
 have h2:(dx n p (k+1)).length=(dx n p k).length+1:=by rw[kW,h];simp
 have h3:=Bm n p (show k+1<=n.ends.length by omega)
 unfold pp;omega
def jP (n:aj) (v:Nat):Int:=jB n (am n v) n.ends.length
def qH (n:aj) (v:Nat):Bool:=(pp n (am n v)).length==1
def iU (n:aj):Bool:=(List.range n.ends.length).all (qH n)
def m_ (n:aj) (k:Nat):List Int:=(List.range k).map (jP n)
theorem DP (n:aj) (k:Nat):m_ n (k+1)=m_ n k++[jP n k]:=by unfold m_;rw[List.range_succ,List.map_append];rfl
theorem xK (n:aj) (k:Nat):(m_ n k).length=k:=by simp[m_]
theorem uA {n:aj} {v:Nat} (hv:v<n.ends.length) (h:(pp n (am n v)).length≠1):iU n=false:=by
 rw[Bool.eq_false_iff];intro hc
 have:=List.all_eq_true.1 hc v (List.mem_range.2 hv)
 exact h (by simpa[qH]using this)
def rH (n:aj) (p k:Nat):Nat:=((List.range k).filter fun w=>decide (am n w=p)).length
def me (n:aj) (p:Nat):Nat:=rH n p n.ends.length
theorem GM (n:aj) (p k:Nat):rH n p k<=k:=by
 unfold rH;exact Nat.le_trans (List.length_filter_le _ _) (by simp)
def uD (n:aj) (v:Nat):Bool:=!(me n (am n v)%2==1)
def mf (n:aj):Bool:=(List.range n.ends.length).all (uD n)
theorem yQ {k v:Nat} {f:Nat->Bool} (hv:v<k) (h:f v=false):(List.range k).all f=false:=by
 rw[Bool.eq_false_iff];intro hc;rw[List.all_eq_true.1 hc v (List.mem_range.2 hv)]at h;cases h
def J9 (n:aj):Bool:=(cj n).any fun e=>decide (e.1=e.2.2.1)&&decide (e.2.1=e.2.2.2)
def DQ (n:aj):Bool:=!J9 n&&decide ((cj n).length+yE n n.ends.length=n.ends.length)
def jc (n:aj) (s:Int):Bool:=
 if s=1 then kK n
 else if s=2 then J8 (kn n)
 else if s=3 then DQ n
 else if n.ids.length=0 then false
 else if s=4 then iU n
 else mf n
def qI (n:aj) (s:Int):Bool:=if s=2 then (kn n).isSome else true
def wJ (n:aj) (s:Int):Bool:=ak n&&fF 1 5 s
def bX (n:aj) (s:Int):Bool:=wJ n s&&jc n s
def bY (n:aj) (s:Int):Bool:=wJ n s&&qI n s
structure Tr (N:Nat) (dep:Nat->Int) (par:Nat->Option Nat):Prop where
 some_:∀v p,v<N->par v=some p->p<N/\dep p+1=dep v
 pos:∀v,v<N->0<=dep v
def QG (par:Nat->Option Nat):Nat->Nat->Nat->Bool
 | 0,w,x=>w==x
 | f+1,w,x=>w==x||(match par w with | none=>false | some y=>QG par f y x)
def pT (dep:Nat->Int) (par:Nat->Option Nat) (w x:Nat):Bool:=QG par (dep w).toNat w x
theorem qJ {N:Nat} {dep:Nat->Int} {par:Nat->Option Nat} (h:Tr N dep par):∀(f w x:Nat),w<N->(dep w).toNat<=f->QG par f w x=pT dep par w x
 | 0,w,x,hw,hf=>by
  have h1:=h.pos w hw;unfold pT;rw[show(dep w).toNat=0 by omega]
 | f+1,w,x,hw,hf=>by
  unfold pT
  cases hp:par w with
  | none=>
   cases hd:(dep w).toNat with
   | zero=>simp[QG,hp]
   | succ d=>simp[QG,hp]
  | some y=>
   obtain⟨h1,h2⟩:=h.some_ w y hw hp;have h3:=h.pos y h1;obtain⟨d,hd⟩:∃d,(dep w).toNat=d+1:=⟨(dep w).toNat-1,by omega⟩
   rw[hd];simp only[QG,hp];rw[qJ h f y x h1 (by omega),qJ h d y x h1 (by omega)]
theorem ix {N:Nat} {dep:Nat->Int} {par:Nat->Option Nat} (h:Tr N dep par) {w x:Nat} (hw:w<N):pT dep par w x=(w==x||(match par w with | none=>false | some y=>pT dep par y x)):=by
 rw[<- qJ h ((dep w).toNat+1) w x hw (by omega)];simp only[QG]
 cases hp:par w with
 | none=>rfl
 | some y=>
  obtain⟨h1,h2⟩:=h.some_ w y hw hp;simp only[];rw[qJ h _ y x h1 (by omega)]
theorem lE {N:Nat} {dep:Nat->Int} {par:Nat->Option Nat} (h:Tr N dep par) {w:Nat} (hw:w<N):pT dep par w w=true:=by rw[ix h hw];simp
theorem tm {N:Nat} {dep:Nat->Int} {par:Nat->Option Nat} (h:Tr N dep par):∀(f w x:Nat),w<N->(dep w).toNat<=f->pT dep par w x=true->x<N/\(x=w\/dep x<dep w)
 | f,w,x,hw,hf,ha=>by
  rw[ix h hw,Bool.or_eq_true]at ha;rcases ha with ha | ha
  ·have:=eq_of_beq ha
   subst this;exact⟨hw,.inl rfl⟩
  ·cases hp:par w with
   | none=>rw[hp]at ha;simp at ha
   | some y=>
    rw[hp]at ha;obtain⟨h1,h2⟩:=h.some_ w y hw hp;have h3:=h.pos y h1
    cases f with
    | zero=>omega
    | succ f=>
     obtain⟨g1,g2⟩:=tm h f y x h1 (by omega) ha;refine⟨g1,.inr ?_⟩;rcases g2 with g2 | g2
     ·subst g2;omega
     ·omega
theorem xL {N:Nat} {dep:Nat->Int} {par:Nat->Option Nat} (h:Tr N dep par):∀(f w x:Nat),w<N->(dep w).toNat<=f->pT dep par w x=true->w≠x->∃c,c<N/\par c=some x/\pT dep par w c=true
 | f,w,x,hw,hf,ha,hn=>by
  rw[ix h hw,Bool.or_eq_true]at ha;rcases ha with ha | ha
  ·exact absurd (eq_of_beq ha) hn
  ·cases hp:par w with
   | none=>rw[hp]at ha;simp at ha
   | some y=>
    rw[hp]at ha;obtain⟨h1,h2⟩:=h.some_ w y hw hp;have h3:=h.pos y h1
    by_cases hy:y=x
    ·subst hy;exact⟨w,hw,hp,lE h hw⟩
    ·cases f with
     | zero=>omega
     | succ f=>
      obtain⟨c,hc,g1,g2⟩:=xL h f y x h1 (by omega) ha hy;refine⟨c,hc,g1,?_⟩;rw[ix h hw,hp,Bool.or_eq_true];exact .inr g2
theorem J_ {N:Nat} {dep:Nat->Int} {par:Nat->Option Nat} (h:Tr N dep par):∀(f w c x:Nat),w<N->(dep w).toNat<=f->pT dep par w c=true->par c=some x->pT dep par w x=true
 | f,w,c,x,hw,hf,ha,hp=>by
  rw[ix h hw,Bool.or_eq_true]at ha;rcases ha with ha | ha
  ·have:=eq_of_beq ha
   subst this;obtain⟨h1,-⟩:=h.some_ w x hw hp;rw[ix h hw,hp,Bool.or_eq_true];exact .inr (lE h h1)
  ·cases hq:par w with
   | none=>rw[hq]at ha;simp at ha
   | some y=>
    rw[hq]at ha;obtain⟨h1,h2⟩:=h.some_ w y hw hq;have h3:=h.pos y h1
    cases f with
    | zero=>omega
    | succ f=>
     have g:=J_ h f y c x h1 (by omega) ha hp;rw[ix h hw,hq,Bool.or_eq_true];exact .inr g
theorem Fz {N:Nat} {dep:Nat->Int} {par:Nat->Option Nat} (h:Tr N dep par):∀(f w a b:Nat),w<N->(dep w).toNat<=f->pT dep par w a=true->pT dep par w b=true->dep a=dep b->a=b
 | f,w,a,b,hw,hf,ha,hb,he=>by
  have ga:=tm h f w a hw hf ha;have gb:=tm h f w b hw hf hb;rw[ix h hw,Bool.or_eq_true]at ha hb
  by_cases e1:w=a
  ·subst e1;rcases gb.2 with g | g
   ·exact g.symm
   ·omega
  ·by_cases e2:w=b
   ·subst e2;rcases ga.2 with g | g
    ·exact g
    ·omega
   ·rcases ha with ha | ha
    ·exact absurd (eq_of_beq ha) e1
    ·rcases hb with hb | hb
     ·exact absurd (eq_of_beq hb) e2
     ·cases hp:par w with
      | none=>rw[hp]at ha;simp at ha
      | some y=>
       rw[hp]at ha hb;obtain⟨h1,h2⟩:=h.some_ w y hw hp;have h3:=h.pos y h1
       cases f with
       | zero=>omega
       | succ f=>exact Fz h f y a b h1 (by omega) ha hb he
def aaa (dep:Nat->Int) (par:Nat->Option Nat) (D:List Nat) (w x:Nat):Bool:=w==x||D.any (fun c=>(par c==some x)&&pT dep par w c)
theorem rI {p q r:Nat->Bool}:∀ {l:List Nat},(∀w∈l,r w=(p w||q w))->(∀w∈l,p w=true->q w=false)->l.countP r=l.countP p+l.countP q
 | [],_,_=>rfl
 | a::l,h1,h2=>by
  have ih:=rI (l:=l) (fun w hw=>h1 w (List.mem_cons_of_mem _ hw)) (fun w hw=>h2 w (List.mem_cons_of_mem _ hw))
  have e1:=h1 a (by simp);have e2:=h2 a (by simp);rw[List.countP_cons,List.countP_cons,List.countP_cons,ih,e1]
  cases hp:p a <;> cases hq:q a <;> simp_all <;> omega
def oq (N:Nat) (dep:Nat->Int) (par:Nat->Option Nat) (x:Nat):Nat:=(List.range N).countP fun w=>pT dep par w x
structure Szs (N:Nat) (dep:Nat->Int) (par:Nat->Option Nat) (D:List Nat) (s:List Int):Prop where
 len:s.length=N
 val:∀x,x<N->s.getD x 0=((List.range N).countP fun w=>aaa dep par D w x:Nat)
abbrev qK (st:List Int×List Int) (x:Int):Int:=st.1.getD x.toNat 0
structure BD (n:aj) (v:Nat) (st:List Int×List Int) (i:Nat):Prop where
 zero:qK st (v:Int)=0
 par:∀x∈st.2,x≠(v:Int)->∃y∈st.2,x∈dW n y/\qK st y+1=qK st x
 sorted:∀j k,j<=k->k<st.2.length->qK st (st.2.getD j 0)<=qK st (st.2.getD k 0)
 span:∀k,k<st.2.length->i<st.2.length->qK st (st.2.getD k 0)<=qK st (st.2.getD i 0)+1
 closed:∀k,k<i->k<st.2.length->∀x∈dW n (st.2.getD k 0),x∈st.2/\qK st x<=qK st (st.2.getD k 0)+1
theorem BD.begin {n:aj} {v:Nat} (hv:v<n.ends.length):BD n v (bn n v) 0 where
 zero:=by unfold qK bn;simp[hv]
 par:=fun x hx iJ=>by
  have:x=(v:Int):=by simpa[bn]using hx
  exact absurd this iJ
 sorted:=fun j k ld hk=>by
  have:(bn n v).2.length=1:=rfl
  obtain rfl:j=k:=by omega
  exact Int.le_refl _
 span:=fun k hk hi=>by
  have:(bn n v).2.length=1:=rfl
  obtain rfl:k=0:=by omega
  omega
 closed:=fun k hk=>by omega
theorem iz {xs:List Int} {k:Nat} (h:k<xs.length):xs.getD k 0∈xs:=by
 rw[zDd,List.getElem?_eq_getElem h];exact List.getElem_mem h
theorem na {xs ys:List Int} {k:Nat} (h:k<xs.length):(xs++ys).getD k 0=xs.getD k 0:=by
 rw[zDd,List.getElem?_append_left h,<- zDd]
theorem GN {xs:List Int} {x:Int}:(xs++[x]).getD xs.length 0=x:=by simp[zDd]
theorem BD.one {n:aj} {v i:Nat} {st:List Int×List Int} {x:Int} (hI:BI n.ends.length st) (hR:BR n v st) (h:BD n v st i) (hi:i<st.2.length) (hx:x∈dW n (st.2.getD i 0)) (n9:0<=x/\x<n.ends.length):
  BD n v (aQ (st.2.getD i 0) st x) i/\x∈(aQ (st.2.getD i 0) st x).2/\qK (aQ (st.2.getD i 0) st x) x<=qK (aQ (st.2.getD i 0) st x) (st.2.getD i 0)+1/\(∀y∈st.2,y∈(aQ (st.2.getD i 0) st x).2/\qK (aQ (st.2.getD i 0) st x) y=qK st y):=by
 have hc:st.2.getD i 0∈st.2:=iz hi;obtain⟨c,Us⟩:∃c,c=st.2.getD i 0:=⟨_,rfl⟩
 have g_:=hI.len;have hxn:((x.toNat:Nat):Int)=x:=by omega
 rw[<- Us]at hc hx ⊢;unfold aQ
 split
 ·rename_i mv
  have keep:∀y∈st.2,y.toNat≠x.toNat:=fun y hy e=>by
   have h1:=hI.walk y hy
   have h2:=(hR.seen y.toNat (by omega)).2 (by rw[show((y.toNat:Nat):Int)=y by omega];exact hy)
   rw[e]at h2;omega
  have kd:∀y∈st.2,qK (st.1.set x.toNat (st.1.getD c.toNat 0+1),st.2++[x]) y=qK st y:=fun y hy=>by
   unfold qK;show(st.1.set x.toNat _).getD y.toNat 0=_
   rw[zDd,List.getElem?_set_ne (fun e=>keep y hy e.symm),<- zDd]
  have kx:qK (st.1.set x.toNat (st.1.getD c.toNat 0+1),st.2++[x]) x=qK st c+1:=by
   unfold qK;show(st.1.set x.toNat _).getD x.toNat 0=_
   rw[zDd,List.getElem?_set_self (by omega)];rfl
  have kl:∀k,k<(st.2++[x]).length->(k<st.2.length/\(st.2++[x]).getD k 0=st.2.getD k 0)\/(k=st.2.length/\(st.2++[x]).getD k 0=x):=fun k hk=>by
   rw[List.length_append,List.length_singleton]at hk;rcases Nat.lt_or_ge k st.2.length with h1 | h1
   ·exact .inl ⟨h1,na h1⟩
   ·obtain rfl:k=st.2.length:=by omega
    exact .inr ⟨rfl,GN⟩
  refine⟨⟨?_,?_,?_,?_,?_⟩,by simp,by rw[kx,kd c hc];omega,fun y hy=>⟨List.mem_append_left _ hy,kd y hy⟩⟩
  ·rw[kd _ hR.start];exact h.zero
  ·intro z hz iJ;rcases List.mem_append.1 hz with hz | hz
   ·obtain⟨y,hy,h1,h2⟩:=h.par z hz iJ
    exact⟨y,List.mem_append_left _ hy,h1,by rw[kd y hy,kd z hz];exact h2⟩
   ·obtain rfl:z=x:=by simpa using hz
    exact⟨c,List.mem_append_left _ hc,hx,by rw[kd c hc,kx]⟩
  ·intro j k ld hk;have hk:k<(st.2++[x]).length:=hk;rcases kl k hk with⟨kJ,ek⟩ | ⟨kJ,ek⟩
   ·rcases kl j (by omega)with⟨rz,ej⟩ | ⟨rz,ej⟩
    ·rw[ek,ej,kd _ (iz kJ),kd _ (iz rz)];exact h.sorted j k ld kJ
    ·omega
   ·rw[ek,kx];rcases kl j (by omega)with⟨rz,ej⟩ | ⟨rz,ej⟩
    ·rw[ej,kd _ (iz rz),Us];exact h.span j rz hi
    ·rw[ej,kx];exact Int.le_refl _
  ·intro k hk _;have ei:(st.2++[x]).getD i 0=c:=by rw[na hi,Us]
   rw[ei,kd c hc];rcases kl k hk with⟨kJ,ek⟩ | ⟨kJ,ek⟩
   ·rw[ek,kd _ (iz kJ),Us];exact h.span k kJ hi
   ·rw[ek,kx];exact Int.le_refl _
  ·intro k hk _ z hz;have kJ:k<st.2.length:=by omega
   have ek:(st.2++[x]).getD k 0=st.2.getD k 0:=na kJ;rw[ek]at hz ⊢;obtain⟨h1,h2⟩:=h.closed k hk kJ z hz
   exact⟨List.mem_append_left _ h1,by rw[kd _ h1,kd _ (iz kJ)];exact h2⟩
 ·rename_i mv
  have hxm:x∈st.2:=by
   have:=(hR.seen x.toNat (by omega)).1 (by omega)
   rwa [hxn]at this
  refine⟨h,hxm,?_,fun y hy=>⟨hy,rfl⟩⟩
  obtain⟨k,hk,e⟩:=List.mem_iff_getElem.1 hxm
  have:=h.span k hk hi
  rw[<- Us,show st.2.getD k 0=x by rw[zDd,List.getElem?_eq_getElem hk];exact e]at this
  exact this
theorem BD.fold {n:aj} {v i:Nat} {c:Int}:∀(xs:List Int) {st:List Int×List Int},BI n.ends.length st->BR n v st->BD n v st i->i<st.2.length->st.2.getD i 0=c->(∀x∈xs,x∈dW n c/\0<=x/\x<n.ends.length) ->
  BD n v (xs.foldl (aQ c) st) i/\(∀x∈xs,x∈(xs.foldl (aQ c) st).2/\qK (xs.foldl (aQ c) st) x<=qK (xs.foldl (aQ c) st) c+1)/\(∀y∈st.2,y∈(xs.foldl (aQ c) st).2/\qK (xs.foldl (aQ c) st) y=qK st y)
 | [],_,_,_,h,_,_,_=>⟨h,fun _ hx=>by simp at hx,fun y hy=>⟨hy,rfl⟩⟩
 | x::xs,st,hI,hR,h,hi,hc,xz=>by
  have hx:=xz x (List.mem_cons_self ..)
  have yt:c∈st.2:=by rw[<- hc];exact iz hi
  have h1:=BD.one hI hR h hi (by rw[hc];exact hx.1) hx.2
  rw[hc]at h1;obtain⟨g1,g2,g3,g4⟩:=h1;obtain⟨ys,hw⟩:=pg c st x
  have rq:i<(aQ c st x).2.length:=by rw[hw,List.length_append];omega
  have rg:(aQ c st x).2.getD i 0=c:=by rw[hw,na hi];exact hc
  obtain⟨k1,k2,k3⟩:=BD.fold xs (hI.step (hI.walk c yt) hx.2) (BR.one hI hR yt hx.1 hx.2).1 g1 rq rg (fun y hy=>xz y (List.mem_cons_of_mem _ hy))
  refine⟨k1,fun y hy=>?_,fun y hy=>?_⟩
  ·rcases List.mem_cons.1 hy with rfl | hy
   ·obtain⟨m1,m2⟩:=k3 y g2;obtain⟨_,m4⟩:=k3 c (g4 c yt).1;refine⟨m1,?_⟩;show qK (xs.foldl (aQ c) (aQ c st y)) y<=qK (xs.foldl (aQ c) (aQ c st y)) c+1
    rw[m2,m4];exact g3
   ·exact k2 y hy
  ·obtain⟨m1,m2⟩:=g4 y hy;obtain⟨m3,m4⟩:=k3 y m1;exact⟨m3,m4.trans m2⟩
theorem xM {n:aj} (hn:ak n=true) {v:Nat}:∀(f:Nat) (st:List Int×List Int) (i:Nat),BI n.ends.length st->BR n v st->BD n v st i->i<=st.2.length->n.ends.length<f+i ->
  ∃dp:List Int×List Int,qp n f st i=dp.1/\BI n.ends.length dp/\BR n v dp/\BD n v dp dp.2.length
 | 0,st,i,hI,_,_,hi,hf=>by have:=hI.bd;omega
 | f+1,st,i,hI,hR,hD,hi,hf=>by
  unfold qp
  by_cases az:i<st.2.length
  ·rw[if_pos az];have hc:st.2.getD i 0∈st.2:=iz az;have Dn:=hI.walk _ hc;have d_:=lZ hn Dn;have h1:=BR.fold (cur:=st.2.getD i 0) (dW n (st.2.getD i 0)) hI hR hc (fun x hx=>⟨hx,d_ x hx⟩)
   obtain⟨k1,k2,k3⟩:=BD.fold (dW n (st.2.getD i 0)) hI hR hD az rfl (fun x hx=>⟨hx,d_ x hx⟩)
   obtain⟨ys,hw⟩:=jg (st.2.getD i 0) (dW n (st.2.getD i 0)) st
   have g_:i<((dW n (st.2.getD i 0)).foldl (aQ (st.2.getD i 0)) st).2.length:=by rw[hw,List.length_append];omega
   refine xM hn f _ (i+1) (hI.fold Dn _ d_) h1.1 ⟨k1.zero,k1.par,k1.sorted,fun k hk rq=>?_,fun k hk nO x hx=>?_⟩ (by omega) (by omega)
   ·have m1:=k1.span k hk g_;have m2:=k1.sorted i (i+1) (by omega) rq;omega
   ·by_cases e:k=i
    ·subst e;have ek:((dW n (st.2.getD k 0)).foldl (aQ (st.2.getD k 0)) st).2.getD k 0=st.2.getD k 0:=by rw[hw,na az]
     rw[ek]at hx ⊢;exact k2 x hx
    ·exact k1.closed k (by omega) nO x hx
  ·rw[if_neg az];obtain rfl:i=st.2.length:=by omega
   exact⟨st,rfl,hI,hR,hD⟩
structure QH (n:aj) (v:Nat) (D:Nat->Int):Prop where
 zero:D v=0
 par:∀x:Nat,hZ n v x->x≠v->∃y:Nat,hZ n v y/\(x:Int)∈dW n (y:Int)/\D y+1=D x
 nb:∀a b:Nat,hZ n v a->(b:Int)∈dW n (a:Int)->D b<=D a+1
 pos:∀x:Nat,hZ n v x->0<=D x
theorem nQ {n:aj} (hn:ak n=true) {v:Nat} (hv:v<n.ends.length):QH n v (fun w=>(bC n v).getD w 0):=by
 obtain⟨st,h1,hI,hR,hD⟩:=xM hn (n.ends.length+1) (bn n v) 0 (BI.start hv) (BR.begin hv) (BD.begin hv) (Nat.zero_le _) (by omega);have e:bC n v=st.1:=h1
 have hm:∀x:Nat,hZ n v x->(x:Int)∈st.2:=fun x hx=>by
  have rh:=ph hn hv hx
  have:=(gH hn hv rh).2 hx
  rw[e]at this;exact(hR.seen x rh).1 this
 refine⟨?_,fun x hx iJ=>?_,fun a b ha hb=>?_,fun x hx=>(gH hn hv (ph hn hv hx)).2 hx⟩
 ·have:=hD.zero
  show(bC n v).getD v 0=0
  rw[e];simpa[qK]using this
 ·obtain⟨y,hy,h2,h3⟩:=hD.par x (hm x hx) (by omega);have Yk:=hI.walk y hy;obtain⟨k,rfl⟩:=Int.eq_ofNat_of_zero_le Yk.1;refine⟨k,?_,h2,?_⟩
  ·have:=hR.rch _ hy;simpa using this
  ·show(bC n v).getD k 0+1=(bC n v).getD x 0
   rw[e];simpa[qK]using h3
 ·obtain⟨k,hk,yD⟩:=List.mem_iff_getElem.1 (hm a ha)
  have:=(hD.closed k hk hk (b:Int) (by rw[zDd,List.getElem?_eq_getElem hk];simpa[yD]using hb)).2
  show(bC n v).getD b 0<=(bC n v).getD a 0+1
  rw[e]
  rw[show st.2.getD k 0=(a:Int)by rw[zDd,List.getElem?_eq_getElem hk];exact yD]at this
  simpa[qK]using this
end Go.Proofs.YtgmdpppljkmabaaGreat
