/- Parts of the proof: walks of functions and plain laws. -/
import Derived.Test.YtnioemnkfojmkaaGreatP0
import Derived.Test.YtnioemnkfojmkaaGreatP9
import Derived.Test.YtnioemnkfojmkaaGreatP1
import Derived.Test.YtnioemnkfojmkaaGreatP8
import Derived.Test.YtnioemnkfojmkaaGreatP2
set_option maxRecDepth 100000
set_option maxHeartbeats 16000000
namespace Go.Proofs.YtnioemnkfojmkaaGreat
open Go Go.RowKit
def IB (w:World) (b:Nat):Nat:=match w.cell? ⟨b,12,none⟩with | some (.bool true)=>1 | _=>0
theorem uV {w:World} {b:Nat} {z:Bool} (h:w.cell? ⟨b,12,none⟩=some (.bool z)):IB w b=if z=true then 1 else 0:=by
 unfold IB;rw[h]
 cases z <;> rfl
theorem wI (x:Int) (w:World):Calls Tryz.prog 39 #[.int .i64 x] w fun e w'=>e=.returned (.bool (fT 0 200000 x))/\Below w.heap.size w w':=by
 go_enter Tryz.func39,Tryz.ntmps39
 go_wp2_with fail;refine(zW _ _ _ _).mono ?_;rintro e w1 ⟨rfl,hb⟩;go_wp2;go_ret;exact⟨rfl,hb⟩
theorem kZ (pa pb ve vi vn:Value) (p:az) (n:aw) (most:Int) (w:World) (hp:di w pa pb p) (h:aU w ve vi vn n) (_ : -9223372036854775808<=most/\most<=9223372036854775807) (pi:ks p<=1048576) (eR:gO n<=1048576):
  Calls Tryz.prog 17 #[.agg #[.int .i64 p.labels,.int .i64 p.degree,pa,pb],.agg #[ve,vi,vn],.int .i64 most] w fun e w'=>e=.returned (.tuple #[.int .i64 (aJ p n most),.int .i64 (aK p n most)])/\Below w.heap.size w w':=by
 have iI:p.ac3.length<=1048576:=by unfold ks oc at pi;omega
 have KB:=zh (jr eR);obtain⟨w0,ar⟩:∃w0,w0=((w).alloc (.cells #[.int .i64 p.labels,.int .i64 p.degree,pa,pb] 26)).alloc (.cells #[ve,vi,vn] 30):=⟨_,rfl⟩
 have bG:Below w.heap.size w w0:=by rw[ar];exact(((Below.refl _ _).alloc (by simp <;> omega) _).alloc (by simp <;> omega) _)
 have H:=zh (h.ac2 bG);obtain⟨h1,h2,h3⟩:=h.ac2 bG;obtain⟨A,c,rfl,f_,hm,hA⟩:=h1;obtain⟨A2,c2,rfl,_,fq,_⟩:=h2;obtain⟨A3,c3,rfl,_,fF,_⟩:=h3;unfold maxLen at hm fq fF;have cZ:=hp.ac2 bG;have HP:=zh cZ;obtain⟨P0,eP,rfl,ji,dX,bZ⟩:=id cZ.1;unfold maxLen at dX;have jj:=zh bZ;clear bZ;obtain⟨P1,eB,rfl,jk,dY,b_⟩:=id cZ.2;unfold maxLen at dY;have jl:=zh b_;clear b_;clear cZ hp
 have gP:∀W,aa w0 W->W.cell? ⟨w.heap.size,0,none⟩=some (.int .i64 p.labels):=ab (by rw[ar];simp)
 have ig:∀W,aa w0 W->W.cell? ⟨w.heap.size,1,none⟩=some (.int .i64 p.degree):=ab (by rw[ar];simp)
 have ii:∀W,aa w0 W->W.cell? ⟨w.heap.size,2,none⟩=some (.slice P0 p.nodes.length eP):=ab (by rw[ar];simp)
 have mL:∀W,aa w0 W->W.cell? ⟨w.heap.size,3,none⟩=some (.slice P1 p.ac3.length eB):=ab (by rw[ar];simp)
 have rJ:∀W,aa w0 W->W.cell? ⟨w.heap.size+1,0,none⟩=some (.slice A n.ends.length c):=ab (by rw[ar];simp)
 have tD:∀W,aa w0 W->W.cell? ⟨w.heap.size+1,1,none⟩=some (.slice A2 n.ids.length c2):=ab (by rw[ar];simp)
 have tE:∀W,aa w0 W->W.cell? ⟨w.heap.size+1,2,none⟩=some (.slice A3 n.ac1.length c3):=ab (by rw[ar];simp)
 have bQ:=zh bG;have cS:=zh ar;have HA:=zh hA;clear hA h;clear bG ar;have f5:=zh (show ∀X,aa w0 X->di X (.slice P0 p.nodes.length eP) (.slice P1 p.ac3.length eB) p from fun X hX=>HP.out.ac2 hX)
 have iL:=zh (show ∀X,aa w0 X->aU X (.slice A n.ends.length c) (.slice A2 n.ids.length c2) (.slice A3 n.ac1.length c3) n from fun X hX=>H.out.ac2 hX.below)
 clear eR pi
 go_enter Tryz.func17,Tryz.ntmps17
 go_upto_region 1 with(fail);rw[<- cS.out];refine bD 13 (aa w0) (ad _) ?_;simp only[zT]
 refine bF rfl ?_;simp only[zA]
 refine cH ?_ rfl ?_ ?_;rotate_left;(intro W hW;unfold ba;go_simp;(with_reducible refine(mM _ _ p W (f5.out W hW)).mono ?_);rintro e W' ⟨rfl,aG⟩;first | (refine⟨?_,aa.trans hW aG⟩;with_reducible rfl) | (subst aG;refine⟨?_,hW⟩;with_reducible rfl))
 simp only[zA]
 iterate 2 (refine bF rfl ?_;simp only[zA])
 refine gT rfl rfl ?_;simp only[zA]
 refine bv (v:=?_) rfl rfl ?_ ?_;rotate_left;(intro hb;intro W hW;unfold ba;go_simp;(with_reducible refine(mF _ _ _ n W (iL.out W hW)).mono ?_);rintro e W' ⟨rfl,aG⟩;first | (refine⟨?_,aa.trans hW aG⟩;with_reducible rfl) | (subst aG;refine⟨?_,hW⟩;with_reducible rfl))
 simp only[zA]
 refine gT rfl rfl ?_;simp only[zA]
 (first | refine cd rfl rfl ?_ | (refine bF rfl ?_));simp only[zA]
 refine bF rfl ?_;simp only[zA]
 refine gT rfl rfl ?_;simp only[zA]
 refine bv (v:=?_) rfl rfl ?_ ?_;rotate_left;(intro hb;intro W hW;unfold ba;go_simp;(with_reducible refine(wI _ W).mono ?_);rintro e W' ⟨rfl,aG⟩;first | (refine⟨?_,aa.trans hW aG⟩;with_reducible rfl) | (subst aG;refine⟨?_,hW⟩;with_reducible rfl))
 simp only[zA]
 refine gT rfl rfl ?_;simp only[zA]
 (first | refine cd rfl rfl ?_ | (refine bF rfl ?_));simp only[zA]
 intro W hW
 cases hg:(!dF p || !aW n || !fT 0 200000 most)
 ·have dJ:uj p n most=true:=by unfold uj;revert hg;cases dF p <;> cases aW n <;> cases fT 0 200000 most <;> simp
  simp only[Bool.or_eq_false_iff,Bool.not_eq_false']at hg;obtain⟨⟨lC,hn⟩,hm⟩:=hg;have pT:=aL.1 hm;obtain⟨fv,ct⟩:=dE lC;obtain⟨lR,jU⟩:=gD hn;obtain⟨lS,wH⟩:=uT hn;have Ey:=zh wH;have sw:=zh jU;have jP:=zh ct;have mo:=zh (kE lS wH);have nr:=zh (mn (fw (n:=n)));obtain⟨F,hF⟩:∃F,ef n=F:=⟨_,rfl⟩
  obtain⟨PT,rO⟩:∃PT,fB F=PT:=⟨_,rfl⟩
  have fU:Hid (eC n.ends F):=by rw[<- hF];exact fw
  have kp:Hid (rK (p.labels-1) F):=by rw[<- hF];exact ov (by omega)
  obtain⟨R,hR⟩:∃R,WO p n most=R:=⟨_,rfl⟩
  have HR:Hid (Qp oy p n.ends PT most true 0 F 0 0=R):=by show _=_;rw[<- hR,<- rO,<- hF];rfl
  have tH:Hid (aJ p n most=R.1):=by show _=_;unfold aJ;rw[if_pos dJ,hR]
  have CE:Hid (aK p n most=R.2.1):=by show _=_;unfold aK;rw[if_pos dJ,hR]
  rw[hF]at Ey mo nr lS;rw[rO]at mo nr;have HF:=zh hF;have KC:=zh rO;have IA:=zh hn;have qG:=zh fv;have No:=zh pT;have Bt:=zh iI;have gn:=zh hW;clear hF rO hR hm lC ct wH jU dJ hW;go_upto_region 3 with(fail);refine fh (w0:=w0) 6 [false,false,false,true,false,true] (by kernel_rfl) (by kernel_rfl) (gn.out) ?_;simp only[ek,dD,zT]
  iterate 4 (apply ei rfl;(intro W hW;go_simp;with_reducible rfl);simp only[zA])
  intro W hW;refine Or.inl ⟨rfl,?_⟩
  go_simp
  (with_reducible refine(lD _ _ _ n W (iL.out W hW) (by omega) (fun v es hv=>Nat.le_trans (sw.out v es hv) (by omega))).mono ?_)
  rintro e W' ⟨u1,S1,rfl,ij,aX⟩;refine⟨_,rfl,hW.trans aX,?_⟩
  replace hW:=hW.trans aX
  obtain⟨AU,mU,cU,rfl⟩:=aI.one ij;have Gb:=zh (HF.out ▸ ij.read);have Qq:Hid (w0.heap.size<=W'.heap.size):=(aa.below hW).size;clear ij aX
  (try simp only[zA])
  refine Or.inl ⟨rfl,?_⟩
  go_simp
  (with_reducible refine(ot _ _ _ _ _ _ p n F most _ (f5.out _ hW) (iL.out _ hW) Gb.out lS Ey.out).mono ?_)
  rintro e W' ⟨sb,ul,uf,SL,rfl,hS,nQ,hb⟩;refine⟨_,rfl,hW.trans hb,?_⟩
  replace hW:=hW.trans hb
  rw[KC.out]at hS;have rP:=zh (hS.mono Qq.out);have vO:Hid (w0.heap.size<=sb):=Nat.le_trans Qq.out nQ;clear hS hb nQ
  (try simp only[zA])
  simp only[bj];have HW:=zh hW;clear hW;go_wp2
  go_loopw [9] (fun cv wr=>∃(k:Int) (fr:Bool) (l:List (List Int)) (aO st:Int),cv=.int .i64 k/\0<=aO/\aO<=PT.length/\0<=st/\st<=most/\Qp oy p n.ends PT most fr k l aO st=R/\cj wr sb (jv p (.slice P0 p.nodes.length eP) (.slice P1 p.ac3.length eB) (.slice A n.ends.length c) (.slice A2 n.ids.length c2) (.slice A3 n.ac1.length c3) ul uf aO st most fr) l PT ul uf SL w0.heap.size/\(eC n.ends l/\rK (p.labels-1) l)/\aa w0 wr) (fun _ wr=>IB wr sb+ap most (jS wr sb 9) (jS wr sb 10))
  case atStart=>exact⟨0,true,F,0,0,rfl,by omega,by omega,by omega,No.out.1,HR.out,rP.out,⟨fU.out,kp.out⟩,HW.out⟩
  case round=>
   obtain⟨k,fr,l,aO,st,rfl,iT,lX,dw,dZ,it,fp,hinv,hb⟩:=hrel;obtain⟨M0,ww⟩:∃z,IB wr sb+ap most (jS wr sb 9) (jS wr sb 10)=z:=⟨_,rfl⟩
   have yl:=zh ww
   have Ab:Hid ((if fr=true then 1 else 0)+ap most aO st=M0):=by
    show _=_
    obtain⟨d0,d1,d2,d3,d4,d5,d6,d7,d8,d9,tG,CC,Af⟩:=cn fp.1;rw[<- ww,cx d9,cx tG,uV Af]
   have qH:=zh (zj p n _ _ _ _ _ ul uf sb SL w0.heap.size PT most aO st fr l wr vO.out (fun X hX=>f5.out X (Below.trans hb hX)) (fun X hX=>iL.out X (Below.trans hb hX)) fp IA.out jP.out Bt.out qG.out hinv.1 hinv.2 nr.out mo.out No.out ⟨iT,lX⟩ ⟨dw,dZ⟩ sw.out)
   obtain⟨r,hr⟩:∃r,uh p n.ends PT most fr l aO st=r:=⟨_,rfl⟩
   have zQ:=zh (wG oy p n.ends PT most fr k l aO st iT lX dZ r hr);rw[it]at zQ;rw[hr]at qH;have Hb:=zh hb;clear hr ww fp hinv it hb;go_wp2_with fail;refine qH.out.mono ?_;rintro e W2 ⟨rfl,uW,pW,bJ⟩;have qB:=zh uW;have CF:=zh pW;have kP:=zh (Below.trans Hb.out bJ);clear uW pW bJ
   by_cases h1:r.1=1
   ·have fH:(r.1 != 1)=false:=by simpa using h1
    have jy:=zQ.out.1;rw[if_pos h1,if_pos (show(oy k r.2.1).1=true from rfl)]at jy;have KE:=zh jy.symm;obtain⟨e1,e2,e3,e4⟩:=zQ.out.2.1 h1;have E4:=zh e4;clear jy h1 e4;go_wp2;go_roundw
    case rel=>exact⟨_,false,r.2.1,r.2.2.1,r.2.2.2,rfl,by omega,by omega,by omega,e3,KE.out,qB.out,CF.out,kP.out⟩
    case measure=>
     obtain⟨d0,d1,d2,d3,d4,d5,d6,d7,d8,d9,tG,CC,Af⟩:=cn qB.out.1;rw[yl.out,cx d9,cx tG,uV Af,<- Ab.out]
     have:=E4.out
     cases fr <;> simp at this ⊢ <;> omega
   ·have fH:(r.1 != 1)=true:=by simpa using h1
    have jy:=zQ.out.1;rw[if_neg h1]at jy;have KE:=zh jy;clear jy h1;go_wp2
    go_ret2
    exact⟨uU (by rw[tH.out,KE.out]) (by rw[CE.out,KE.out]),aa.after bQ.out kP.out⟩
 ·have hk:uj p n most=false:=by unfold uj;revert hg;cases dF p <;> cases aW n <;> cases fT 0 200000 most <;> simp
  have h0:aJ p n most=0:=by unfold aJ;rw[hk];rfl
  have h1:aK p n most=0:=by unfold aK;rw[hk];rfl
  have HW:=zh hW;clear hW;go_wp2
  go_ret2
  exact⟨uU h0.symm h1.symm,aa.after bQ.out HW.out⟩
def gc (n:aw) (l:List (List Int)) (k:Nat):Bool:=(List.range k).all fun v=>decide ((l.getD v []).length=(n.ends.getD v []).length)
theorem tI (n:aw) (l:List (List Int)) (k:Nat):gc n l (k+1)=(gc n l k&&decide ((l.getD k []).length=(n.ends.getD k []).length)):=by
 unfold gc;rw[List.range_succ,List.all_append];simp
theorem rQ {n:aw} {l:List (List Int)} {k m:Nat} (hk:k<m) (h:(l.getD k []).length≠(n.ends.getD k []).length):gc n l m=false:=by
 unfold gc;rw[List.all_eq_false];exact⟨k,List.mem_range.2 hk,by simpa using h⟩
def kj (n:aw) (l:List (List Int)):Bool:=decide (l.length=n.ends.length)&&gc n l l.length
def Gc (p:az) (l:List (List Int)):Bool:=!(l.any fun c => !jL c (-1) (p.labels-1))
def eo (p:az) (n:aw) (l:List (List Int)):Bool:=kj n l&&Gc p l
def mp (p:az) (l:List (List Int)) (k:Nat):Bool:=(List.range k).all fun v=>jL (l.getD v []) (-1) (p.labels-1)
theorem EA (p:az) (l:List (List Int)) (k:Nat):mp p l (k+1)=(mp p l k&&jL (l.getD k []) (-1) (p.labels-1)):=by
 unfold mp;rw[List.range_succ,List.all_append];simp
theorem CG {p:az} {l:List (List Int)} {k m:Nat} (hk:k<m) (h:jL (l.getD k []) (-1) (p.labels-1)=false):mp p l m=false:=by
 unfold mp;rw[List.all_eq_false];exact⟨k,List.mem_range.2 hk,by simpa using h⟩
theorem Ov (p:az) (l:List (List Int)):Gc p l=mp p l l.length:=by
 unfold Gc mp
 rw[List.not_any_eq_all_not,Bool.eq_iff_iff];simp only[List.all_eq_true,List.mem_range,Bool.not_not];constructor
 ·intro h v hv;obtain⟨x,hx⟩:=ay l v hv;rw[ak hx];exact h x (List.mem_of_getElem? hx)
 ·intro h x hx;obtain⟨k,hk⟩:=List.getElem?_of_mem hx
  have:=h k (al hk)
  rwa [ak hk]at this
theorem Ag (p:az) (n:aw) (l:List (List Int)):eo p n l=(decide (l.length=n.ends.length)&&(gc n l l.length&&mp p l l.length)):=by
 unfold eo kj
 rw[Ov,Bool.and_assoc]
theorem wJ {p:az} (h:dF p=true):(1<=p.labels/\p.labels<=8)/\True:=by
 unfold dF at h;simp only[Bool.and_eq_true,aL]at h;exact⟨h.1,trivial⟩
theorem Ow (v:Value) (xs:List Int) (lo hi:Int) (w:World) (h:bO w v xs):
  Calls Tryz.prog 87 #[v,.int .i64 lo,.int .i64 hi] w fun e w'=>e=.returned (.bool (jL xs lo hi))/\Below w.heap.size w w':=(ru v xs lo hi w h).mono fun _ _ ⟨h1,h2⟩=>⟨h1,h2 ▸ Below.refl _ _⟩
theorem tJ (ve vi vn vl:Value) (n:aw) (l:List (List Int)) (w:World) (h:aU w ve vi vn n) (hl:a_ w vl l):
  Calls Tryz.prog 80 #[.agg #[ve,vi,vn],vl] w fun e w'=>e=.returned (.bool (kj n l))/\Below w.heap.size w w':=by
 obtain⟨w0,A,c,A2,c2,A3,c3,rfl,rfl,rfl,f_,hm,fq,fF,HA,cS,bQ,H,gP,ig,ii⟩:=zB h;clear h
 have HL:=zh (hl.ac2 bQ.out);obtain⟨AL,cL,rfl,Qn,yi,-⟩:=hl;unfold maxLen at yi
 go_enter Tryz.func80,Tryz.ntmps80
 go_upto_region 1 with(fail);rw[<- cS.out];have hs:aa w0 w0:=ad _
 by_cases dQ:l.length=n.ends.length
 ·have aX:((l.length:Int) != (n.ends.length:Int))=false:=by simp[dQ]
  have t_:l.length<=n.ends.length:=by omega
  have HR:Hid (kj n l=gc n l l.length):=by show _=_;unfold kj;rw[decide_eq_true dQ];rfl
  clear dQ;go_wp2
  go_loopw [15] (fun i wr=>∃k:Nat,k<=l.length/\i=.int .i64 k/\gc n l k=true/\aa w0 wr) (fun i _=>l.length-(intOf i).toNat)
  case atStart=>exact⟨0,Nat.zero_le _,rfl,rfl,hs⟩
  case round=>
   obtain⟨k,hk,rfl,bH,hb⟩:=hrel;have eV:=zh bH;have Hb:=zh hb;clear bH hs aX
   by_cases aH:k<l.length
   ·obtain⟨row,b,off,A1,z1,hx,rfl,dG,dP,eO,j6⟩:=dT HL.out aH;obtain⟨es,ca⟩:=ay n.ends k (by omega);obtain⟨b',md,c',u,hA,hk',lK,aD⟩:=kd H.out.es ca;cases hA;obtain⟨A3',z3,rfl,qj,WP,-⟩:=aD;have q1:=bc Hb.out.below dG;have q2:=bc Hb.out.below lK;have KF:Hid ((l.getD k []).length=row.length/\(n.ends.getD k []).length=es.length):=⟨by rw[ak hx],by rw[ak ca]⟩
    clear dG lK hx ca j6
    by_cases uG:row.length=es.length
    ·have fH:((row.length:Int) != (es.length:Int))=false:=by simp[uG]
     have Hn:Hid (gc n l (k+1)=true):=by show _=_;rw[tI,eV.out,KF.out.1,KF.out.2,decide_eq_true uG];rfl
     clear uG;go_wp2;go_roundw
     case rel=>exact⟨k+1,by omega,by go_num,Hn.out,Hb.out⟩
     case measure=>simp[intOf];omega
    ·have fH:((row.length:Int) != (es.length:Int))=true:=by simp;omega
     have Hn:Hid (gc n l l.length=false):=rQ aH (by rw[KF.out.1,KF.out.2];exact uG)
     clear uG;go_wp2;go_ret;exact⟨aB (HR.out.trans Hn.out),aa.after bQ.out Hb.out⟩
   ·obtain rfl:k=l.length:=by omega
    clear hb;go_wp2;go_ret;exact⟨dn (HR.out.trans eV.out),aa.after bQ.out Hb.out⟩
 ·have aX:((l.length:Int) != (n.ends.length:Int))=true:=by simp;omega
  have HR:Hid (kj n l=false):=by show _=_;unfold kj;rw[decide_eq_false dQ];rfl
  clear dQ;go_wp2;go_ret;exact⟨aB HR.out,bQ.out⟩
theorem EB:∀args w,(callFunc 82 args).run Tryz.prog w=.ok (.enter 82 args) w:=enters_of Tryz.func82 (by kernel_rfl) rfl
theorem Ox (u:Value) (row:List Int) (bp:Nat) (x:Int) (w:World) (h:bO w u row) (hx:IntKind.i64.wrap (x-1)=x-1) (hc:w.cell? ⟨bp,0,none⟩=some (.int .i64 x)):
  Calls Tryz.prog 82 #[u,.pointer (some ⟨bp,0,none⟩)] w fun e w'=>e=.returned (.bool (!jL row (-1) (x-1)))/\Below w.heap.size w w':=by
 have H:=zh h;obtain⟨A,c,rfl,-,-,-⟩:=h
 go_enter Tryz.func82,Tryz.ntmps82
 go_wp2_with fail;refine(iD _ row _ _ _ H.out).mono ?_;rintro e w1 ⟨rfl,hb⟩;go_wp2;go_ret;exact⟨rfl,hb⟩
theorem k8 (pa pb ve vi vn vl:Value) (p:az) (n:aw) (l:List (List Int)) (w:World) (hp:di w pa pb p) (h:aU w ve vi vn n) (hl:a_ w vl l) (fv:1<=p.labels/\p.labels<=8):
  Calls Tryz.prog 33 #[.agg #[.int .i64 p.labels,.int .i64 p.degree,pa,pb],.agg #[ve,vi,vn],vl] w fun e w'=>e=.returned (.bool (eo p n l))/\Below w.heap.size w w':=by
 obtain⟨w0,ar⟩:∃w0,w0=((w).alloc (.cells #[.int .i64 p.labels,.int .i64 p.degree,pa,pb] 26)).alloc (.cells #[ve,vi,vn] 30):=⟨_,rfl⟩
 have bG:Below w.heap.size w w0:=by rw[ar];exact(((Below.refl _ _).alloc (by simp <;> omega) _).alloc (by simp <;> omega) _)
 have H:=zh (h.ac2 bG);obtain⟨h1,h2,h3⟩:=h.ac2 bG;obtain⟨A,c,rfl,f_,hm,hA⟩:=h1;obtain⟨A2,c2,rfl,_,fq,_⟩:=h2;obtain⟨A3,c3,rfl,_,fF,_⟩:=h3;unfold maxLen at hm fq fF;have cZ:=hp.ac2 bG;have HP:=zh cZ;obtain⟨P0,eP,rfl,ji,dX,bZ⟩:=id cZ.1;unfold maxLen at dX;have jj:=zh bZ;clear bZ;obtain⟨P1,eB,rfl,jk,dY,b_⟩:=id cZ.2;unfold maxLen at dY;have jl:=zh b_;clear b_;clear cZ hp
 have gP:∀W,aa w0 W->W.cell? ⟨w.heap.size,0,none⟩=some (.int .i64 p.labels):=ab (by rw[ar];simp)
 have ig:∀W,aa w0 W->W.cell? ⟨w.heap.size,1,none⟩=some (.int .i64 p.degree):=ab (by rw[ar];simp)
 have ii:∀W,aa w0 W->W.cell? ⟨w.heap.size,2,none⟩=some (.slice P0 p.nodes.length eP):=ab (by rw[ar];simp)
 have mL:∀W,aa w0 W->W.cell? ⟨w.heap.size,3,none⟩=some (.slice P1 p.ac3.length eB):=ab (by rw[ar];simp)
 have rJ:∀W,aa w0 W->W.cell? ⟨w.heap.size+1,0,none⟩=some (.slice A n.ends.length c):=ab (by rw[ar];simp)
 have tD:∀W,aa w0 W->W.cell? ⟨w.heap.size+1,1,none⟩=some (.slice A2 n.ids.length c2):=ab (by rw[ar];simp)
 have tE:∀W,aa w0 W->W.cell? ⟨w.heap.size+1,2,none⟩=some (.slice A3 n.ac1.length c3):=ab (by rw[ar];simp)
 have bQ:=zh bG;have cS:=zh ar;have HA:=zh hA;clear hA h;clear bG ar;have HL:=zh (show ∀X,aa w0 X->a_ X vl l from fun X hX=>(hl.ac2 bQ.out).ac2 hX.below)
 have iL:=zh (show ∀X,aa w0 X->aU X (.slice A n.ends.length c) (.slice A2 n.ids.length c2) (.slice A3 n.ac1.length c3) n from fun X hX=>H.out.ac2 hX.below)
 obtain⟨AL,cL,rfl,-,-,-⟩:=hl;have hwx:IntKind.i64.wrap (p.labels-1)=p.labels-1:=aE _ (by omega) (by omega);have Hwx:=zh hwx;have Np:=zh gP
 go_enter Tryz.func33,Tryz.ntmps33
 go_upto_region 1 with(fail);rw[<- cS.out];clear hwx;have hs:aa w0 w0:=ad _;go_wp2_with fail;refine(tJ _ _ _ _ n l _ (iL.out _ hs) (HL.out _ hs)).mono ?_;rintro e W ⟨rfl,hb⟩;have hW:aa w0 W:=hs.trans hb;have HW:=zh hW;clear hb hs hW gP ig ii mL rJ tD tE;cases da:kj n l
 ·have Hr:Hid (eo p n l=false):=by show _=_;unfold eo;rw[da];rfl
  clear da;go_wp2;go_ret;exact⟨aB Hr.out,aa.after bQ.out HW.out⟩
 ·have Hr:Hid (eo p n l=Gc p l):=by show _=_;unfold eo;rw[da];rfl
  clear da;go_wp2_with fail;refine(iV _ l 82 #[.pointer (some ⟨w.heap.size,0,none⟩)] (fun c => !jL c (-1) (p.labels-1)) _ (HL.out _ HW.out) EB (fun c hc u X hX hu=>Ox u c _ _ X hu Hwx.out (Np.out X (HW.out.after hX)))).mono ?_
  rintro e W2 ⟨rfl,hb⟩;have pl:=zh (HW.out.trans hb);clear hb;go_wp2;go_ret
  exact⟨ce (by rw[Hr.out];rfl),aa.after bQ.out pl.out⟩
theorem wK (pa pb ve vi vn vl:Value) (p:az) (n:aw) (l:List (List Int)) (w:World) (hp:di w pa pb p) (h:aU w ve vi vn n) (hl:a_ w vl l):
  Calls Tryz.prog 38 #[.agg #[.int .i64 p.labels,.int .i64 p.degree,pa,pb],.agg #[ve,vi,vn],vl] w fun e w'=>e=.returned (.bool (dF p&&aW n&&eo p n l))/\Below w.heap.size w w':=by
 obtain⟨w0,ar⟩:∃w0,w0=((w).alloc (.cells #[.int .i64 p.labels,.int .i64 p.degree,pa,pb] 26)).alloc (.cells #[ve,vi,vn] 30):=⟨_,rfl⟩
 have bG:Below w.heap.size w w0:=by rw[ar];exact(((Below.refl _ _).alloc (by simp <;> omega) _).alloc (by simp <;> omega) _)
 have H:=zh (h.ac2 bG);obtain⟨h1,h2,h3⟩:=h.ac2 bG;obtain⟨A,c,rfl,f_,hm,hA⟩:=h1;obtain⟨A2,c2,rfl,_,fq,_⟩:=h2;obtain⟨A3,c3,rfl,_,fF,_⟩:=h3;unfold maxLen at hm fq fF;have cZ:=hp.ac2 bG;have HP:=zh cZ;obtain⟨P0,eP,rfl,ji,dX,bZ⟩:=id cZ.1;unfold maxLen at dX;have jj:=zh bZ;clear bZ;obtain⟨P1,eB,rfl,jk,dY,b_⟩:=id cZ.2;unfold maxLen at dY;have jl:=zh b_;clear b_;clear cZ hp
 have gP:∀W,aa w0 W->W.cell? ⟨w.heap.size,0,none⟩=some (.int .i64 p.labels):=ab (by rw[ar];simp)
 have ig:∀W,aa w0 W->W.cell? ⟨w.heap.size,1,none⟩=some (.int .i64 p.degree):=ab (by rw[ar];simp)
 have ii:∀W,aa w0 W->W.cell? ⟨w.heap.size,2,none⟩=some (.slice P0 p.nodes.length eP):=ab (by rw[ar];simp)
 have mL:∀W,aa w0 W->W.cell? ⟨w.heap.size,3,none⟩=some (.slice P1 p.ac3.length eB):=ab (by rw[ar];simp)
 have rJ:∀W,aa w0 W->W.cell? ⟨w.heap.size+1,0,none⟩=some (.slice A n.ends.length c):=ab (by rw[ar];simp)
 have tD:∀W,aa w0 W->W.cell? ⟨w.heap.size+1,1,none⟩=some (.slice A2 n.ids.length c2):=ab (by rw[ar];simp)
 have tE:∀W,aa w0 W->W.cell? ⟨w.heap.size+1,2,none⟩=some (.slice A3 n.ac1.length c3):=ab (by rw[ar];simp)
 have bQ:=zh bG;have cS:=zh ar;have HA:=zh hA;clear hA h;clear bG ar;have HL:=zh (hl.ac2 bQ.out);have f5:=zh (show ∀X,aa w0 X->di X (.slice P0 p.nodes.length eP) (.slice P1 p.ac3.length eB) p from fun X hX=>HP.out.ac2 hX)
 have iL:=zh (show ∀X,aa w0 X->aU X (.slice A n.ends.length c) (.slice A2 n.ids.length c2) (.slice A3 n.ac1.length c3) n from fun X hX=>H.out.ac2 hX.below)
 obtain⟨AL,cL,rfl,Qn,yi,-⟩:=hl;unfold maxLen at yi
 go_enter Tryz.func38,Tryz.ntmps38
 go_upto_region 1 with(fail);rw[<- cS.out];refine bD 16 (aa w0) (ad _) ?_;simp only[zT]
 refine bF rfl ?_;simp only[zA]
 refine cH ?_ rfl ?_ ?_;rotate_left;(intro W hW;unfold ba;go_simp;(with_reducible refine(mM _ _ p W (f5.out W hW)).mono ?_);rintro e W' ⟨rfl,aG⟩;first | (refine⟨?_,aa.trans hW aG⟩;with_reducible rfl) | (subst aG;refine⟨?_,hW⟩;with_reducible rfl))
 simp only[zA]
 iterate 2 (refine bF rfl ?_;simp only[zA])
 refine gT rfl rfl ?_;simp only[zA]
 refine bv (v:=?_) rfl rfl ?_ ?_;rotate_left;(intro hb;intro W hW;unfold ba;go_simp;(with_reducible refine(mF _ _ _ n W (iL.out W hW)).mono ?_);rintro e W' ⟨rfl,aG⟩;first | (refine⟨?_,aa.trans hW aG⟩;with_reducible rfl) | (subst aG;refine⟨?_,hW⟩;with_reducible rfl))
 simp only[zA]
 refine gT rfl rfl ?_;simp only[zA]
 (first | refine cd rfl rfl ?_ | (refine bF rfl ?_));simp only[zA]
 refine bF rfl ?_;simp only[zA]
 iterate 6 (refine gT rfl rfl ?_;simp only[zA])
 (first | refine cd rfl rfl ?_ | (refine bF rfl ?_));simp only[zA]
 intro W hW
 cases hg:(!dF p || !aW n||((l.length:Int) != (n.ends.length:Int)))
 ·simp only[Bool.or_eq_false_iff,Bool.not_eq_false']at hg;obtain⟨⟨lC,hn⟩,hm⟩:=hg;have dQ:l.length=n.ends.length:=Int.ofNat.inj (by simpa using hm);obtain⟨fv,-⟩:=wJ lC;have hwx:IntKind.i64.wrap (p.labels-1)=p.labels-1:=aE _ (by omega) (by omega)
  have HR:Hid ((dF p&&aW n&&eo p n l)=(gc n l l.length&&mp p l l.length)):=by
   show _=_
   rw[lC,hn,Ag,decide_eq_true dQ];rfl
  have f6:=zh hW;have tz:l.length<=n.ends.length:=by omega
  clear hm lC hn fv hW dQ;go_wp2
  go_loopw [27] (fun i wr=>∃k:Nat,k<=l.length/\i=.int .i64 k/\(gc n l k=true/\mp p l k=true)/\aa w0 wr) (fun i _=>l.length-(intOf i).toNat)
  case atStart=>exact⟨0,Nat.zero_le _,rfl,⟨rfl,rfl⟩,f6.out⟩
  case round=>
   obtain⟨k,hk,rfl,bH,hb⟩:=hrel;have eV:=zh bH;have Hb:=zh hb;clear bH
   by_cases aH:k<l.length
   ·obtain⟨row,b,off,A1,z1,hx,rfl,dG,dP,eO,j6⟩:=dT HL.out aH;obtain⟨es,ca⟩:=ay n.ends k (by omega);obtain⟨b',md,c',u,hA,hk',lK,aD⟩:=kd H.out.es ca;cases hA;obtain⟨A3',z3,rfl,qj,WP,-⟩:=aD;have q1:=aj (ab dG) Hb.out;have q2:=aj (ab lK) Hb.out;have l1:=aj gP Hb.out;have l2:=aj rJ Hb.out;have HX:=zh (show ∀X,aa w0 X->bO X (.slice A1 row.length z1) row from fun X hX=>j6.ac2 hX.below)
    have KF:Hid ((l.getD k []=row)/\(n.ends.getD k []).length=es.length):=⟨ak hx,by rw[ak ca]⟩
    have HL':=HL;clear dG lK hx ca j6 gP rJ hb;have Qr:aa wr wr:=ad _;go_upto_region 6 with(fail);refine bD 17 (aa wr) (ad _) ?_;simp only[zT]
    iterate 10 (refine bF rfl ?_;simp only[zA])
    iterate 4 (refine gT rfl rfl ?_;simp only[zA])
    refine bv (v:=?_) rfl rfl ?_ ?_;rotate_left;(intro hb;intro W hW;unfold ba;go_simp;(with_reducible refine(Ow _ row _ _ W (HX.out W (Hb.out.after hW))).mono ?_);rintro e W' ⟨rfl,aG⟩;first | (refine⟨?_,aa.trans hW aG⟩;with_reducible rfl) | (subst aG;refine⟨?_,hW⟩;with_reducible rfl))
    simp only[zA]
    refine gT rfl rfl ?_;simp only[zA]
    (first | refine cd rfl rfl ?_ | (refine bF rfl ?_));simp only[zA]
    intro W2 gm;have kP:=zh (Hb.out.after gm);clear gm q1 q2 l1 l2 Qr
    cases hg:(((row.length:Int) != (es.length:Int)) || !jL row (-1) (p.labels-1))
    ·have Hn:Hid (gc n l (k+1)=true/\mp p l (k+1)=true):=by
      simp only[Bool.or_eq_false_iff,Bool.not_eq_false',bne_eq_false_iff_eq]at hg;refine⟨?_,?_⟩
      ·rw[tI,eV.out.1,KF.out.1,KF.out.2,decide_eq_true (by omega)];rfl
      ·rw[EA,eV.out.2,KF.out.1,hg.2];rfl
     go_wp2;go_roundw
     case rel=>exact⟨k+1,by omega,by go_num,Hn.out,kP.out⟩
     case measure=>simp[intOf];omega
    ·have Hn:Hid ((gc n l l.length&&mp p l l.length)=false):=by
      show _=_
      cases hq:jL row (-1) (p.labels-1)
      ·rw[CG aH (by rw[KF.out.1];exact hq),Bool.and_false]
      ·rw[hq]at hg
       rw[rQ aH (by rw[KF.out.1,KF.out.2];intro e;rw[e]at hg;simp at hg),Bool.false_and]
     go_wp2;go_ret;exact⟨aB (HR.out.trans Hn.out),aa.after bQ.out kP.out⟩
   ·obtain rfl:k=l.length:=by omega
    go_wp2;go_ret
    exact⟨dn (HR.out.trans (by rw[eV.out.1,eV.out.2];rfl)),aa.after bQ.out Hb.out⟩
 ·have Hn:Hid ((dF p&&aW n&&eo p n l)=false):=by
   show _=_
   revert hg
   rw[Ag]
   cases dF p <;> cases aW n <;> simp
   intro h1 h2;omega
  have HW:=zh hW;clear hW;go_wp2;go_ret;exact⟨aB Hn.out,aa.after bQ.out HW.out⟩
def KG (p:az) (n:aw) (l:List (List Int)):Bool:=dF p&&aW n&&eo p n l
theorem yo (pa pb ve vi vn vl:Value) (p:az) (n:aw) (l:List (List Int)) (w:World) (hp:di w pa pb p) (h:aU w ve vi vn n) (hl:a_ w vl l):
  Calls Tryz.prog 38 #[.agg #[.int .i64 p.labels,.int .i64 p.degree,pa,pb],.agg #[ve,vi,vn],vl] w fun e w'=>e=.returned (.bool (KG p n l))/\Below w.heap.size w w':=wK pa pb ve vi vn vl p n l w hp h hl
theorem aaC {a b:Bool} (h:(!a||b)=false):a=true:=by cases a <;> simp at h ⊢
theorem mq {p:az} {n:aw} {l:List (List Int)} (h:eo p n l=true):eC n.ends l/\rK (p.labels-1) l:=by
 rw[Ag,Bool.and_eq_true,Bool.and_eq_true,decide_eq_true_iff]at h;obtain⟨h1,h2,h3⟩:=h;unfold gc at h2;unfold mp at h3;rw[List.all_eq_true]at h2 h3;refine⟨⟨h1,fun v es row he hr=>?_⟩,fun v row i x hr hx=>?_⟩
 ·have:=h2 v (List.mem_range.2 (al hr))
  rw[ak hr,ak he]at this;simpa using this
 ·have:=h3 v (List.mem_range.2 (al hr))
  rw[ak hr]at this;unfold jL at this;rw[List.all_eq_true]at this
  have:=aL.1 (this x (List.mem_of_getElem? hx))
  exact this
theorem mr {n:aw} {l:List (List Int)} (hn:aW n=true) (hs:eC n.ends l):l.length<=40/\∀(v:Nat) (row:List Int),l[v]?=some row->row.length<=6:=by
 obtain⟨h1,h2⟩:=gD hn
 refine⟨by rw[hs.1];exact h1,fun v row hv=>?_⟩
 obtain⟨es,ca⟩:=ay n.ends v (by rw[<- hs.1];exact al hv)
 rw[hs.2 v es row ca hv];exact h2 v es ca
theorem zl {l:List (List Int)} (h:∀(v:Nat) (row:List Int),l[v]?=some row->row.length<=6):ya l<=6*l.length:=by
 have h':∀x∈l,x.length<=6:=fun x hx=>by
  obtain⟨k,hk⟩:=List.getElem?_of_mem hx;exact h k x hk
 clear h;unfold ya
 induction l with
 | nil=>simp
 | cons a l ih=>
  have h1:=h' a (by simp);have h2:=ih fun x hx=>h' x (by simp[hx])
  simp only[List.map_cons,List.sum_cons,List.length_cons];omega
def Ah (_:Unit) (_:List (List Int)):Bool×Unit:=(false,())
def oz (p:az) (n:aw) (l:List (List Int)) (most:Int):Bool:=dF p&&aW n&&eo p n l&&fT 0 200000 most
def Nq (p:az) (n:aw) (l:List (List Int)) (most:Int):Unit×FX:=su Ah p n.ends (fB l) most () l
def aP (p:az) (n:aw) (l:List (List Int)) (most:Int):List (List Int):=if oz p n l most=true then (if (Nq p n l most).2.1=1 then (Nq p n l most).2.2.1 else []) else []
def aV (p:az) (n:aw) (l:List (List Int)) (most:Int):Int:=if oz p n l most=true then (Nq p n l most).2.1 else 0
def bn (p:az) (n:aw) (l:List (List Int)) (most:Int):Int:=if oz p n l most=true then (Nq p n l most).2.2.2.2 else 0
theorem KH {p:az} {n:aw} {l:List (List Int)} {most:Int} {R:Unit×FX} (dJ:oz p n l most=true) (hR:Nq p n l most=R):aP p n l most=(if R.2.1=1 then R.2.2.1 else [])/\aV p n l most=R.2.1/\bn p n l most=R.2.2.2.2:=by
 unfold aP aV bn
 rw[hR];simp[dJ]
theorem Qs {p:az} {n:aw} {l:List (List Int)} {most:Int} (dJ:oz p n l most=false):aP p n l most=[]/\aV p n l most=0/\bn p n l most=0:=by
 unfold aP aV bn
 simp[dJ]
theorem jz (w:World) (B:Nat):bz w B (.slice none 0 0) [] []:=⟨[],[],World.ownsRow_nil _ _ _ _,by simp,by simp,by simp[Value.ownBlock],by simp⟩
theorem EC:∀args w,(callFunc 37 args).run Tryz.prog w=.ok (.enter 37 args) w:=enters_of Tryz.func37 (by kernel_rfl) rfl
theorem Oy (w:World):Calls Tryz.prog 37 #[] w fun e w'=>e=.returned (.bool false)/\w'=w:=by
 go_enter Tryz.func37,Tryz.ntmps37
 go_wp2;go_ret;exact⟨rfl,rfl⟩
theorem ED (pa pb ve vi vn vl:Value) (p:az) (n:aw) (l:List (List Int)) (most:Int) (w:World) (hp:di w pa pb p) (h:aU w ve vi vn n) (hl:a_ w vl l) (_ : -9223372036854775808<=most/\most<=9223372036854775807) (pi:ks p<=1048576) (eR:gO n<=1048576):
  Calls Tryz.prog 7 #[.agg #[.int .i64 p.labels,.int .i64 p.degree,pa,pb],.agg #[ve,vi,vn],vl,.int .i64 most] w fun e w'=>∃u S,e=.returned (.tuple #[u,.int .i64 (aV p n l most),.int .i64 (bn p n l most)])/\bz w' w.heap.size u (aP p n l most) S/\Below w.heap.size w w':=by
 have iI:p.ac3.length<=1048576:=by unfold ks oc at pi;omega
 have KB:=zh (jr eR);obtain⟨w0,ar⟩:∃w0,w0=((w).alloc (.cells #[.int .i64 p.labels,.int .i64 p.degree,pa,pb] 26)).alloc (.cells #[ve,vi,vn] 30):=⟨_,rfl⟩
 have bG:Below w.heap.size w w0:=by rw[ar];exact(((Below.refl _ _).alloc (by simp <;> omega) _).alloc (by simp <;> omega) _)
 have H:=zh (h.ac2 bG);obtain⟨h1,h2,h3⟩:=h.ac2 bG;obtain⟨A,c,rfl,f_,hm,hA⟩:=h1;obtain⟨A2,c2,rfl,_,fq,_⟩:=h2;obtain⟨A3,c3,rfl,_,fF,_⟩:=h3;unfold maxLen at hm fq fF;have cZ:=hp.ac2 bG;have HP:=zh cZ;obtain⟨P0,eP,rfl,ji,dX,bZ⟩:=id cZ.1;unfold maxLen at dX;have jj:=zh bZ;clear bZ;obtain⟨P1,eB,rfl,jk,dY,b_⟩:=id cZ.2;unfold maxLen at dY;have jl:=zh b_;clear b_;clear cZ hp
 have gP:∀W,aa w0 W->W.cell? ⟨w.heap.size,0,none⟩=some (.int .i64 p.labels):=ab (by rw[ar];simp)
 have ig:∀W,aa w0 W->W.cell? ⟨w.heap.size,1,none⟩=some (.int .i64 p.degree):=ab (by rw[ar];simp)
 have ii:∀W,aa w0 W->W.cell? ⟨w.heap.size,2,none⟩=some (.slice P0 p.nodes.length eP):=ab (by rw[ar];simp)
 have mL:∀W,aa w0 W->W.cell? ⟨w.heap.size,3,none⟩=some (.slice P1 p.ac3.length eB):=ab (by rw[ar];simp)
 have rJ:∀W,aa w0 W->W.cell? ⟨w.heap.size+1,0,none⟩=some (.slice A n.ends.length c):=ab (by rw[ar];simp)
 have tD:∀W,aa w0 W->W.cell? ⟨w.heap.size+1,1,none⟩=some (.slice A2 n.ids.length c2):=ab (by rw[ar];simp)
 have tE:∀W,aa w0 W->W.cell? ⟨w.heap.size+1,2,none⟩=some (.slice A3 n.ac1.length c3):=ab (by rw[ar];simp)
 have bQ:=zh bG;have cS:=zh ar;have HA:=zh hA;clear hA h;clear bG ar;have f5:=zh (show ∀X,aa w0 X->di X (.slice P0 p.nodes.length eP) (.slice P1 p.ac3.length eB) p from fun X hX=>HP.out.ac2 hX)
 have iL:=zh (show ∀X,aa w0 X->aU X (.slice A n.ends.length c) (.slice A2 n.ids.length c2) (.slice A3 n.ac1.length c3) n from fun X hX=>H.out.ac2 hX.below)
 have HL:=zh (show ∀X,aa w0 X->a_ X vl l from fun X hX=>(hl.ac2 bQ.out).ac2 hX.below)
 obtain⟨AL,cL,rfl,-,-,-⟩:=hl;clear eR pi
 go_enter Tryz.func7,Tryz.ntmps7
 go_upto_region 1 with(fail);rw[<- cS.out];refine bD 20 (aa w0) (ad _) ?_;simp only[zT]
 refine bF rfl ?_;simp only[zA]
 refine cH ?_ rfl ?_ ?_;rotate_left;(intro W hW;unfold ba;go_simp;(with_reducible refine(hZ _ _ p W (f5.out W hW)).mono ?_);rintro e W' ⟨rfl,aG⟩;first | (refine⟨?_,aa.trans hW aG⟩;with_reducible rfl) | (subst aG;refine⟨?_,hW⟩;with_reducible rfl))
 simp only[zA]
 iterate 2 (refine bF rfl ?_;simp only[zA])
 refine gT rfl rfl ?_;simp only[zA]
 refine bv (v:=?_) rfl rfl ?_ ?_;rotate_left;(intro hb;intro W hW;unfold ba;go_simp;(with_reducible refine(g8 _ _ _ n W (iL.out W hW) KB.out).mono ?_);rintro e W' ⟨rfl,aG⟩;first | (refine⟨?_,aa.trans hW aG⟩;with_reducible rfl) | (subst aG;refine⟨?_,hW⟩;with_reducible rfl))
 simp only[zA]
 refine gT rfl rfl ?_;simp only[zA]
 (first | refine cd rfl rfl ?_ | (refine bF rfl ?_));simp only[zA]
 refine bF rfl ?_;simp only[zA]
 iterate 3 (refine gT rfl rfl ?_;simp only[zA])
 refine bv (v:=?_) rfl rfl ?_ ?_;rotate_left;(intro hb;intro W hW;unfold ba;go_simp;(with_reducible refine(k8 _ _ _ _ _ _ p n l W (f5.out W hW) (iL.out W hW) (HL.out W hW) (wJ (aaC hb)).1).mono ?_);rintro e W' ⟨rfl,aG⟩;first | (refine⟨?_,aa.trans hW aG⟩;with_reducible rfl) | (subst aG;refine⟨?_,hW⟩;with_reducible rfl))
 simp only[zA]
 refine gT rfl rfl ?_;simp only[zA]
 (first | refine cd rfl rfl ?_ | (refine bF rfl ?_));simp only[zA]
 refine bF rfl ?_;simp only[zA]
 refine gT rfl rfl ?_;simp only[zA]
 refine bv (v:=?_) rfl rfl ?_ ?_;rotate_left;(intro hb;intro W hW;unfold ba;go_simp;(with_reducible refine(oo _ _ _ W).mono ?_);rintro e W' ⟨rfl,aG⟩;first | (refine⟨?_,aa.trans hW aG⟩;with_reducible rfl) | (subst aG;refine⟨?_,hW⟩;with_reducible rfl))
 simp only[zA]
 refine gT rfl rfl ?_;simp only[zA]
 (first | refine cd rfl rfl ?_ | (refine bF rfl ?_));simp only[zA]
 intro W hW
 cases hg:(!dF p || !aW n || !eo p n l || !fT 0 200000 most)
 ·have dJ:oz p n l most=true:=by unfold oz;revert hg;cases dF p <;> cases aW n <;> cases eo p n l <;> cases fT 0 200000 most <;> simp
  simp only[Bool.or_eq_false_iff,Bool.not_eq_false']at hg;obtain⟨⟨⟨lC,hn⟩,Ef⟩,hm⟩:=hg;obtain⟨eJ,dH⟩:=mq Ef;obtain⟨fv,ct⟩:=dE lC;obtain⟨lR,jU⟩:=gD hn;obtain⟨lS,wH⟩:=mr hn eJ;have No:=zh (aL.1 hm);have Ey:=zh wH;have sw:=zh jU;have jP:=zh ct;have mo:=zh (kE lS wH);have nr:=zh (mn eJ);have fU:=zh eJ;have kp:=zh dH;obtain⟨PT,rO⟩:∃PT,fB l=PT:=⟨_,rfl⟩
  obtain⟨R,hR⟩:∃R,Nq p n l most=R:=⟨_,rfl⟩
  have HR:Hid (su Ah p n.ends PT most () l=R):=by show _=_;rw[<- hR,<- rO];rfl
  have uk:=zh (KH dJ hR);rw[rO]at mo nr;have KC:=zh rO;have IA:=zh hn;have qG:=zh fv;have Bt:=zh iI;have gn:=zh hW;clear rO hR hm lC ct wH jU dJ hW Ef eJ dH hn fv;have hs:=gn.out;go_wp2_with fail;clear hs;refine(lQ _ _ _ _ _ _ p n l _ (f5.out _ gn.out) (iL.out _ gn.out) (HL.out _ gn.out) lS Ey.out).mono ?_;rintro e W1 ⟨sb,ul,uf,SL,rfl,hS,nQ,aX⟩;rw[KC.out]at hS;have hB:w0.heap.size<=W.heap.size:=(aa.below gn.out).size;have KI:w0.heap.size<=sb:=by omega
  have lE:=zh (aa.trans gn.out aX)
  have qH:=zh (F_ Ah (fun _ _=>True) 37 #[] p n _ _ _ _ _ ul uf sb SL w0.heap.size PT most () l W1 EC KI
   (fun X hX=>f5.out X (Below.trans lE.out hX)) (fun X hX=>iL.out X (Below.trans lE.out hX)) (fun _ _ _ _ _=>trivial)
   (fun s l st X _ Ai _=>(Oy X).mono fun e X' ⟨he,hX'⟩=>by rw[hX'];exact⟨he,trivial,Ai,Below.refl _ _⟩)
   (hS.mono hB) trivial IA.out jP.out Bt.out qG.out fU.out kp.out nr.out mo.out No.out sw.out)
  rw[HR.out]at qH;clear hS nQ aX hB KI;go_wp2_with fail;refine qH.out.mono ?_;rintro e W2 ⟨rfl,uW,-,bJ⟩;have qk:=zh (Below.trans lE.out bJ);have qB:=zh uW;obtain⟨AU,mU,cU,rfl⟩:=aI.one uW.2.1;obtain⟨d0,d1,d2,d3,d4,d5,d6,d7,d8,d9⟩:=dk uW.1
  replace d7:=ab d7
  replace d9:=ab d9
  have Sm:w.heap.size<=w0.heap.size:=bQ.out.size;clear d0 d1 d2 d3 d4 d5 d6 d8 uW bJ
  by_cases h1:R.2.1=1
  ·have fH:(R.2.1 != 1)=false:=by simpa using h1
   have jm:=uk.out.1;rw[if_pos h1]at jm;have tH:=zh jm;clear h1 jm;go_upto_region 7 with(fail);refine am 12 (aa W2) (by kernel_rfl) (by kernel_rfl) (by simp) (ag (ad _)) ?_;simp only[zT]
   iterate 12 (refine bF rfl ?_;simp only[zA])
   intro W3 ki;have sV:=zh ki;clear ki d7 d9;go_wp2
   go_ret3
   rw[tH.out,uk.out.2.1,uk.out.2.2];exact⟨_,_,rfl,aI.mono (aI.ac2 qB.out.2.1 sV.out.below) Sm,aa.after bQ.out (aa.after qk.out sV.out)⟩
  ·have fH:(R.2.1 != 1)=true:=by simpa using h1
   have jm:=uk.out.1;rw[if_neg h1]at jm;have tH:=zh jm;clear h1 jm;go_upto_region 6 with(fail);refine am 8 (aa W2) (by kernel_rfl) (by kernel_rfl) (by simp) (ag (ad _)) ?_;simp only[zT]
   iterate 8 (refine bF rfl ?_;simp only[zA])
   intro W3 ki;have sV:=zh ki;clear ki d7 d9;go_wp2
   go_ret3
   rw[tH.out,uk.out.2.1,uk.out.2.2];exact⟨_,_,rfl,jz _ _,aa.after bQ.out (aa.after qk.out sV.out)⟩
 ·have hk:oz p n l most=false:=by unfold oz;revert hg;cases dF p <;> cases aW n <;> cases eo p n l <;> cases fT 0 200000 most <;> simp
  obtain⟨h0,h1,h2⟩:=Qs hk;have HW:=zh hW;have H0:=zh h0;have H1:=zh h1;have H2:=zh h2;clear hW h0 h1 h2;go_wp2
  go_ret3
  rw[H0.out,H1.out,H2.out];exact⟨_,_,rfl,jz _ _,aa.after bQ.out HW.out⟩
theorem wM (pa pb ve vi vn vl:Value) (p:az) (n:aw) (l:List (List Int)) (most:Int) (w:World) (hp:di w pa pb p) (h:aU w ve vi vn n) (hl:a_ w vl l) (_ : -9223372036854775808<=most/\most<=9223372036854775807) (pi:ks p<=1048576):
  Calls Tryz.prog 8 #[.agg #[.int .i64 p.labels,.int .i64 p.degree,pa,pb],.agg #[ve,vi,vn],vl,.int .i64 most] w fun e w'=>∃u S,e=.returned (.tuple #[u,.int .i64 (aV p n l most),.int .i64 (bn p n l most)])/\bz w' w.heap.size u (aP p n l most) S/\ya (aP p n l most)<=1000000000/\Below w.heap.size w w':=by
 have iI:p.ac3.length<=1048576:=by unfold ks oc at pi;omega
 obtain⟨w0,ar⟩:∃w0,w0=((w).alloc (.cells #[.int .i64 p.labels,.int .i64 p.degree,pa,pb] 26)).alloc (.cells #[ve,vi,vn] 30):=⟨_,rfl⟩
 have bG:Below w.heap.size w w0:=by rw[ar];exact(((Below.refl _ _).alloc (by simp <;> omega) _).alloc (by simp <;> omega) _)
 have H:=zh (h.ac2 bG);obtain⟨h1,h2,h3⟩:=h.ac2 bG;obtain⟨A,c,rfl,f_,hm,hA⟩:=h1;obtain⟨A2,c2,rfl,_,fq,_⟩:=h2;obtain⟨A3,c3,rfl,_,fF,_⟩:=h3;unfold maxLen at hm fq fF;have cZ:=hp.ac2 bG;have HP:=zh cZ;obtain⟨P0,eP,rfl,ji,dX,bZ⟩:=id cZ.1;unfold maxLen at dX;have jj:=zh bZ;clear bZ;obtain⟨P1,eB,rfl,jk,dY,b_⟩:=id cZ.2;unfold maxLen at dY;have jl:=zh b_;clear b_;clear cZ hp
 have gP:∀W,aa w0 W->W.cell? ⟨w.heap.size,0,none⟩=some (.int .i64 p.labels):=ab (by rw[ar];simp)
 have ig:∀W,aa w0 W->W.cell? ⟨w.heap.size,1,none⟩=some (.int .i64 p.degree):=ab (by rw[ar];simp)
 have ii:∀W,aa w0 W->W.cell? ⟨w.heap.size,2,none⟩=some (.slice P0 p.nodes.length eP):=ab (by rw[ar];simp)
 have mL:∀W,aa w0 W->W.cell? ⟨w.heap.size,3,none⟩=some (.slice P1 p.ac3.length eB):=ab (by rw[ar];simp)
 have rJ:∀W,aa w0 W->W.cell? ⟨w.heap.size+1,0,none⟩=some (.slice A n.ends.length c):=ab (by rw[ar];simp)
 have tD:∀W,aa w0 W->W.cell? ⟨w.heap.size+1,1,none⟩=some (.slice A2 n.ids.length c2):=ab (by rw[ar];simp)
 have tE:∀W,aa w0 W->W.cell? ⟨w.heap.size+1,2,none⟩=some (.slice A3 n.ac1.length c3):=ab (by rw[ar];simp)
 have bQ:=zh bG;have cS:=zh ar;have HA:=zh hA;clear hA h;clear bG ar;have f5:=zh (show ∀X,aa w0 X->di X (.slice P0 p.nodes.length eP) (.slice P1 p.ac3.length eB) p from fun X hX=>HP.out.ac2 hX)
 have iL:=zh (show ∀X,aa w0 X->aU X (.slice A n.ends.length c) (.slice A2 n.ids.length c2) (.slice A3 n.ac1.length c3) n from fun X hX=>H.out.ac2 hX.below)
 have HL:=zh (show ∀X,aa w0 X->a_ X vl l from fun X hX=>(hl.ac2 bQ.out).ac2 hX.below)
 obtain⟨AL,cL,rfl,Qn,yi,-⟩:=hl;unfold maxLen at yi;clear pi
 go_enter Tryz.func8,Tryz.ntmps8
 go_upto_region 1 with(fail);rw[<- cS.out];refine bD 10 (aa w0) (ad _) ?_;simp only[zT]
 iterate 3 (refine bF rfl ?_;simp only[zA])
 refine cH ?_ rfl ?_ ?_;rotate_left;(intro W hW;unfold ba;go_simp;(with_reducible refine(yo _ _ _ _ _ _ p n l W (f5.out W hW) (iL.out W hW) (HL.out W hW)).mono ?_);rintro e W' ⟨rfl,aG⟩;first | (refine⟨?_,aa.trans hW aG⟩;with_reducible rfl) | (subst aG;refine⟨?_,hW⟩;with_reducible rfl))
 simp only[zA]
 iterate 2 (refine bF rfl ?_;simp only[zA])
 refine gT rfl rfl ?_;simp only[zA]
 refine bv (v:=?_) rfl rfl ?_ ?_;rotate_left;(intro hb;intro W hW;unfold ba;go_simp;(with_reducible refine(wI _ W).mono ?_);rintro e W' ⟨rfl,aG⟩;first | (refine⟨?_,aa.trans hW aG⟩;with_reducible rfl) | (subst aG;refine⟨?_,hW⟩;with_reducible rfl))
 simp only[zA]
 refine gT rfl rfl ?_;simp only[zA]
 (first | refine cd rfl rfl ?_ | (refine bF rfl ?_));simp only[zA]
 intro W hW
 cases hg:(!KG p n l || !fT 0 200000 most)
 ·have dJ:oz p n l most=true:=by unfold oz;unfold KG at hg;revert hg;cases dF p <;> cases aW n <;> cases eo p n l <;> cases fT 0 200000 most <;> simp
  simp only[KG,Bool.or_eq_false_iff,Bool.not_eq_false',Bool.and_eq_true]at hg;obtain⟨⟨⟨lC,hn⟩,Ef⟩,hm⟩:=hg;obtain⟨eJ,dH⟩:=mq Ef;obtain⟨fv,ct⟩:=dE lC;obtain⟨lR,jU⟩:=gD hn;obtain⟨lS,wH⟩:=mr hn eJ;have No:=zh (aL.1 hm);have Ey:=zh wH;have sw:=zh jU;have jP:=zh ct;have mo:=zh (kE lS wH);have nr:=zh (mn eJ);have fU:=zh eJ;have kp:=zh dH;obtain⟨PT,rO⟩:∃PT,fB l=PT:=⟨_,rfl⟩
  obtain⟨r,hr⟩:∃r,uh p n.ends PT most true l 0 0=r:=⟨_,rfl⟩
  have hR:Nq p n l most=((),r):=by
   unfold Nq;rw[rO,WN]
   have:=(wG Ah p n.ends PT most true () l 0 0 (by omega) (by omega) (by have:=No.out;omega) r hr).1
   rw[this]
   split
   ·rw[if_neg (by simp[Ah])]
    try rfl
   ·rfl
  have uk:=zh (KH dJ hR);have HQ:=zh hr;rw[rO]at mo nr;have KC:=zh rO;have IA:=zh hn;have qG:=zh fv;have Bt:=zh iI;have gn:=zh hW;clear rO hR hr hm lC ct wH jU dJ hW Ef eJ dH hn fv;have hs:=gn.out;go_wp2_with fail;clear hs;refine(ot _ _ _ _ _ _ p n l most _ (f5.out _ gn.out) (iL.out _ gn.out) (HL.out _ gn.out) lS Ey.out).mono ?_;rintro e W1 ⟨sb,ul,uf,SL,rfl,hS,nQ,aX⟩;rw[KC.out]at hS;have hB:w0.heap.size<=W.heap.size:=(aa.below gn.out).size;have KI:w0.heap.size<=sb:=by omega
  have lE:=zh (aa.trans gn.out aX)
  have qH:=zh (zj p n _ _ _ _ _ ul uf sb SL w0.heap.size PT most 0 0 true l W1 KI
   (fun X hX=>f5.out X (Below.trans lE.out hX)) (fun X hX=>iL.out X (Below.trans lE.out hX))
   (hS.mono hB) IA.out jP.out Bt.out qG.out fU.out kp.out nr.out mo.out No.out ⟨by omega,by omega⟩ ⟨by omega,No.out.1⟩ sw.out)
  rw[HQ.out]at qH;clear hS nQ aX hB KI;go_wp2_with fail;refine qH.out.mono ?_;rintro e W2 ⟨rfl,uW,pW,bJ⟩;have qk:=zh (Below.trans lE.out bJ);have qB:=zh uW;have Hz:=zh (mr IA.out pW.1);obtain⟨AU,mU,cU,rfl⟩:=aI.one uW.2.1;obtain⟨d0,d1,d2,d3,d4,d5,d6,d7,d8,d9,tG,CC,Af⟩:=cn uW.1
  replace d7:=ab d7
  replace tG:=ab tG
  have Sm:w.heap.size<=w0.heap.size:=bQ.out.size;clear d0 d1 d2 d3 d4 d5 d6 d8 d9 CC Af uW bJ pW
  by_cases h1:r.1=1
  ·have fH:(r.1 != 1)=false:=by simpa using h1
   have jm:=uk.out.1;rw[if_pos h1]at jm;have tH:=zh jm;clear h1 jm;go_upto_region 7 with(fail);refine am 12 (aa W2) (by kernel_rfl) (by kernel_rfl) (by simp) (ag (ad _)) ?_;simp only[zT]
   iterate 12 (refine bF rfl ?_;simp only[zA])
   intro W3 ki;have sV:=zh ki;clear ki d7 tG;go_wp2
   go_ret3
   rw[tH.out,uk.out.2.1,uk.out.2.2]
   exact⟨_,_,rfl,aI.mono (aI.ac2 qB.out.2.1 sV.out.below) Sm,by have:=zl Hz.out.2;have:=Hz.out.1;show ya r.2.1<=_;omega,aa.after bQ.out (aa.after qk.out sV.out)⟩
  ·have fH:(r.1 != 1)=true:=by simpa using h1
   have jm:=uk.out.1;rw[if_neg h1]at jm;have tH:=zh jm;clear h1 jm;go_upto_region 6 with(fail);refine am 8 (aa W2) (by kernel_rfl) (by kernel_rfl) (by simp) (ag (ad _)) ?_;simp only[zT]
   iterate 8 (refine bF rfl ?_;simp only[zA])
   intro W3 ki;have sV:=zh ki;clear ki d7 tG;go_wp2
   go_ret3
   rw[tH.out,uk.out.2.1,uk.out.2.2];exact⟨_,_,rfl,jz _ _,by simp[ya],aa.after bQ.out (aa.after qk.out sV.out)⟩
 ·have hk:oz p n l most=false:=by unfold oz;unfold KG at hg;revert hg;cases dF p <;> cases aW n <;> cases eo p n l <;> cases fT 0 200000 most <;> simp
  obtain⟨h0,h1,h2⟩:=Qs hk;have HW:=zh hW;have H0:=zh h0;have H1:=zh h1;have H2:=zh h2;clear hW h0 h1 h2;go_wp2
  go_ret3
  rw[H0.out,H1.out,H2.out];exact⟨_,_,rfl,jz _ _,by simp[ya],aa.after bQ.out HW.out⟩
theorem nH (pa pb ve vi vn vl:Value) (p:az) (n:aw) (l:List (List Int)) (most:Int) (w:World) (hp:di w pa pb p) (h:aU w ve vi vn n) (hl:a_ w vl l) (hm : -9223372036854775808<=most/\most<=9223372036854775807) (pi:ks p<=1048576) (eR:gO n<=1048576) (_:oc l<=1048576):
  Calls Tryz.prog 7 #[.agg #[.int .i64 p.labels,.int .i64 p.degree,pa,pb],.agg #[ve,vi,vn],vl,.int .i64 most] w fun e w'=>∃u S,e=.returned (.tuple #[u,.int .i64 (aV p n l most),.int .i64 (bn p n l most)])/\bz w' w.heap.size u (aP p n l most) S/\Below w.heap.size w w':=ED pa pb ve vi vn vl p n l most w hp h hl hm pi eR
theorem nI (pa pb ve vi vn vl:Value) (p:az) (n:aw) (l:List (List Int)) (most:Int) (w:World) (hp:di w pa pb p) (h:aU w ve vi vn n) (hl:a_ w vl l) (hm : -9223372036854775808<=most/\most<=9223372036854775807) (pi:ks p<=1048576) (_:gO n<=1048576) (_:oc l<=1048576):
  Calls Tryz.prog 8 #[.agg #[.int .i64 p.labels,.int .i64 p.degree,pa,pb],.agg #[ve,vi,vn],vl,.int .i64 most] w fun e w'=>∃u S,e=.returned (.tuple #[u,.int .i64 (aV p n l most),.int .i64 (bn p n l most)])/\bz w' w.heap.size u (aP p n l most) S/\ya (aP p n l most)<=1000000000/\Below w.heap.size w w':=wM pa pb ve vi vn vl p n l most w hp h hl hm pi
end Go.Proofs.YtnioemnkfojmkaaGreat
