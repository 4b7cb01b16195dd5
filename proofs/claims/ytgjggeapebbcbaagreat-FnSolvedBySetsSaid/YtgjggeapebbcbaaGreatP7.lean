/- Parts of the proof: walks of functions and plain laws. -/
import Derived.Test.YtgjggeapebbcbaaGreatP0
import Derived.Test.YtgjggeapebbcbaaGreatP1
import Derived.Test.YtgjggeapebbcbaaGreatP6
import Derived.Test.YtgjggeapebbcbaaGreatP2
import Derived.Test.YtgjggeapebbcbaaGreatP3
import Derived.Test.YtgjggeapebbcbaaGreatP5
import Derived.Test.YtgjggeapebbcbaaGreatP4
set_option maxRecDepth 100000
set_option maxHeartbeats 16000000
namespace Go.Proofs.YtgjggeapebbcbaaGreat
open Go Go.RowKit
def eX (n:am) (l:List (List Int)) (k:Nat):Bool:=(List.range k).all fun v=>decide ((l.getD v []).length=(n.ends.getD v []).length)
theorem tf (n:am) (l:List (List Int)) (k:Nat):eX n l (k+1)=(eX n l k&&decide ((l.getD k []).length=(n.ends.getD k []).length)):=by
 unfold eX;rw[List.range_succ,List.all_append];simp
theorem rH {n:am} {l:List (List Int)} {k m:Nat} (hk:k<m) (h:(l.getD k []).length≠(n.ends.getD k []).length):eX n l m=false:=by
 unfold eX;rw[List.all_eq_false];exact⟨k,List.mem_range.2 hk,by simpa using h⟩
def gc (n:am) (l:List (List Int)):Bool:=decide (l.length=n.ends.length)&&eX n l l.length
def xI (p:aN) (l:List (List Int)):Bool:=!(l.any fun c => !jb c (-1) (p.labels-1))
def eT (p:aN) (n:am) (l:List (List Int)):Bool:=gc n l&&xI p l
def tg (p:aN) (l:List (List Int)) (k:Nat):Bool:=(List.range k).all fun v=>jb (l.getD v []) (-1) (p.labels-1)
theorem DO (p:aN) (l:List (List Int)):xI p l=tg p l l.length:=by
 unfold xI tg
 rw[List.not_any_eq_all_not,Bool.eq_iff_iff];simp only[List.all_eq_true,List.mem_range,Bool.not_not];constructor
 ·intro h v hv;obtain⟨x,hx⟩:=ax l v hv;rw[ag hx];exact h x (List.mem_of_getElem? hx)
 ·intro h x hx;obtain⟨k,hk⟩:=List.getElem?_of_mem hx
  have:=h k (ai hk)
  rwa [ag hk]at this
theorem xJ (p:aN) (n:am) (l:List (List Int)):eT p n l=(decide (l.length=n.ends.length)&&(eX n l l.length&&tg p l l.length)):=by
 unfold eT gc
 rw[DO,Bool.and_assoc]
theorem AT {p:aN} (h:eA p=true):(1<=p.labels/\p.labels<=8)/\True:=by
 unfold eA at h;simp only[Bool.and_eq_true,aC]at h;exact⟨h.1,trivial⟩
theorem nh (ve vi vn vl:Value) (n:am) (l:List (List Int)) (w:World) (h:aI w ve vi vn n) (hl:bw w vl l):
  Calls Tryz.prog 88 #[.agg #[ve,vi,vn],vl] w fun e w'=>e=.returned (.bool (gc n l))/\Below w.heap.size w w':=by
 obtain⟨w0,A,c,A2,c2,A3,c3,rfl,rfl,rfl,er,hm,et,fG,HA,bM,aY,H,e8,fh,fi⟩:=zB h;clear h
 have HL:=zh (hl.aab aY.out);obtain⟨AL,cL,rfl,Pk,Fr,-⟩:=hl;unfold maxLen at Fr
 go_enter Tryz.func88,Tryz.ntmps88
 go_upto_region 1 with(fail);rw[<- bM.out];have hs:aa w0 w0:=ab _
 by_cases dO:l.length=n.ends.length
 ·have aJ:((l.length:Int) != (n.ends.length:Int))=false:=by simp[dO]
  have zx:l.length<=n.ends.length:=by omega
  have HR:Hid (gc n l=eX n l l.length):=by show _=_;unfold gc;rw[decide_eq_true dO];rfl
  clear dO;go_wp2
  go_loopw [15] (fun i wr=>∃k:Nat,k<=l.length/\i=.int .i64 k/\eX n l k=true/\aa w0 wr) (fun i _=>l.length-(intOf i).toNat)
  case atStart=>exact⟨0,Nat.zero_le _,rfl,rfl,hs⟩
  case round=>
   obtain⟨k,hk,rfl,bF,hb⟩:=hrel;have fF:=zh bF;have Hb:=zh hb;clear bF hs aJ
   by_cases aH:k<l.length
   ·obtain⟨row,b,off,A1,z1,hx,rfl,bS,cj,cX,kj⟩:=eJ HL.out aH;obtain⟨es,ba⟩:=ax n.ends k (by omega);obtain⟨b',ru,c',u,hA,Wu,ke,bT⟩:=fo H.out.es ba;cases hA;obtain⟨WT,z3,rfl,o_,hz4,-⟩:=bT;have q1:=bc Hb.out.below bS;have q2:=bc Hb.out.below ke;have NE:Hid ((l.getD k []).length=row.length/\(n.ends.getD k []).length=es.length):=⟨by rw[ag hx],by rw[ag ba]⟩
    clear bS ke hx ba kj
    by_cases sd:row.length=es.length
    ·have jI:((row.length:Int) != (es.length:Int))=false:=by simp[sd]
     have Hn:Hid (eX n l (k+1)=true):=by show _=_;rw[tf,fF.out,NE.out.1,NE.out.2,decide_eq_true sd];rfl
     clear sd;go_wp2;go_roundw
     case rel=>exact⟨k+1,by omega,by go_num,Hn.out,Hb.out⟩
     case measure=>simp[intOf];omega
    ·have jI:((row.length:Int) != (es.length:Int))=true:=by simp;omega
     have Hn:Hid (eX n l l.length=false):=rH aH (by rw[NE.out.1,NE.out.2];exact sd)
     clear sd;go_wp2;go_ret;exact⟨az (HR.out.trans Hn.out),aa.after aY.out Hb.out⟩
   ·obtain rfl:k=l.length:=by omega
    clear hb;go_wp2;go_ret;exact⟨cB (HR.out.trans fF.out),aa.after aY.out Hb.out⟩
 ·have aJ:((l.length:Int) != (n.ends.length:Int))=true:=by simp;omega
  have HR:Hid (gc n l=false):=by show _=_;unfold gc;rw[decide_eq_false dO];rfl
  clear dO;go_wp2;go_ret;exact⟨az HR.out,aY.out⟩
theorem vA:∀args w,(callFunc 103 args).run Tryz.prog w=.ok (.enter 103 args) w:=enters_of Tryz.func103 (by kernel_rfl) rfl
theorem DP (u:Value) (row:List Int) (bp:Nat) (x:Int) (w:World) (h:aG w u row) (hx:IntKind.i64.wrap (x-1)=x-1) (hc:w.cell? ⟨bp,0,none⟩=some (.int .i64 x)):
  Calls Tryz.prog 103 #[u,.pointer (some ⟨bp,0,none⟩)] w fun e w'=>e=.returned (.bool (!jb row (-1) (x-1)))/\Below w.heap.size w w':=by
 have H:=zh h;obtain⟨A,c,rfl,-,-,-⟩:=h
 go_enter Tryz.func103,Tryz.ntmps103
 go_wp2_with fail;refine(e_ _ row _ _ _ H.out).mono ?_;rintro e w1 ⟨rfl,hb⟩;go_wp2;go_ret;exact⟨rfl,hb⟩
theorem kP (pa pb ve vi vn vl:Value) (p:aN) (n:am) (l:List (List Int)) (w:World) (hp:el w pa pb p) (h:aI w ve vi vn n) (hl:bw w vl l) (jC:1<=p.labels/\p.labels<=8):
  Calls Tryz.prog 51 #[.agg #[.int .i64 p.labels,.int .i64 p.degree,pa,pb],.agg #[ve,vi,vn],vl] w fun e w'=>e=.returned (.bool (eT p n l))/\Below w.heap.size w w':=by
 obtain⟨w0,au⟩:∃w0,w0=((w).alloc (.cells #[.int .i64 p.labels,.int .i64 p.degree,pa,pb] 40)).alloc (.cells #[ve,vi,vn] 27):=⟨_,rfl⟩
 have bO:Below w.heap.size w w0:=by rw[au];exact(((Below.refl _ _).alloc (by simp <;> omega) _).alloc (by simp <;> omega) _)
 have H:=zh (h.aab bO);obtain⟨h1,h2,h3⟩:=h.aab bO;obtain⟨A,c,rfl,er,hm,hA⟩:=h1;obtain⟨A2,c2,rfl,_,et,_⟩:=h2;obtain⟨A3,c3,rfl,_,fG,_⟩:=h3;unfold maxLen at hm et fG;have dV:=hp.aab bO;have HP:=zh dV;obtain⟨P0,gL,rfl,lJ,fw,cH⟩:=id dV.1;unfold maxLen at fw;have lK:=zh cH;clear cH;obtain⟨P1,g8,rfl,lL,fx,cJ⟩:=id dV.2;unfold maxLen at fx;have lM:=zh cJ;clear cJ;clear dV hp
 have e8:∀W,aa w0 W->W.cell? ⟨w.heap.size,0,none⟩=some (.int .i64 p.labels):=ad (by rw[au];simp)
 have fh:∀W,aa w0 W->W.cell? ⟨w.heap.size,1,none⟩=some (.int .i64 p.degree):=ad (by rw[au];simp)
 have fi:∀W,aa w0 W->W.cell? ⟨w.heap.size,2,none⟩=some (.slice P0 p.nodes.length gL):=ad (by rw[au];simp)
 have pT:∀W,aa w0 W->W.cell? ⟨w.heap.size,3,none⟩=some (.slice P1 p.aad.length g8):=ad (by rw[au];simp)
 have vj:∀W,aa w0 W->W.cell? ⟨w.heap.size+1,0,none⟩=some (.slice A n.ends.length c):=ad (by rw[au];simp)
 have C7:∀W,aa w0 W->W.cell? ⟨w.heap.size+1,1,none⟩=some (.slice A2 n.ids.length c2):=ad (by rw[au];simp)
 have C8:∀W,aa w0 W->W.cell? ⟨w.heap.size+1,2,none⟩=some (.slice A3 n.aaa.length c3):=ad (by rw[au];simp)
 have aY:=zh bO;have bM:=zh au;have HA:=zh hA;clear hA h;clear bO au;have HL:=zh (show ∀X,aa w0 X->bw X vl l from fun X hX=>(hl.aab aY.out).aab hX.below)
 have qi:=zh (show ∀X,aa w0 X->aI X (.slice A n.ends.length c) (.slice A2 n.ids.length c2) (.slice A3 n.aaa.length c3) n from fun X hX=>H.out.aab hX.below)
 obtain⟨AL,cL,rfl,-,-,-⟩:=hl;have PK:IntKind.i64.wrap (p.labels-1)=p.labels-1:=aR _ (by omega) (by omega);have WU:=zh PK;have Db:=zh e8
 go_enter Tryz.func51,Tryz.ntmps51
 go_upto_region 1 with(fail);rw[<- bM.out];clear PK;have hs:aa w0 w0:=ab _;go_wp2_with fail;refine(nh _ _ _ _ n l _ (qi.out _ hs) (HL.out _ hs)).mono ?_;rintro e W ⟨rfl,hb⟩;have hW:aa w0 W:=hs.trans hb;have HW:=zh hW;clear hb hs hW e8 fh fi pT vj C7 C8;cases dy:gc n l
 ·have Hr:Hid (eT p n l=false):=by show _=_;unfold eT;rw[dy];rfl
  clear dy;go_wp2;go_ret;exact⟨az Hr.out,aa.after aY.out HW.out⟩
 ·have Hr:Hid (eT p n l=xI p l):=by show _=_;unfold eT;rw[dy];rfl
  clear dy;go_wp2_with fail;refine(fy _ l 103 #[.pointer (some ⟨w.heap.size,0,none⟩)] (fun c => !jb c (-1) (p.labels-1)) _ (HL.out _ HW.out) vA (fun c hc u X hX hu=>DP u c _ _ X hu WU.out (Db.out X (HW.out.after hX)))).mono ?_
  rintro e W2 ⟨rfl,hb⟩;have sK:=zh (HW.out.trans hb);clear hb;go_wp2;go_ret
  exact⟨b7 (by rw[Hr.out];rfl),aa.after aY.out sK.out⟩
theorem PM {a b:Bool} (h:(!a||b)=false):a=true:=by cases a <;> simp at h ⊢
theorem pd {p:aN} {n:am} {l:List (List Int)} (h:eT p n l=true):ju n.ends l/\DL (p.labels-1) l:=by
 rw[xJ,Bool.and_eq_true,Bool.and_eq_true,decide_eq_true_iff]at h;obtain⟨h1,h2,h3⟩:=h;unfold eX at h2;unfold tg at h3;rw[List.all_eq_true]at h2 h3;refine⟨⟨h1,fun v es row he hr=>?_⟩,fun v row i x hr hx=>?_⟩
 ·have:=h2 v (List.mem_range.2 (ai hr))
  rw[ag hr,ag he]at this;simpa using this
 ·have:=h3 v (List.mem_range.2 (ai hr))
  rw[ag hr]at this;unfold jb at this;rw[List.all_eq_true]at this
  have:=aC.1 (this x (List.mem_of_getElem? hx))
  exact this
theorem AW {n:am} {l:List (List Int)} (hn:aw n=true) (hs:ju n.ends l):l.length<=40/\∀(v:Nat) (row:List Int),l[v]?=some row->row.length<=6:=by
 obtain⟨h1,h2⟩:=o8 hn
 refine⟨by rw[hs.1];exact h1,fun v row hv=>?_⟩
 obtain⟨es,ba⟩:=ax n.ends v (by rw[<- hs.1];exact ai hv)
 rw[hs.2 v es row ba hv];exact h2 v es ba
def vB (_:Unit) (_:List (List Int)):Bool×Unit:=(false,())
def jS (p:aN) (n:am) (l:List (List Int)) (most:Int):Bool:=eA p&&aw n&&eT p n l&&dW 0 200000 most
def Fy (p:aN) (n:am) (l:List (List Int)) (most:Int):Unit×JY:=AJ vB p n.ends (fZ l) most () l
def aD (p:aN) (n:am) (l:List (List Int)) (most:Int):List (List Int):=if jS p n l most=true then (if (Fy p n l most).2.1=1 then (Fy p n l most).2.2.1 else []) else []
def av (p:aN) (n:am) (l:List (List Int)) (most:Int):Int:=if jS p n l most=true then (Fy p n l most).2.1 else 0
def bn (p:aN) (n:am) (l:List (List Int)) (most:Int):Int:=if jS p n l most=true then (Fy p n l most).2.2.2.2 else 0
theorem GR {p:aN} {n:am} {l:List (List Int)} {most:Int} {R:Unit×JY} (dR:jS p n l most=true) (hR:Fy p n l most=R):aD p n l most=(if R.2.1=1 then R.2.2.1 else [])/\av p n l most=R.2.1/\bn p n l most=R.2.2.2.2:=by
 unfold aD av bn
 rw[hR];simp[dR]
theorem Fz {p:aN} {n:am} {l:List (List Int)} {most:Int} (dR:jS p n l most=false):aD p n l most=[]/\av p n l most=0/\bn p n l most=0:=by
 unfold aD av bn
 simp[dR]
theorem iP (w:World) (B:Nat):dU w B (.slice none 0 0) [] []:=⟨[],[],World.ownsRow_nil _ _ _ _,by simp,by simp,by simp[Value.ownBlock],by simp⟩
theorem vC:∀args w,(callFunc 55 args).run Tryz.prog w=.ok (.enter 55 args) w:=enters_of Tryz.func55 (by kernel_rfl) rfl
theorem DQ (w:World):Calls Tryz.prog 55 #[] w fun e w'=>e=.returned (.bool false)/\w'=w:=by
 go_enter Tryz.func55,Tryz.ntmps55
 go_wp2;go_ret;exact⟨rfl,rfl⟩
theorem vD (pa pb ve vi vn vl:Value) (p:aN) (n:am) (l:List (List Int)) (most:Int) (w:World) (hp:el w pa pb p) (h:aI w ve vi vn n) (hl:bw w vl l) (_ : -9223372036854775808<=most/\most<=9223372036854775807) (zp:rA p<=1048576) (dM:ij n<=1048576):
  Calls Tryz.prog 19 #[.agg #[.int .i64 p.labels,.int .i64 p.degree,pa,pb],.agg #[ve,vi,vn],vl,.int .i64 most] w fun e w'=>∃u S,e=.returned (.tuple #[u,.int .i64 (av p n l most),.int .i64 (bn p n l most)])/\dU w' w.heap.size u (aD p n l most) S/\Below w.heap.size w w':=by
 have rF:p.aad.length<=1048576:=by unfold rA Af at zp;omega
 have FA:=zh (iG dM);obtain⟨w0,au⟩:∃w0,w0=((w).alloc (.cells #[.int .i64 p.labels,.int .i64 p.degree,pa,pb] 40)).alloc (.cells #[ve,vi,vn] 27):=⟨_,rfl⟩
 have bO:Below w.heap.size w w0:=by rw[au];exact(((Below.refl _ _).alloc (by simp <;> omega) _).alloc (by simp <;> omega) _)
 have H:=zh (h.aab bO);obtain⟨h1,h2,h3⟩:=h.aab bO;obtain⟨A,c,rfl,er,hm,hA⟩:=h1;obtain⟨A2,c2,rfl,_,et,_⟩:=h2;obtain⟨A3,c3,rfl,_,fG,_⟩:=h3;unfold maxLen at hm et fG;have dV:=hp.aab bO;have HP:=zh dV;obtain⟨P0,gL,rfl,lJ,fw,cH⟩:=id dV.1;unfold maxLen at fw;have lK:=zh cH;clear cH;obtain⟨P1,g8,rfl,lL,fx,cJ⟩:=id dV.2;unfold maxLen at fx;have lM:=zh cJ;clear cJ;clear dV hp
 have e8:∀W,aa w0 W->W.cell? ⟨w.heap.size,0,none⟩=some (.int .i64 p.labels):=ad (by rw[au];simp)
 have fh:∀W,aa w0 W->W.cell? ⟨w.heap.size,1,none⟩=some (.int .i64 p.degree):=ad (by rw[au];simp)
 have fi:∀W,aa w0 W->W.cell? ⟨w.heap.size,2,none⟩=some (.slice P0 p.nodes.length gL):=ad (by rw[au];simp)
 have pT:∀W,aa w0 W->W.cell? ⟨w.heap.size,3,none⟩=some (.slice P1 p.aad.length g8):=ad (by rw[au];simp)
 have vj:∀W,aa w0 W->W.cell? ⟨w.heap.size+1,0,none⟩=some (.slice A n.ends.length c):=ad (by rw[au];simp)
 have C7:∀W,aa w0 W->W.cell? ⟨w.heap.size+1,1,none⟩=some (.slice A2 n.ids.length c2):=ad (by rw[au];simp)
 have C8:∀W,aa w0 W->W.cell? ⟨w.heap.size+1,2,none⟩=some (.slice A3 n.aaa.length c3):=ad (by rw[au];simp)
 have aY:=zh bO;have bM:=zh au;have HA:=zh hA;clear hA h;clear bO au;have ma:=zh (show ∀X,aa w0 X->el X (.slice P0 p.nodes.length gL) (.slice P1 p.aad.length g8) p from fun X hX=>HP.out.aab hX)
 have qi:=zh (show ∀X,aa w0 X->aI X (.slice A n.ends.length c) (.slice A2 n.ids.length c2) (.slice A3 n.aaa.length c3) n from fun X hX=>H.out.aab hX.below)
 have HL:=zh (show ∀X,aa w0 X->bw X vl l from fun X hX=>(hl.aab aY.out).aab hX.below)
 obtain⟨AL,cL,rfl,-,-,-⟩:=hl;clear dM zp
 go_enter Tryz.func19,Tryz.ntmps19
 go_upto_region 1 with(fail);rw[<- bM.out];refine bI 20 (aa w0) (ab _) ?_;simp only[zT]
 refine cY rfl ?_;simp only[zA]
 refine ej ?_ rfl ?_ ?_;rotate_left;(intro W hW;unfold bN;go_simp;(with_reducible refine(iw _ _ p W (ma.out W hW)).mono ?_);rintro e W' ⟨rfl,aZ⟩;first | (refine⟨?_,aa.trans hW aZ⟩;with_reducible rfl) | (subst aZ;refine⟨?_,hW⟩;with_reducible rfl))
 simp only[zA]
 iterate 2 (refine cY rfl ?_;simp only[zA])
 refine kA rfl rfl ?_;simp only[zA]
 refine ck (v:=?_) rfl rfl ?_ ?_;rotate_left;(intro hb;intro W hW;unfold bN;go_simp;(with_reducible refine(dK _ _ _ n W (qi.out W hW) FA.out).mono ?_);rintro e W' ⟨rfl,aZ⟩;first | (refine⟨?_,aa.trans hW aZ⟩;with_reducible rfl) | (subst aZ;refine⟨?_,hW⟩;with_reducible rfl))
 simp only[zA]
 refine kA rfl rfl ?_;simp only[zA]
 (first | refine dh rfl rfl ?_ | (refine cY rfl ?_));simp only[zA]
 refine cY rfl ?_;simp only[zA]
 iterate 3 (refine kA rfl rfl ?_;simp only[zA])
 refine ck (v:=?_) rfl rfl ?_ ?_;rotate_left;(intro hb;intro W hW;unfold bN;go_simp;(with_reducible refine(kP _ _ _ _ _ _ p n l W (ma.out W hW) (qi.out W hW) (HL.out W hW) (AT (PM hb)).1).mono ?_);rintro e W' ⟨rfl,aZ⟩;first | (refine⟨?_,aa.trans hW aZ⟩;with_reducible rfl) | (subst aZ;refine⟨?_,hW⟩;with_reducible rfl))
 simp only[zA]
 refine kA rfl rfl ?_;simp only[zA]
 (first | refine dh rfl rfl ?_ | (refine cY rfl ?_));simp only[zA]
 refine cY rfl ?_;simp only[zA]
 refine kA rfl rfl ?_;simp only[zA]
 refine ck (v:=?_) rfl rfl ?_ ?_;rotate_left;(intro hb;intro W hW;unfold bN;go_simp;(with_reducible refine(oT _ _ _ W).mono ?_);rintro e W' ⟨rfl,aZ⟩;first | (refine⟨?_,aa.trans hW aZ⟩;with_reducible rfl) | (subst aZ;refine⟨?_,hW⟩;with_reducible rfl))
 simp only[zA]
 refine kA rfl rfl ?_;simp only[zA]
 (first | refine dh rfl rfl ?_ | (refine cY rfl ?_));simp only[zA]
 intro W hW
 cases hg:(!eA p || !aw n || !eT p n l || !dW 0 200000 most)
 ·have dR:jS p n l most=true:=by unfold jS;revert hg;cases eA p <;> cases aw n <;> cases eT p n l <;> cases dW 0 200000 most <;> simp
  simp only[Bool.or_eq_false_iff,Bool.not_eq_false']at hg;obtain⟨⟨⟨AK,hn⟩,Dc⟩,hm⟩:=hg;obtain⟨gb,dY⟩:=pd Dc;obtain⟨jC,fY⟩:=jj AK;obtain⟨yM,mz⟩:=o8 hn;obtain⟨KG,NF⟩:=AW hn gb;have WV:=zh (aC.1 hm);have WW:=zh NF;have uC:=zh mz;have yH:=zh fY;have DR:=zh (yL KG NF);have Nt:=zh (AC gb);have rG:=zh gb;have vw:=zh dY;obtain⟨PT,NG⟩:∃PT,fZ l=PT:=⟨_,rfl⟩
  obtain⟨R,hR⟩:∃R,Fy p n l most=R:=⟨_,rfl⟩
  have HR:Hid (AJ vB p n.ends PT most () l=R):=by show _=_;rw[<- hR,<- NG];rfl
  have Ji:=zh (GR dR hR);rw[NG]at DR Nt;have WX:=zh NG;have PN:=zh hn;have yN:=zh jC;have KH:=zh rF;have g7:=zh hW;clear NG hR hm AK fY NF mz dR hW Dc gb dY hn jC;have hs:=g7.out;go_wp2_with fail;clear hs;refine(qg _ _ _ _ _ _ p n l _ (ma.out _ g7.out) (qi.out _ g7.out) (HL.out _ g7.out) KG WW.out).mono ?_;rintro e W1 ⟨sb,ul,uf,SL,rfl,hS,yq,aJ⟩;rw[WX.out]at hS;have hB:w0.heap.size<=W.heap.size:=(aa.below g7.out).size;have KI:w0.heap.size<=sb:=by omega
  have kQ:=zh (aa.trans g7.out aJ)
  have KJ:=zh (DM vB (fun _ _=>True) 55 #[] p n _ _ _ _ _ ul uf sb SL w0.heap.size PT most () l W1 vC KI
   (fun X hX=>ma.out X (Below.trans kQ.out hX)) (fun X hX=>qi.out X (Below.trans kQ.out hX)) (fun _ _ _ _ _=>trivial)
   (fun s l st X _ th _=>(DQ X).mono fun e X' ⟨he,WY⟩=>by rw[WY];exact⟨he,trivial,th,Below.refl _ _⟩)
   (hS.mono hB) trivial PN.out yH.out KH.out yN.out rG.out vw.out Nt.out DR.out WV.out uC.out)
  rw[HR.out]at KJ;clear hS yq aJ hB KI;go_wp2_with fail;refine KJ.out.mono ?_;rintro e W2 ⟨rfl,vE,-,hb2⟩;have vF:=zh (Below.trans kQ.out hb2);have NH:=zh vE;obtain⟨AU,mU,cU,rfl⟩:=bA.one vE.2.1;obtain⟨d0,d1,d2,d3,d4,d5,d6,d7,d8,d9⟩:=dZ vE.1
  replace d7:=ad d7
  replace d9:=ad d9
  have FB:w.heap.size<=w0.heap.size:=aY.out.size;clear d0 d1 d2 d3 d4 d5 d6 d8 vE hb2
  by_cases h1:R.2.1=1
  ·have jI:(R.2.1 != 1)=false:=by simpa using h1
   have GS:=Ji.out.1;rw[if_pos h1]at GS;have PO:=zh GS;clear h1 GS;go_upto_region 7 with(fail);refine aq 12 (aa W2) (by kernel_rfl) (by kernel_rfl) (by simp) (ah (ab _)) ?_;simp only[zT]
   iterate 12 (refine cY rfl ?_;simp only[zA])
   intro W3 vk;have C9:=zh vk;clear vk d7 d9;go_wp2
   go_ret3
   rw[PO.out,Ji.out.2.1,Ji.out.2.2];exact⟨_,_,rfl,bA.mono (bA.aab NH.out.2.1 C9.out.below) FB,aa.after aY.out (aa.after vF.out C9.out)⟩
  ·have jI:(R.2.1 != 1)=true:=by simpa using h1
   have GS:=Ji.out.1;rw[if_neg h1]at GS;have PO:=zh GS;clear h1 GS;go_upto_region 6 with(fail);refine aq 8 (aa W2) (by kernel_rfl) (by kernel_rfl) (by simp) (ah (ab _)) ?_;simp only[zT]
   iterate 8 (refine cY rfl ?_;simp only[zA])
   intro W3 vk;have C9:=zh vk;clear vk d7 d9;go_wp2
   go_ret3
   rw[PO.out,Ji.out.2.1,Ji.out.2.2];exact⟨_,_,rfl,iP _ _,aa.after aY.out (aa.after vF.out C9.out)⟩
 ·have hk:jS p n l most=false:=by unfold jS;revert hg;cases eA p <;> cases aw n <;> cases eT p n l <;> cases dW 0 200000 most <;> simp
  obtain⟨h0,h1,h2⟩:=Fz hk;have HW:=zh hW;have H0:=zh h0;have H1:=zh h1;have H2:=zh h2;clear hW h0 h1 h2;go_wp2
  go_ret3
  rw[H0.out,H1.out,H2.out];exact⟨_,_,rfl,iP _ _,aa.after aY.out HW.out⟩
end Go.Proofs.YtgjggeapebbcbaaGreat
/-! the program's search, with what holds of the state as long as it goes on -/
namespace Go.Proofs.YtgjggeapebbcbaaGreat
open Go Go.RowKit
theorem ti {P:Program} {ops:Array Oper} {S:World->Prop} {bV:Act->World->Prop} {o:Oper} {rest:List Oper} {A:Act} {W W':World} (hw:Region.wanted o (yielded ops A.tmps)=true) (h:(execOp A.eval o).run P W=.ok .skip W') (hS:S W')
  (hr:aQ P ops S bV rest (A.put o.dst undef) W'):aQ P ops S bV (o::rest) A W:=.inl ⟨hw,by rw[h];exact⟨hS,hr⟩⟩
theorem gD (ve vi vn:Value) (n:am) (w:World) (h:aI w ve vi vn n) (yM:n.ends.length<=1000) (bT:∀(k:Nat) (es:List (Int×Int)),n.ends[k]?=some es->es.length<=1000) (dM:ij n<=1048576):
  Calls Tryz.prog 157 #[.agg #[ve,vi,vn]] w (mm w n):=by
 have qh:n.ids.length<=17592186044416:=by unfold ij at dM;omega
 have vG:n.aaa.length<=17592186044416:=by unfold ij at dM;omega
 have PP:Hid (∀(k:Nat) (es:List (Int×Int)),n.ends[k]?=some es->es.length<=1000):=bT;have Dd:=zh qh;have FA:=zh vG;clear qh vG bT dM
 obtain⟨w0,A,c,A2,c2,A3,c3,rfl,rfl,rfl,er,hm,et,fG,HA,bM,aY,H,e8,fh,fi⟩:=zB h;clear h
 obtain⟨wa,f7⟩:∃wa,wa=w0.alloc (.cells #[.slice none 0 0,.slice none 0 0,.slice none 0 0] 27):=⟨_,rfl⟩
 have gO:aa w0 wa:=by rw[f7];exact ae _ (ab _)
 have yO:Hid (wa.heap.size=w0.heap.size+1):=by show _=_;rw[f7];simp
 have uD:Hid (∀X,aa wa X->aT X w0.heap.size (.slice none 0 0) (.slice none 0 0) (.slice none 0 0)):=fun X hX=>by
  refine aT.since (W:=wa) ?_ hX;rw[f7];show(w0.heap.push _)[w0.heap.size]?=_
  rw[Array.getElem?_push_size]
 have AX:=ak e8 gO;have AY:=ak fh gO;have AZ:=ak fi gO;have PQ:=zh (show ∀X,aa wa X->jt X (.slice A n.ends.length c) n.ends from fun X hX=>(H.out.aab (gO.after hX).below).es)
 have NI:=zh (show ∀X,aa wa X->aG X (.slice A2 n.ids.length c2) n.ids from fun X hX=>by have:=H.out.aab (gO.after hX).below;exact this.2.1)
 have qi:=zh (show ∀X,aa wa X->aG X (.slice A3 n.aaa.length c3) n.aaa from fun X hX=>by have:=H.out.aab (gO.after hX).below;exact this.2.2)
 have tj:=zh f7;have sj:=zh gO;clear f7 gO e8 fh fi
 go_enter Tryz.func157,Tryz.ntmps157
 go_upto_region 1 with(fail);rw[<- bM.out,<- tj.out];refine oQ (w0:=wa) 9 [0,0,1,0,0,1,1,2,3] (fun _ W u=>rD W wa.heap.size u) (fun _ W W' u h hs=>h.aab hs) (by kernel_rfl) (by kernel_rfl) (ab _) ?_
 rw[show nH 2 ([0,0,1,0,0,1,1,2,3]:List Nat)=[7]from by decide]
 simp only[gt,List.take_succ_cons,List.take_zero,List.drop_succ_cons,List.drop_zero,if_true,if_false,reduceCtorEq,Nat.reduceEqDiff,reduceIte,Nat.zero_ne_one,Nat.one_ne_zero]
 iterate 4 (apply ek rfl;(intro W hW;go_simp;with_reducible rfl);simp only[zA])
 refine⟨?_,?_⟩
 ·intro j hj;obtain rfl:=List.mem_singleton.1 hj
  intro o ho;cases ho;refine⟨rfl,fun W hW=>?_⟩
  unfold ov
  go_simp
  all_goals (first | exact rD.new _ hW.below.size | exact⟨rD.new _ hW.below.size,ae _ (ab _)⟩)
 intro W hW;intro W1 h1;have qR:=aa.after hW h1;refine⟨rfl,?_⟩
 go_simp
 (with_reducible refine(qP _ n.ids W1 (NI.out W1 qR) Dd.out).mono ?_)
 rintro e W ⟨u1,rfl,ho,hb⟩;refine⟨_,rfl,hb,?_⟩;have hW:=qR.after (hb)
 have HI:=zh (show ∀X,aa W X->Own X wa.heap.size u1 n.ids from fun X hX=>(ho.since hX).mono qR.below.size);clear ho hb
 (try simp only[zA])
 intro W1 h1;have qR:=aa.after hW h1;refine⟨rfl,?_⟩
 go_simp
 (with_reducible refine(qP _ n.aaa W1 (qi.out W1 qR) FA.out).mono ?_)
 rintro e W ⟨u2,rfl,ho,hb⟩;refine⟨_,rfl,hb,?_⟩;have hW:=qR.after (hb)
 have DS:=zh (show ∀X,aa W X->Own X wa.heap.size u1 n.ids from fun X hX=>HI.out X ((h1.trans hb).after hX));have DT:=zh (show ∀X,aa W X->Own X wa.heap.size u2 n.aaa from fun X hX=>(ho.since hX).mono qR.below.size);have TS:=zh (show ∀j,u1.ownBlock=some j->u2.ownBlock≠some j from fun j hj hk=>by have:=(World.ownsRow.lt (HI.out W1 h1) j hj).2;have:=(World.ownsRow.lt ho j hk).1;omega);clear ho hb HI;obtain⟨BI,dI,rfl,_⟩:=id (DS.out W (ab _)).ints;obtain⟨BN,dN,rfl,_⟩:=id (DT.out W (ab _)).ints
 (try simp only[zA])
 intro W1 h1;have qR:=aa.after hW h1;refine⟨rfl,?_⟩
 go_simp
 have TT:=h1;have hW:=qR
 (try simp only[zA])
 intro us W h1 hU;have hW:=aa.after hW h1;have PR:(fun _ W u=>rD W wa.heap.size u) 7 W (us 7):=by first | exact hU 7 (by simp) | exact hU
 (try simp only[]at PR)
 simp only[kO,zG]
 (try simp only[zA])
 obtain⟨u7,TU⟩:∃x,x=us 7:=⟨_,rfl⟩
 rw[<- TU]at PR ⊢;clear TU;clear hU us
 obtain⟨ob,rfl,xK,dx⟩:=PR;have FC:=zh (DS.out _ (TT.after h1));have sl:=zh (DT.out _ (TT.after h1));have Fo:=zh dx;obtain⟨c0,c1,FD,f0,f1,f2⟩:=dx.box.cells
 refine ti (W':=?_) rfl ?_ ?_ ?_;rotate_left
 (go_simp;with_reducible rfl)
 exact(((hW.setCell xK _).setCell xK _).setCell xK _)
 (try simp only[zA])
 simp only[aQ];have GU:aT (((W.setCell ⟨ob,0,none⟩ (.slice none 0 0)).setCell ⟨ob,1,none⟩ (.slice BI n.ids.length dI)).setCell ⟨ob,2,none⟩ (.slice BN n.aaa.length dN)) ob (.slice none 0 0) (.slice BI n.ids.length dI) (.slice BN n.aaa.length dN):=((Fo.out.aat _).aau _).aav _;obtain⟨w4,lR⟩:∃w4,w4=((W.setCell ⟨ob,0,none⟩ (.slice none 0 0)).setCell ⟨ob,1,none⟩ (.slice BI n.ids.length dI)).setCell ⟨ob,2,none⟩ (.slice BN n.aaa.length dN):=⟨_,rfl⟩
 rw[<- lR]at GU ⊢
 have I6:Hid (aa wa w4):=by show aa _ _;rw[lR];exact(((hW.setCell xK _).setCell xK _).setCell xK _)
 have rI:aL [ob] W w4:=by rw[lR];exact((((aL.refl _ _).setCell (.inl (by simp)) _).setCell (.inl (by simp)) _).setCell (.inl (by simp)) _)
 have GV:=xD FC.out Fo.out;have GW:=xD sl.out Fo.out
 have KK:Hid (ao w4 wa.heap.size (.slice none 0 0) (.slice BI n.ids.length dI) (.slice BN n.aaa.length dN) ⟨[],n.ids,n.aaa⟩ ((Value.slice BI n.ids.length dI).ownBlock.toList++(Value.slice BN n.aaa.length dN).ownBlock.toList)/\ob∉(Value.slice BI n.ids.length dI).ownBlock.toList++(Value.slice BN n.aaa.length dN).ownBlock.toList):=by
  show _/\_
  refine⟨?_,fun hm=>(List.mem_append.1 hm).elim (fun hm=>GV (by simpa using hm)) (fun hm=>GW (by simpa using hm))⟩
  have h1:Own w4 wa.heap.size (.slice BI n.ids.length dI) n.ids:=aB FC.out (fun j hj=>rI.block j (World.ownsRow.lt FC.out j (by simpa using hj)).2 (fun e=>GV (by simp at e;subst e;simpa using hj)))
  have h2:Own w4 wa.heap.size (.slice BN n.aaa.length dN) n.aaa:=aB sl.out (fun j hj=>rI.block j (World.ownsRow.lt sl.out j (by simpa using hj)).2 (fun e=>GW (by simp at e;subst e;simpa using hj)))
  exact yz (S1:=[]) ⟨[],[],World.ownsRow_nil _ _ _ _,rfl,fun k u x T h=>by simp at h,rfl,by simp⟩ h1 h2 (by simp) (by simp) TS.out
 have GH:=zh GU;have A0:=zh xK;clear GU lR rI GV GW DS DT TS FC sl Fo c0 c1 FD f0 f1 f2 hW xK;have Ax:=I6.out;go_wp2
 go_loopw [16] (fun i wr=>∃(k:Nat) (v:Value) (S:List Nat),k<=n.ends.length/\i=.int .i64 k/\ao wr wa.heap.size v (.slice BI n.ids.length dI) (.slice BN n.aaa.length dN) ⟨n.ends.take k,n.ids,n.aaa⟩ S/\ob∉S/\(∀q,v.ownBlock=some q->ob+1<=q)/\aT wr ob v (.slice BI n.ids.length dI) (.slice BN n.aaa.length dN)/\aa wa wr) (fun i _=>n.ends.length-(intOf i).toNat)
 case atStart=>exact⟨0,_,_,Nat.zero_le _,rfl,by simpa using KK.out.1,KK.out.2,by simp[Value.ownBlock],GH.out,I6.out⟩
 case round=>
  obtain⟨k,v,S,hk,rfl,eK,KL,Jj,dx,dz⟩:=hrel;obtain⟨AV,cV,hV,_⟩:=id eK.read.1;obtain⟨mV,PS⟩:∃m,m=(n.ends.take k).length:=⟨_,rfl⟩
  simp only[<- PS]at hV;have HmV:=zh PS;clear PS;subst hV;have De:=zh eK;have KM:=zh KL;have NJ:=zh Jj;have Df:=zh dx;clear Ax eK KL Jj
  by_cases aH:k<n.ends.length
  ·obtain⟨es,ba⟩:=ax n.ends k aH;obtain⟨b,vH,cr,ur,gn,A_,bS,bT⟩:=fo (PQ.out wa (ab _)) ba;cases gn;have q5:=ad bS;have HE:=zh (show ∀X,aa wa X->ol X ur es from fun X hX=>bT.aab hX.below)
   have kB:=zh ba;have KH:=zh (PP.out k es ba);clear bS bT ba dx;go_upto_region 5 with(fail);obtain⟨wT,KN⟩:∃wT,wT=iL wr (ob+1):=⟨_,rfl⟩
   have qc:ob+1<=wr.heap.size:=Df.out.lt
   have TV:aa wT wr:=by rw[KN];exact mY wr qc
   have PU:wT.heap.size=ob+1:=by rw[KN];exact jh wr qc
   have TW:aT wT ob (.slice AV mV cV) (.slice BI n.ids.length dI) (.slice BN n.aaa.length dN):=by rw[KN];exact yy Df.out
   have PV:aa wa wT:=by rw[KN];exact sY dz qc (Nat.le_succ_of_le A0.out)
   have t0:=ad TW.box.cells.1;have WZ:=ak q5 PV;have W0:=zh PU;have NK:=zh PV;have fQ:=zh dz;have PW:=zh qc
   have li:Hid (wT.heap.size<=wr.heap.size):=by show _<=_;rw[PU];exact qc
   clear KN PU TW PV dz q5 AX AY AZ qc;refine bQ (w0:=wT) 7 [false,false,true,false,true,true,true] (by kernel_rfl) (by kernel_rfl) (TV) ?_;simp only[df,b8,zT]
   iterate 3 (apply ek rfl;(intro W hW;go_simp;with_reducible rfl);simp only[zA])
   obtain⟨W,bB⟩:∃W,W=World.drew wr:=⟨_,rfl⟩
   rw[<- bB]
   have hW:aa wT W:=by rw[bB];exact ah (TV)
   (try have dX:=zh bB)
   (try clear bB)
   refine jP (v:=?_) (ob:=?_) rfl ?_ hW ?_;rotate_left 2
   (go_simp;first | with_reducible rfl | (refine⟨?_,?_⟩ <;> with_reducible rfl))
   intro w2 GX KO
   replace hW:=KO
   clear KO
   have lv:Hid (co w2 wr.heap.size (.slice (some ⟨wr.heap.size,0,none⟩) 0 0) [] [wr.heap.size]):=by show co _ _ _ _ _;rw[GX,dX.out];exact yA wr.drew
   have tk:Hid (aa wr w2):=by show aa _ _;rw[GX,dX.out];exact ae _ (ah (ab _))
   rw[show W.heap.size=wr.heap.size from by rw[dX.out];rfl]
   clear GX dX
   (try simp only[zA])
   refine ci (fun Q' HQ=>?_)
   (refine yx (w0:=wT) (v:=.slice (some ⟨wr.heap.size,0,none⟩) 0 0) (u:=ur) (xs:=[]) (ys:=es) (T:=[wr.heap.size]) rfl _ _ rfl rfl (fm.mono lv.out (li.out)) (HE.out w2 (NK.out.after hW)) rfl (by have:=KH.out;simp;omega) hW ?_);intro v3 w3 T3 fU KP vI g_;refine HQ _ _ g_ ?_;replace hW:=g_;have yP:Hid (aa wr w3):=(show aa _ _ from Below.trans tk.out (vI.below _ tk.out.below.size (by simp)));have TX:Hid (∀j∈T3,wr.heap.size<=j):=(fun j hj=>(KP j hj).elim (fun h=>Nat.le_of_eq (List.mem_singleton.1 h).symm) (fun h=>by have:=tk.out.below.size;omega));obtain⟨AQ,mQ,cQ,W8⟩:=fm.one fU;subst W8;have qe:=zh fU;clear g_ fU KP vI
   (try simp only[zA])
   (try have dX:=zh bB)
   (try clear bB)
   refine jP (v:=?_) (ob:=?_) rfl ?_ hW ?_;rotate_left 2
   (go_simp;first | with_reducible rfl | (refine⟨?_,?_⟩ <;> with_reducible rfl))
   intro w5 kv pf
   replace hW:=pf
   clear pf
   have W9:Hid (co w5 wa.heap.size (.slice AQ mQ cQ) es T3):=by show co _ _ _ _ _;rw[kv];have h5:co w3 wT.heap.size (.slice AQ mQ cQ) es T3:=(by simpa using qe.out);exact fm.mono (fm.aab h5 (aj _ _)) NK.out.below.size
   have W_:Hid (w5.cell? ⟨w3.heap.size,0,none⟩=some (.slice AQ mQ cQ)):=by show _=_;rw[kv];simp
   have FE:Hid (aa wr w5):=by show aa _ _;rw[kv];exact ae _ yP.out
   have Ba:=zh (De.out.aab FE.out.below)
   have Xa:=zh (show ∀j∈T3,j∉S from fun j hj hS=>by have:=TX.out j hj;have:=(De.out.range j hS).2;omega)
   have Xb:Hid ((n.ends.take k).length+1<=1000000):=(by show _<=_;rw[List.length_take];omega)
   have uF:Hid (wa.heap.size<=w5.heap.size):=(Nat.le_trans (NK.out.below.size) hW.below.size)
   have Xc:Hid (∀q,(Value.slice AV mV cV).ownBlock=some q->wT.heap.size<=q):=(fun q hq=>by rw[W0.out];exact NJ.out q hq)
   clear kv
   (try simp only[zA])
   refine ci (fun Q' HQ=>?_)
   (refine oR (wT:=wT) (v:=.slice AV mV cV) (u:=.slice AQ mQ cQ) rfl _ _ rfl rfl Ba.out w3.heap.size rfl W_.out W9.out Xa.out Xb.out hW uF.out Xc.out ?_);intro v6 w6 S6 TY mz TZ tl rJ;refine HQ _ _ rJ ?_;have Xd:=zh TY;have uC:=zh mz;have Xe:=zh TZ;have PX:=zh tl;replace hW:=rJ;clear TY mz TZ tl rJ
   (try simp only[zA])
   simp only[aQ];obtain⟨A6,c6,T1,_⟩:=id uC.out.read.1
   have KQ:(n.ends.take k++[es]).length=k+1:=by simp;omega
   simp only[KQ]at T1;subst T1;have KR:=zh ((Df.out.since FE.out).only PX.out KM.out);have PY:Hid (aa wa w6):=(NK.out.after hW);obtain⟨c0,_,_,f0,_,_⟩:=KR.out.box.cells;clear hW t0 WZ;go_wp2;go_roundw
   case rel=>
    have KS:ob∉S6:=fun hm=>by
     rcases Xe.out ob hm with h | h | h
     ·exact KM.out h
     ·have:=TX.out ob h;have:=PW.out;omega
     ·have:=FE.out.below.size;have:=PW.out;omega
    refine⟨k+1,.slice A6 (k+1) c6,S6,by omega,by go_num,?_,KS,?_,KR.out.aat _,PY.out.setCell A0.out _⟩
    ·have hx:=uC.out.aac (w':=w6.setCell ⟨ob,0,none⟩ (.slice A6 (k+1) c6)) (fun j hj=>Below.heap_setCell w6 _ _ j (fun e=>KS (by have e':j=ob:=e;exact e' ▸ hj)))
     rw[aK kB.out];exact hx
    ·intro q hq;rcases Xd.out q hq with h | h
     ·exact NJ.out q h
     ·have:=FE.out.below.size;have:=PW.out;omega
   case measure=>simp[intOf];omega
  ·obtain rfl:k=n.ends.length:=by omega
   have jB:w0.heap.size=w.heap.size+1:=by rw[bM.out];simp
   have HR:=uD.out wr dz;rw[jB]at HR
   have PZ:Hid (w.heap.size+1<wa.heap.size):=by show _<_;rw[yO.out];omega
   obtain⟨c0,c1,FD,_,_,_⟩:=Df.out.box.cells;obtain⟨d0,d1,d2,f0,f1,f2⟩:=HR.box.cells;have fQ:=zh dz;have HR':=zh HR;clear HR dx dz aH hk jB;go_wp2;refine bodyPost_ret (v:=.agg #[.slice AV mV cV,.slice BI n.ids.length dI,.slice BN n.aaa.length dN]) (by simp[results,Tryz.results157,go_sem, *]) rfl ?_;have hx:=De.out;rw[List.take_length]at hx;refine⟨_,_,_,S,rfl,?_,?_⟩
   ·refine(hx.aac (fun j hj=>?_)).mono (Nat.le_trans aY.out.size sj.out.below.size)
    have rC:=(De.out.range j hj).1;have uN:=PZ.out;rw[Below.heap_setCell _ _ _ j (by simp;omega),Below.heap_setCell _ _ _ j (by simp;omega),Below.heap_setCell _ _ _ j (by simp;omega)]
   ·exact(((Below.trans aY.out ((sj.out.after fQ.out).below.mono aY.out.size)).setCell (by simp) _).setCell (by simp) _).setCell (by simp) _
section
variable {P : Program} {ops : Array Oper}
end
structure Cr (wa W:World) (ob b1 b2 g c m:Nat) (vi vn:Value) (N:am) (S:List Nat) (a e:Int×Int):Prop where
 own:ao W wa.heap.size (.slice (some ⟨g,0,none⟩) m c) vi vn N S
 len:N.ends.length=m
 box:aT W ob (.slice (some ⟨g,0,none⟩) m c) vi vn
 e1:E2 W 36 b1 a.1 a.2
 e2:E2 W 36 b2 e.1 e.2
 nb:ob∉S/\b1∉S/\b2∉S
 since:aa wa W
def P2 (own:Int) (xs:List Int):Bool:=if own=0 then xs.countP (fun x=>x==own+1)==xs.length else (xs.countP (fun x=>x==own-1)==1)&&(((xs.countP (fun x=>x==own+1):Nat):Int)==(xs.length:Int)-1)
def zy (ls:List Int) (e:Int×Int):Int:=ls.getD e.1.toNat 0
def KT (Jk NL:Int) (ls:List Int) (l:Int) (es:List (Int×Int)):Bool:=
 ((List.range es.length).all fun i=>zy ls (es.getD i (0,0))/100==l/100)&&((l%100==0&&Jk==l/100&&NL==1)||(decide (0<l%100)&&NL != 1&&(List.range es.length).any fun i=>zy ls (es.getD i (0,0))%100==l%100-1))
def Jl (x:Int):Int:=x/2/10/100
def Dg (x:Int):Int:=x/2/10%100
def KU (x:Int):Int:=x/2%10
def KV (x:Int):Int:=x%2
def KW (l:Int) (e:Int×Int) (y:Int):Bool:=e.2==KU y&&Dg y==Dg l+1
def Bb (ls:List Int) (l:Int) (es:List (Int×Int)):Nat->Int
 | 0=>1
 | j+1=>Bb ls l es j+if KW l (es.getD j (0,0)) (zy ls (es.getD j (0,0))) then KV (zy ls (es.getD j (0,0))) else 0
def KX (ls:List Int) (l:Int) (es:List (Int×Int)) (j:Nat):Bool:=(List.range j).any fun i=>((i:Int)==KU l)&&(Dg (zy ls (es.getD i (0,0)))==Dg l-1)
def KY (ls:List Int) (l:Int) (es:List (Int×Int)) (j:Nat):Bool:=(List.range j).all fun i=>Jl (zy ls (es.getD i (0,0)))==Jl l
def KZ (Jk:Int) (ls:List Int) (l:Int) (es:List (Int×Int)):Bool:=
 KY ls l es es.length&&(KV l==Bb ls l es es.length%2)&&((Dg l==0&&KU l==9&&Jk==Jl l&&KV l==0)||(decide (0<Dg l)&&KX ls l es es.length))
theorem vJ (v:Value) (xs:List Int) (x:Int) (w:World) (h:aG w v xs):
  Calls Tryz.prog 153 #[v,.int .i64 x] w fun e w'=>∃i:Int,e=.returned (.int .i64 i)/\decide (0<=i)=f8 xs x/\w=w':=by
 obtain⟨A,c,rfl,er,hm,hA⟩:=h;unfold maxLen at hm;have HA:=zh hA;clear hA
 go_enter Tryz.func153,Tryz.ntmps153
 go_wp2
 go_loop [8] (fun i=>∃k:Nat,k<=xs.length/\i=.int .i64 k/\x∉xs.take k) (fun i=>xs.length-(intOf i).toNat)
 case atStart=>exact⟨0,Nat.zero_le _,rfl,by simp⟩
 case round=>
  obtain⟨k,hk,rfl,kL⟩:=hrel;have qH:=zh kL;clear kL
  by_cases aH:k<xs.length
  ·obtain⟨y,hy⟩:=ax xs k aH;obtain⟨b,off,rfl,bW⟩:=HA.out k y hy;have Hy:=zh hy;clear hy;cases z8:(x==y)
   ·have Jm:=zh z8;go_wp2
    go_round
    case rel=>
     refine⟨k+1,by omega,by go_num,?_⟩
     rw[aK Hy.out];simp only[List.mem_append,List.mem_singleton,not_or];exact⟨qH.out,by simpa using Jm.out⟩
    case measure=>simp[intOf];omega
   ·have Jm:=zh z8;go_wp2;go_ret;refine⟨_,rfl,?_,rfl⟩;have e:x=y:=by simpa using Jm.out
    rw[e];unfold f8;simp[List.mem_of_getElem? Hy.out]
  ·go_wp2;go_ret;refine⟨_,rfl,?_,rfl⟩
   have:=qH.out
   rw[iB xs aH]at this;unfold f8;simpa using this
theorem qj (v:Value) (xs:List Int) (x:Int) (w:World) (h:aG w v xs):
  Calls Tryz.prog 112 #[v,.int .i64 x] w fun e w'=>e=.returned (.bool (f8 xs x))/\w=w':=by
 have H:=zh h;obtain⟨A,c,rfl,er,hm,hA⟩:=h;clear hA
 go_enter Tryz.func112,Tryz.ntmps112
 go_wp2_with fail;refine(vJ _ xs x _ H.out).mono ?_;rintro e w1 ⟨i,rfl,hi,rfl⟩;have Hi:=zh hi;clear hi;go_wp2;go_ret;exact⟨b7 Hi.out,rfl⟩
def P3 (n:am) (s:Int) (ls:List Int) (l Jk NL:Int) (es:List (Int×Int)):Bool:=
 if s=1 then decide (l<=1) && !((sL ls es).any fun x=>x != 1-l)
 else if s=2 then decide (l<=2) && !f8 (sL ls es) l
 else if s=3 then P2 l (sL ls es)
 else if s=4 then decide (n.ids.length≠0)&&KT Jk NL ls l es
 else decide (n.ids.length≠0)&&KZ Jk ls l es
def K0 (ls:List Int) (lo hi:Int):Bool:=ls.all (dW lo hi)
def tm (n:am) (s:Int) (ls:List Int):Bool:=aw n&&dW 1 5 s&&((ls.length:Int)==(n.ends.length:Int))&&K0 ls 0 999999999999
def xL (n:am) (s:Int) (ls:List Int) (k:Nat):Bool:=P3 n s ls (ls.getD k 0) (n.ids.getD k 0) (n.aaa.getD k 0) (n.ends.getD k [])
def Bc (n:am) (s:Int) (ls:List Int):List Int:=Ff (fun v=>xL n s ls v.toNat) (JU ls.length)
def iA (n:am) (s:Int) (ls:List Int):Bool:=tm n s ls
def iQ (n:am) (s:Int) (ls:List Int):List Int:=if tm n s ls then Bc n s ls else []
def jT (n:am) (s:Int) (ls:List Int):Bool:=tm n s ls
def jU (n:am) (s:Int) (ls:List Int):Bool:=tm n s ls&&(Bc n s ls).length==0
theorem tn {bX:List (List (Int×Int))} {v i:Int}:aW bX v i=true↔0<=v/\v<bX.length/\0<=i/\i<((bX.getD v.toNat []).length:Int):=by
 unfold aW;rw[Bool.and_eq_true,aC,aC];omega
structure P4 (n:am) (p q:Int×Int):Prop where
 ok:aw n=true
 hp:aW n.ends p.1 p.2=true
 hq:aW n.ends q.1 q.2=true
 n1:p≠q
 n2:dA n.ends p.1 p.2≠q
 n3:dA n.ends p.1 p.2≠p
 n4:dA n.ends q.1 q.2≠q
theorem yQ {n:am}:aw n=true↔(1<=n.ends.length/\n.ends.length<=40)/\pZ n.ids n.ends.length=true/\ie n.aaa n.ends.length=true/\(∀k,k<n.ends.length->(n.ends.getD k []).length<=6) /\
  ∀v i,aW n.ends v i=true->aW n.ends (dA n.ends v i).1 (dA n.ends v i).2=true/\dA n.ends (dA n.ends v i).1 (dA n.ends v i).2=(v,i):=by
 constructor
 ·intro h;refine⟨dj h,?_,?_,?_,fun v i hp=>mn h hp⟩
  ·unfold aw at h;simp only[Bool.and_eq_true]at h;exact h.1.1.2
  ·unfold aw at h;simp only[Bool.and_eq_true]at h;exact h.1.2
  ·intro k hk;obtain⟨es,ba⟩:=ax n.ends k hk;rw[ag ba];exact(e9 h ba).1
 ·rintro⟨h1,h2,h3,h4,h5⟩;unfold aw;simp only[Bool.and_eq_true,List.all_eq_true,List.mem_range,aC];refine⟨⟨⟨by omega,h2⟩,h3⟩,fun k hk=>?_⟩
  unfold dP fN
  simp only[Bool.and_eq_true,List.all_eq_true,List.mem_range,decide_eq_true_eq];refine⟨h4 k hk,fun i hi=>?_⟩
  have:=h5 (k:Int) (i:Int) (tn.2 ⟨by omega,by omega,by omega,by rw[Int.toNat_natCast];omega⟩)
  unfold dA at this;rw[Int.toNat_natCast,Int.toNat_natCast]at this
  exact⟨this.1,by unfold sw;exact decide_eq_true this.2⟩
structure Xf (n:am) (ls:List Int) (p q:Int×Int):Prop extends P4 n p q where
 s2:p.2=q.2
 t2:(dA n.ends p.1 p.2).2=(dA n.ends q.1 q.2).2
 s1:zy ls p=zy ls q
 t1:zy ls (dA n.ends p.1 p.2)=zy ls (dA n.ends q.1 q.2)
def K1 (cur:Int) (st:List Int×List Int) (x:Int):List Int×List Int:=if st.1.getD x.toNat 0<0 then (st.1.set x.toNat (st.1.getD cur.toNat 0+1),st.2++[x]) else st
def rK (n:am) (cur:Int):List Int:=(n.ends.getD cur.toNat []).map fun e=>e.1
def T6 (n:am):Nat->List Int×List Int->Nat->List Int
 | 0,st,_=>st.1
 | f+1,st,i=>if i<st.2.length then T6 n f ((rK n (st.2.getD i 0)).foldl (K1 (st.2.getD i 0)) st) (i+1) else st.1
def Be (n:am) (v:Nat):List Int×List Int:=((List.replicate n.ends.length (-1)).set v 0,[(v:Int)])
def Bf (n:am) (v:Nat):List Int:=T6 n (n.ends.length+1) (Be n v) 0
structure BI (N:Nat) (st:List Int×List Int):Prop where
 len:st.1.length=N
 walk:∀x∈st.2,0<=x/\x<N
 cnt:st.2.length+st.1.countP (fun x=>decide (x<0))=N
 val:∀x∈st.1,-1<=x/\x<st.2.length
inductive FF (n:am) (v:Nat):Nat->Prop
 | refl:FF n v v
 | step {a b:Nat}:FF n v a->(b:Int)∈rK n (a:Int)->FF n v b
structure BR (n:am) (v:Nat) (st:List Int×List Int):Prop where
 seen:∀w:Nat,w<n.ends.length->(0<=st.1.getD w 0↔(w:Int)∈st.2)
 rch:∀x∈st.2,FF n v x.toNat
 start:(v:Int)∈st.2
def gQ (n:am) (v:Nat):Nat:=((List.range n.ends.length).find? fun w=>decide (0<=(Bf n v).getD w 0)).getD 0
abbrev Ed:=Int×Int×Int×Int
def jD (e:Ed):List Value:=[.int .i64 e.1,.int .i64 e.2.1,.int .i64 e.2.2.1,.int .i64 e.2.2.2]
theorem yR:(Tryz.prog.info? 67).map (fun i=>(i.zero,i.size,i.bytes))=some (some (.agg #[.int .i64 0,.int .i64 0,.int .i64 0,.int .i64 0]),4,32):=by kernel_rfl
def gR (w:World) (base:Nat) (v:Value) (xs:List Ed):Prop:=w.ownsRow base 67 4 v xs.length (xs.flatMap jD)
theorem tp:∀ {xs:List Ed} {k:Nat} {x:Ed},xs[k]?=some x->(xs.flatMap jD)[k*4]?=some (.int .i64 x.1)/\(xs.flatMap jD)[k*4+1]?=some (.int .i64 x.2.1)/\(xs.flatMap jD)[k*4+2]?=some (.int .i64 x.2.2.1)/\(xs.flatMap jD)[k*4+3]?=some (.int .i64 x.2.2.2)
 | [],_,_,h=>by simp at h
 | y::xs,0,x,h=>by simp at h;subst h;simp[jD]
 | y::xs,k+1,x,h=>by
  obtain⟨h1,h2,h3,h4⟩:=tp (xs:=xs) (k:=k) (x:=x) (by simpa using h)
  have e:∀j,((y::xs).flatMap jD)[(k+1)*4+j]?=(xs.flatMap jD)[k*4+j]?:=fun j=>by
   rw[List.flatMap_cons,List.getElem?_append_right (by simp[jD];omega)]
   congr 1
   simp[jD];omega
  exact⟨(e 0).trans h1,(e 1).trans h2,(e 2).trans h3,(e 3).trans h4⟩
theorem gR.aab {w w':World} {base:Nat} {v:Value} {xs:List Ed} (h:gR w base v xs) (hb:aa w w'):gR w' base v xs:=aB h fun k hk=>hb.below.block k (World.ownsRow.lt h k (by simpa using hk)).2
theorem gR.mono {w:World} {base gF:Nat} {v:Value} {xs:List Ed} (h:gR w base v xs) (hb:gF<=base):gR w gF v xs:=fl h hb
theorem Bg (w:World) (base:Nat):gR w base (.slice none 0 0) []:=World.ownsRow_nil w base _ _
def K2 (W:World) (v:Value) (xs:List Ed):Prop:=∃A c,v=.slice A xs.length c/\c<=maxLen/\xs.length<=c/\∀k x,xs[k]?=some x->∃b,A=some ⟨b,0,none⟩/\W.cell? ⟨b,k*4,none⟩=some (.int .i64 x.1)/\W.cell? ⟨b,k*4+1,none⟩=some (.int .i64 x.2.1)/\W.cell? ⟨b,k*4+2,none⟩=some (.int .i64 x.2.2.1)/\W.cell? ⟨b,k*4+3,none⟩=some (.int .i64 x.2.2.2)
theorem gR.read {w:World} {base:Nat} {v:Value} {xs:List Ed} (h:gR w base v xs):K2 w v xs:=by
 have h':=h;rcases h.2 with⟨rfl,hn⟩ | ⟨g,cap,cur,rfl,hb,hg,x_,vK,dM,NM⟩
 ·have:xs=[]:=List.eq_nil_of_length_eq_zero hn
  subst this;exact⟨none,0,rfl,Nat.zero_le _,Nat.le_refl _,fun k x hk=>by simp at hk⟩
 ·refine⟨_,cap,rfl,vK,x_,fun k x hk=>⟨g,rfl,?_⟩⟩
  obtain⟨h1,h2,h3,h4⟩:=tp hk;have mZ:=ai hk
  exact⟨by rw[World.ownsRow.cellAt (cap:=cap) h' _ (by omega)];exact h1,by rw[World.ownsRow.cellAt (cap:=cap) h' _ (by omega)];exact h2,by rw[World.ownsRow.cellAt (cap:=cap) h' _ (by omega)];exact h3,by rw[World.ownsRow.cellAt (cap:=cap) h' _ (by omega)];exact h4⟩
theorem Bh {w w0:World} {ops:Array Oper} {rest:List Oper} {o:Oper} {a:Act} {Q:Exit->Act->World->Prop} (gA:o.guard=none) (s x:Operand)
  (ho:o.op=.call { callee:=.builtin .append,args:=#[s,x],argTypes:=#[64,64] }) {v:Value} {xs:List Ed} (hs:a.eval s=v) (h:gR w w0.heap.size v xs) (b:Nat) (y:Ed)
  (hx:a.eval x=.slice (some ⟨b,0,none⟩) 1 1) (xM:w.cell? ⟨b,0,none⟩=some (.int .i64 y.1)) (bS:w.cell? ⟨b,1,none⟩=some (.int .i64 y.2.1)) (ke:w.cell? ⟨b,2,none⟩=some (.int .i64 y.2.2.1)) (sA:w.cell? ⟨b,3,none⟩=some (.int .i64 y.2.2.2)) (hl:xs.length+1<=1000000) (lf:aa w0 w)
  (k:∀g cap w',gR w' w0.heap.size (.slice (some ⟨g,0,none⟩) (xs.length+1) cap) (xs++[y])->aa w0 w'->wpList Tryz.prog ops Q rest (a.put o.dst (.slice (some ⟨g,0,none⟩) (xs.length+1) cap)) w'):wpList Tryz.prog ops Q (o::rest) a w:=by
 obtain⟨i0,hi,eS,cj,cX⟩:=info_parts yR
 refine wpList_append_lies w gA s x 64 ho w0.heap.size 67 i0 _ 4 32 Tryz.underlying64 hi eS cj cX rfl (by decide) v xs.length (xs.flatMap jD) hs h ⟨b,0,none⟩ 1 1 (jD y) hx rfl
  (by
   intro j u hj;rw[Go.Addr.add_lit,Nat.zero_add]
   match j,hj with
   | 0,hj=>simp[jD]at hj;subst hj;exact xM
   | 1,hj=>simp[jD]at hj;subst hj;exact bS
   | 2,hj=>simp[jD]at hj;subst hj;exact ke
   | 3,hj=>simp[jD]at hj;subst hj;exact sA
   | j+4,hj=>simp[jD]at hj) (by simp[jD,Value.oneCell']) (by omega) (by unfold maxLen;omega) (by omega) lf.below.size w.heap.size rfl ?_
 intro g cap w' h1 h2 h3 h4;refine k g cap w' ?_ (Below.grown lf h2 lf.below.size (fun q hq=>(World.ownsRow.lt h q hq).1))
 unfold gR;simpa using h1
def kF (v i:Nat) (e:Int×Int):Bool:=decide ((v:Int)<e.1)||(((v:Int)==e.1)&&decide ((i:Int)<=e.2))
def lS (v i:Nat) (e:Int×Int):List Ed:=if kF v i e then [((v:Int),(i:Int),e.1,e.2)] else []
def hZ (v:Nat) (es:List (Int×Int)) (i:Nat):List Ed:=(List.range i).flatMap fun j=>lS v j (es.getD j (0,0))
def bJ (n:am) (u:Nat):List (Int×Int):=n.ends.getD u []
def bt (n:am) (v:Nat):List Ed:=(List.range v).flatMap fun u=>hZ u (bJ n u) (bJ n u).length
def eE (n:am):List Ed:=bt n n.ends.length
theorem mA (v:Nat) (es:List (Int×Int)) (i:Nat):hZ v es (i+1)=hZ v es i++lS v i (es.getD i (0,0)):=by
 unfold hZ;rw[List.range_succ,List.flatMap_append];simp
theorem gx (n:am) (v:Nat):bt n (v+1)=bt n v++hZ v (bJ n v) (bJ n v).length:=by
 unfold bt;rw[List.range_succ,List.flatMap_append];simp
theorem lT (v:Nat) (es:List (Int×Int)) (i:Nat):(hZ v es i).length<=i:=by
 induction i with
 | zero=>simp[hZ]
 | succ i ih=>
  rw[mA,List.length_append]
  have:(lS v i (es.getD i (0,0))).length<=1:=by unfold lS;split <;> simp
  omega
theorem tq {n:am} (hn:aw n=true) (v:Nat):(bt n v).length<=6*v:=by
 induction v with
 | zero=>simp[bt]
 | succ v ih=>
  rw[gx,List.length_append];have h1:=lT v (bJ n v) (bJ n v).length
  have h2:(bJ n v).length<=6:=by
   unfold bJ;rw[zDd]
   cases h:n.ends[v]? with
   | none=>simp
   | some es=>exact(e9 hn h).1
  omega
theorem yS {n:am} {e:Ed}:e∈eE n↔∃v i,v<n.ends.length/\i<(bJ n v).length/\kF v i ((bJ n v).getD i (0,0))=true/\e=((v:Int),(i:Int),((bJ n v).getD i (0,0)).1,((bJ n v).getD i (0,0)).2):=by
 unfold eE bt hZ
 simp only[List.mem_flatMap,List.mem_range];constructor
 ·rintro⟨v,hv,i,hi,he⟩;unfold lS at he
  split at he
  ·rename_i hk
   exact⟨v,i,hv,hi,hk,by simpa using he⟩
  ·simp at he
 ·rintro⟨v,i,hv,hi,hk,rfl⟩
  exact⟨v,hv,i,hi,by unfold lS;rw[if_pos hk];simp⟩
theorem yT (ve vi vn:Value) (n:am) (w:World) (h:aI w ve vi vn n) (hn:aw n=true):
  Calls Tryz.prog 32 #[.agg #[ve,vi,vn]] w fun e w'=>∃u,e=.returned u/\gR w' w.heap.size u (eE n)/\Below w.heap.size w w':=by
 have yM:=(dj hn).2
 obtain⟨w0,A,c,A2,c2,A3,c3,rfl,rfl,rfl,er,hm,et,fG,HA,bM,aY,H,e8,fh,fi⟩:=zB h;clear h
 have Hn:=zh hn;have aX:aa w0 w0:=ab _;clear hn
 go_enter Tryz.func32,Tryz.ntmps32
 go_upto_region 1 with(fail);rw[<- bM.out];go_wp2
 go_loopw [3,11] (fun u i wr=>∃k:Nat,k<=n.ends.length/\i=.int .i64 k/\gR wr w0.heap.size u (bt n k)/\aa w0 wr) (fun _ i _=>n.ends.length-(intOf i).toNat)
 case atStart=>exact⟨0,Nat.zero_le _,rfl,by simpa[bt]using Bg _ w0.heap.size,aX⟩
 case round=>
  obtain⟨k,hk,rfl,ho,hs⟩:=hrel;have Ho:=zh ho;have Hs:=zh hs;clear aX ho hs
  by_cases aH:k<n.ends.length
  ·obtain⟨es,ba⟩:=ax n.ends k aH;obtain⟨Xg,-⟩:=e9 Hn.out ba
   have ir:Hid (bJ n k=es):=by show _=_;rw[bJ,zDd,ba];rfl
   obtain⟨b,vH,cr,ur,gn,A_,bS,bT⟩:=fo H.out.es ba;cases gn;obtain⟨A1,z1,rfl,cj,cX,gn⟩:=bT;unfold maxLen at cX;have yh:=zh gn;have r1:=ak (ad bS) Hs.out;have q5:=r1 wr (ab _);have q0:=e8 wr Hs.out;have rF:=tq Hn.out k;have KH:=zh rF;clear ba bS gn rF;go_wp2
   go_loopw [3,18] (fun u i wr=>∃j:Nat,j<=es.length/\i=.int .i64 j/\gR wr w0.heap.size u (bt n k++hZ k es j)/\aa w0 wr) (fun _ i _=>es.length-(intOf i).toNat)
   case atStart=>exact⟨0,Nat.zero_le _,rfl,by simpa[hZ]using Ho.out,Hs.out⟩
   case round=>
    obtain⟨j,hj,rfl,ho,hs⟩:=hrel;have lv:=zh ho;have g7:=zh hs;clear ho hs
    by_cases Xh:j<es.length
    ·obtain⟨⟨x1,x2⟩,hx⟩:=ax es j Xh;obtain⟨b1,sD,rfl,mO,gm⟩:=yh.out j _ hx;have t1:=ad mO wr g7.out;have t2:=ad gm wr g7.out;have iR:Hid (es.getD j (0,0)=(x1,x2)):=ag hx;obtain⟨w8,mB⟩:∃w8,w8=wr.alloc (.cells #[.int .i64 x1,.int .i64 x2] 36):=⟨_,rfl⟩
     obtain⟨be,jI⟩:∃be,be=wr.heap.size:=⟨_,rfl⟩
     have d0:∀W,aa w8 W->W.cell? ⟨be,0,none⟩=some (.int .i64 x1):=ad (by rw[mB,jI];simp)
     have d1:∀W,aa w8 W->W.cell? ⟨be,1,none⟩=some (.int .i64 x2):=ad (by rw[mB,jI];simp)
     have pg:Hid (gR w8 w0.heap.size u3 (bt n k++hZ k es j)):=by rw[mB];exact lv.out.aab (ae _ (ab _))
     have iz:Hid (aa w0 w8):=by rw[mB];exact ae _ g7.out
     have Jn:=zh mB;have Xi:=zh jI;have m3:IntKind.i64.wrap ((j:Int)+1)=(j:Int)+1:=aR _ (by omega) (by omega);clear hx mO gm mB jI;go_upto_region 8 with(fail);rw[<- Jn.out,<- Xi.out];clear t1 t2;refine bI 16 (aa w8) (ab _) ?_;simp only[zT]
     iterate 5 (refine cY rfl ?_;simp only[zA])
     iterate 5 (refine kA rfl rfl ?_;simp only[zA])
     iterate 4 (apply ou rfl rfl;(intro hb hb2;intro W hW;go_simp;with_reducible rfl);simp only[zA])
     refine qF rfl rfl rfl ?_;simp only[zA]
     (first | refine dh rfl rfl ?_ | (refine cY rfl ?_));simp only[zA]
     intro W hW;have K3:=zh (iz.out.after hW);have T7:=zh (pg.out.aab hW);have c0:=d0 W hW;have c1:=d1 W hW
     have ja:Hid ((bt n k++hZ k es j).length+1<=1000000):=by
      have h1:=KH.out;have h2:=lT k es j;show _<=_
      rw[List.length_append];omega
     have qM:Hid (bt n k++hZ k es (j+1)=(bt n k++hZ k es j)++lS k j (x1,x2)):=by show _=_;rw[mA,iR.out,List.append_assoc]
     cases hg:(decide ((k:Int)<x1)||((k:Int)==x1&&decide ((j:Int)<=x2)))
     ·have qH:Hid (lS k j (x1,x2)=[]):=by show _=_;unfold lS;rw[if_neg];rw[show kF k j (x1,x2)=false from hg];simp
      clear hg hW d0 d1 c0 c1;go_wp2;go_roundw
      case rel=>exact⟨j+1,by omega,by go_num,by rw[qM.out,qH.out,List.append_nil];exact T7.out,K3.out⟩
      case measure=>simp[intOf];omega
     ·have GY:Hid (lS k j (x1,x2)=[((k:Int),(j:Int),x1,x2)]):=by show _=_;unfold lS;rw[if_pos (show kF k j (x1,x2)=true from hg)]
      clear hg hW d0 d1
      go_wp2_with (at_builtin;refine Bh rfl _ _ rfl rfl (T7.out.aab (ae _ (ab _))) W.heap.size ((k:Int),(j:Int),x1,x2) rfl (by simp[go_sem]) (by simp[go_sem]) (by simp[go_sem]) (by simp[go_sem]) ja.out (ae _ K3.out) ?_;intro g9 c9 w9 fg zz)
      have Bi:=zh fg;have zC:=zh zz;clear fg zz c0 c1;go_wp2;go_roundw
      case rel=>exact⟨j+1,by omega,by go_num,by rw[qM.out,GY.out];have:=Bi.out;first | exact this | (rw[List.length_append]at this;exact this),zC.out⟩
      case measure=>simp[intOf];omega
    ·obtain rfl:j=es.length:=by omega
     have qM:Hid (bt n (k+1)=bt n k++hZ k es es.length):=by show _=_;rw[gx,ir.out]
     have m3:IntKind.i64.wrap ((k:Int)+1)=(k:Int)+1:=aR _ (by omega) (by omega);go_wp2;go_roundw
     case rel=>exact⟨k+1,by omega,by go_num,by rw[qM.out];exact lv.out,g7.out⟩
     case measure=>simp[intOf];omega
  ·obtain rfl:k=n.ends.length:=by omega
   go_wp2;go_ret;exact⟨_,rfl,Ho.out.mono aY.out.size,aa.after aY.out Hs.out⟩
inductive NN (E:List (Nat×Nat)) (a:Nat):Nat->Prop
 | refl:NN E a a
 | step {b c:Nat}:NN E a b->((b,c)∈E\/(c,b)∈E)->NN E a c
def K4 (E:List (Nat×Nat)) (v:Nat):Prop:=∀u,NN E v u->v<=u
open Classical in
noncomputable def K5 (E:List (Nat×Nat)) (n:Nat):Nat:=(List.range n).countP fun v=>decide (K4 E v)
def a8 (n:am) (v i:Nat) (f:Int×Int):Prop:=(n.ends.getD v [])[i]?=some f
theorem fA {n:am} (hn:aw n=true) {v i:Nat} {f:Int×Int} (h:a8 n v i f):v<n.ends.length/\0<=f.1/\f.1<n.ends.length/\0<=f.2/\a8 n f.1.toNat f.2.toNat ((v:Int),(i:Int)):=by
 have hv:v<n.ends.length:=by
  rcases Nat.lt_or_ge v n.ends.length with h1 | h1
  ·exact h1
  ·unfold a8 at h;rw[zDd,List.getElem?_eq_none h1]at h;simp at h
 have hi:=ai h
 have hp:aW n.ends (v:Int) (i:Int)=true:=by
  unfold aW;rw[Bool.and_eq_true,aC,aC];simp only[Int.toNat_natCast];omega
 have he:dA n.ends (v:Int) (i:Int)=f:=by
  unfold dA;simp only[Int.toNat_natCast];exact ag h
 obtain⟨h1,h2⟩:=mn hn hp;rw[he]at h1 h2;unfold aW at h1;rw[Bool.and_eq_true,aC,aC]at h1;refine⟨hv,h1.1.1,by omega,h1.2.1,?_⟩
 have hl:f.2.toNat<(n.ends.getD f.1.toNat []).length:=by omega
 obtain⟨y,hy⟩:=ax _ _ hl;unfold dA at h2;rw[ag hy]at h2;unfold a8;rw[hy,h2]
theorem d_ {n:am} {e:Ed}:e∈eE n↔∃(v i:Nat) (f:Int×Int),v<n.ends.length/\a8 n v i f/\kF v i f=true/\e=((v:Int),(i:Int),f.1,f.2):=by
 rw[yS];constructor
 ·rintro⟨v,i,hv,hi,hk,rfl⟩;obtain⟨f,hf⟩:=ax _ _ hi;rw[ag hf]at hk ⊢;exact⟨v,i,f,hv,hf,hk,rfl⟩
 ·rintro⟨v,i,f,hv,hp,hk,rfl⟩;have Jo:(bJ n v)[i]?=some f:=hp;refine⟨v,i,hv,ai Jo,?_,?_⟩
  ·rw[ag Jo];exact hk
  ·rw[ag Jo]
end Go.Proofs.YtgjggeapebbcbaaGreat
