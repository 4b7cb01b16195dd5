/- Parts of the proof: walks of functions and plain laws. -/
import Derived.Test.YtgmdpppljkmabaaGreatP0
import Derived.Test.YtgmdpppljkmabaaGreatP1
import Derived.Test.YtgmdpppljkmabaaGreatP9
import Derived.Test.YtgmdpppljkmabaaGreatP5
import Derived.Test.YtgmdpppljkmabaaGreatP10
import Derived.Test.YtgmdpppljkmabaaGreatP2
import Derived.Test.YtgmdpppljkmabaaGreatP4
import Derived.BigQuiet
import Derived.Test.YtgmdpppljkmabaaGreatP3
import Derived.Test.YtgmdpppljkmabaaGreatP6
set_option maxRecDepth 100000
set_option maxHeartbeats 16000000
namespace Go.Proofs.YtgmdpppljkmabaaGreat
open Go Go.RowKit
def kt (n:aj) (s:Int) (ls:List Int):List Int:=fB (fun v=>dC n s ls v.toNat) (fQ ls.length)
theorem Nh (n:aj) (s:Int) (ls:List Int):(kt n s ls).length<=ls.length:=by
 have:=yr (fun v=>dC n s ls v.toNat) (fQ ls.length)
 rw[fR]at this;exact this
theorem uK (p:Int->Bool) (k:Nat):fB p (fQ (k+1))=fB p (fQ k)++if p k then [] else [(k:Int)]:=by
 rw[xx];unfold fB;rw[List.filter_append];congr 1
 cases h:p (k:Int) <;> simp[h]
theorem wM (ve vi vn vl:Value) (n:aj) (s:Int) (ls:List Int) (w:World) (h:aC w ve vi vn n) (hl:aO w vl ls) (ge:ed n s ls=true):
  Calls Tryz.prog 113 #[.agg #[ve,vi,vn],.int .i64 s,vl] w fun e w'=>∃u,e=.returned u/\Own w' w.heap.size u (kt n s ls)/\Below w.heap.size w w':=by
 obtain⟨w0,A,c,A2,c2,A3,c3,rfl,rfl,rfl,fg,hm,f8,fP,HA,bS,aT,H,dP,d9,dV⟩:=zB h;clear h
 have HL:=zh (hl.keep aT.out);obtain⟨AL,cL,rfl,yo,mF,_⟩:=hl;unfold maxLen at mF;have xS:=zh ge
 have p8:ls.length<=40:=by have:=nP ge;omega
 have aU:ab w0 w0:=aa _;clear ge
 go_enter Tryz.func113,Tryz.ntmps113
 go_upto_region 1 with(fail);rw[<- bS.out];go_wp2
 go_loopw [7,11] (fun u i wr=>∃k:Nat,k<=ls.length/\i=.int .i64 k/\Own wr w0.heap.size u (fB (fun v=>dC n s ls v.toNat) (fQ k))/\ab w0 wr) (fun _ i _=>ls.length-(intOf i).toNat)
 case atStart=>exact⟨0,Nat.zero_le _,rfl,by simpa[fB,fQ]using bU _ w0.heap.size,aU⟩
 case round=>
  obtain⟨k,hk,rfl,ho,hs⟩:=hrel;have Ho:=zh ho;clear ho aU
  by_cases az:k<ls.length
  ·obtain⟨es,l,fN,iF,a1,a2,a3,a4,a5,a6,a7,a8,a9,J5⟩:=yP xS.out (k:=k) (by have:=nP xS.out;omega)
   have HA:=zh (And.intro a3 (And.intro a5 (And.intro a6 (And.intro a7 (And.intro a8 (And.intro a9 J5))))))
   have dz:Hid ((fB (fun v=>dC n s ls v.toNat) (fQ k)).length+1<=17592186044416):=by
    have:=yr (fun v=>dC n s ls v.toNat) (fQ k)
    rw[fR]at this;show _<=_
    omega
   clear a3 a5 a6 a7 a8 a9 J5;go_wp2_with fail;refine(Bk _ _ _ _ n s ls k es l fN iF _ (H.out.keep hs.below) (HL.out.keep hs.below) a1 a2 HA.out.1 a4 HA.out.2.1 HA.out.2.2.1 HA.out.2.2.2.1 HA.out.2.2.2.2.1 HA.out.2.2.2.2.2.1).mono ?_;rw[<- HA.out.2.2.2.2.2.2];rintro e W2 ⟨rfl,bx⟩;have fM:=ab.trans hs bx;have fG:=zh (Ho.out.keep bx);cases hp:dC n s ls k
   ·have Hp:=zh (show(fun v:Int=>dC n s ls v.toNat) (k:Int)=false by simpa using hp)
    clear hs bx hp
    go_wp2_with (at_builtin;refine c_ rfl _ _ rfl rfl (fG.out.since (ad _ (aa _))) W2.heap.size k rfl (by simp[go_sem]) dz.out (ad _ fM) ?_;intro g cc w2 cZ jJ)
    have jy:=zh cZ;have gZ:=zh jJ;clear cZ jJ fM;go_wp2;go_roundw
    case rel=>exact⟨k+1,by omega,by go_num,by rw[uK,Hp.out];exact jy.out,gZ.out⟩
    case measure=>simp[intOf];omega
   ·have Hp:=zh (show(fun v:Int=>dC n s ls v.toNat) (k:Int)=true by simpa using hp)
    clear hs bx hp;go_wp2;go_roundw
    case rel=>exact⟨k+1,by omega,by go_num,by rw[uK,Hp.out];simpa using fG.out,fM⟩
    case measure=>simp[intOf];omega
  ·obtain rfl:k=ls.length:=by omega
   go_wp2;go_ret;exact⟨_,rfl,Ho.out.mono aT.out.size,ab.after aT.out hs⟩
theorem Kf:∀args w,(callFunc 135 args).run Tryz.prog w=.ok (.enter 135 args) w:=enters_of Tryz.func135 (by kernel_rfl) rfl
theorem Kg (ve vi vn vl:Value) (n:aj) (s:Int) (ls:List Int) (k b:Nat) (w:World) (h:aC w ve vi vn n) (hl:aO w vl ls) (ge:ed n s ls=true) (hk:k<n.ends.length)
  (c0:w.cell? ⟨b,0,none⟩=some ve) (c1:w.cell? ⟨b,1,none⟩=some vi) (c2:w.cell? ⟨b,2,none⟩=some vn) (c3:w.cell? ⟨b+1,0,none⟩=some (.int .i64 s)) (c4:w.cell? ⟨b+1+1,0,none⟩=some vl):
  Calls Tryz.prog 135 #[.int .i64 k,.pointer (some ⟨b,0,none⟩),.pointer (some ⟨b+1,0,none⟩),.pointer (some ⟨b+1+1,0,none⟩)] w fun e w'=>e=.returned (.bool (dC n s ls k))/\Below w.heap.size w w':=by
 obtain⟨es,l,fN,iF,a1,a2,a3,a4,a5,a6,a7,a8,a9,J5⟩:=yP ge hk;have hc:=se ve vi vn vl n s ls k es l fN iF w h hl a1 a2 a3 a4 a5 a6 a7 a8 a9;rw[<- J5]at hc;have Hc:=zh hc;obtain⟨AL,cL,rfl,yo,mF,_⟩:=hl;obtain⟨⟨A,c,rfl,fg,hm,_⟩,⟨A2,wI,rfl,_,abP,_⟩,⟨A3,Bf,rfl,_,abQ,_⟩⟩:=h;clear hc ge a3 a5 a6 a7 a8 a9 J5
 go_enter Tryz.func135,Tryz.ntmps135
 go_wp2_with fail;refine Hc.out.mono ?_;rintro e w2 ⟨rfl,hb⟩;have Hb:=zh hb;clear hb;go_wp2;go_ret;exact⟨rfl,Hb.out⟩
theorem wN (ve vi vn vl:Value) (n:aj) (s:Int) (ls:List Int) (w:World) (h:aC w ve vi vn n) (hl:aO w vl ls) (ge:ed n s ls=true):
  Calls Tryz.prog 61 #[.agg #[ve,vi,vn],.int .i64 s,vl] w fun e w'=>∃u,e=.returned u/\Own w' w.heap.size u (kt n s ls)/\Below w.heap.size w w':=by
 have HL0:=zh hl;obtain⟨AL,cL,rfl,yo,mF,_⟩:=hl;unfold maxLen at mF;obtain⟨w0,bQ⟩:∃w0,w0=(((w).alloc (.cells #[ve,vi,vn] 27)).alloc (.cells #[.int .i64 s] 3)).alloc (.cells #[.slice AL ls.length cL] 25):=⟨_,rfl⟩
 have lV:Below w.heap.size w w0:=by rw[bQ];exact((((Below.refl _ _).alloc (by simp <;> omega) _).alloc (by simp <;> omega) _).alloc (by simp <;> omega) _)
 have H:=zh (h.keep lV);obtain⟨h1,h2,h3⟩:=h.keep lV;obtain⟨A,c,rfl,fg,hm,hA⟩:=h1;obtain⟨A2,c2,rfl,_,f8,_⟩:=h2;obtain⟨A3,c3,rfl,_,fP,_⟩:=h3;unfold maxLen at hm f8 fP
 have dP:∀W,ab w0 W->W.cell? ⟨w.heap.size,0,none⟩=some (.slice A n.ends.length c):=ae (by rw[bQ];simp[go_sem])
 have d9:∀W,ab w0 W->W.cell? ⟨w.heap.size,1,none⟩=some (.slice A2 n.ids.length c2):=ae (by rw[bQ];simp[go_sem])
 have dV:∀W,ab w0 W->W.cell? ⟨w.heap.size,2,none⟩=some (.slice A3 n.acn.length c3):=ae (by rw[bQ];simp[go_sem])
 have UH:∀W,ab w0 W->W.cell? ⟨w.heap.size+1,0,none⟩=some (.int .i64 s):=ae (by rw[bQ];simp[go_sem])
 have p20:∀W,ab w0 W->W.cell? ⟨w.heap.size+1+1,0,none⟩=some (.slice AL ls.length cL):=ae (by rw[bQ];simp[go_sem])
 have aT:=zh lV;have bS:=zh bQ;have HA:=zh hA;clear hA h;clear lV bQ;have HL:=zh (HL0.out.keep aT.out)
 have p8:n.ends.length<=1000000:=by have:=nP ge;omega
 have Hln:=zh (nP ge).2.1
 have HP:Hid (mH w0 135 #[.pointer (some ⟨w.heap.size,0,none⟩),.pointer (some ⟨w.heap.size+1,0,none⟩),.pointer (some ⟨w.heap.size+1+1,0,none⟩)] (fun v=>dC n s ls v.toNat) (fQ n.ends.length)):=by
  intro x hx X hX;obtain⟨k,hk,rfl⟩:=List.mem_map.1 hx;have tk:=List.mem_range.1 hk;exact Kg (.slice A n.ends.length c) (.slice A2 n.ids.length c2) (.slice A3 n.acn.length c3) (.slice AL ls.length cL) n s ls k w.heap.size X (H.out.keep hX) (HL.out.keep hX) ge tk (dP X hX) (d9 X hX) (dV X hX) (UH X hX) (p20 X hX)
 have aU:ab w0 w0:=aa _;clear ge
 go_enter Tryz.func61,Tryz.ntmps61
 go_upto_region 1 with(fail);rw[<- bS.out];go_wp2_with fail;refine(v_ n.ends.length p8 w0).mono ?_;rintro e W3 ⟨u3,rfl,ex,bB⟩;have jy:=zh ex;have gZ:Hid (ab w0 W3):=bB;clear ex bB aU;go_wp2_with fail
 refine(tT _ (fQ n.ends.length) _ _ (fun v=>dC n s ls v.toNat) _ w0 jy.out gZ.out (by rw[fR];omega) Kf HP.out).mono ?_
 rintro e W4 ⟨u4,rfl,mW,zI⟩;have vN:=zh mW;have te:=zh zI;clear mW zI;go_wp2;go_ret
 exact⟨_,rfl,by unfold kt;rw[Hln.out];exact vN.out.mono aT.out.size,ab.after aT.out te.out⟩
def aM (n:aj) (s:Int) (ls:List Int):Bool:=ed n s ls
def aw (n:aj) (s:Int) (ls:List Int):List Int:=if ed n s ls then kt n s ls else []
def ng (n:aj) (s:Int) (ls:List Int):Bool:=ed n s ls
def nh (n:aj) (s:Int) (ls:List Int):Bool:=ed n s ls&&(kt n s ls).length==0
theorem ku (ve vi vn:Value) (n:aj) (s:Int) (vl:Value) (ls:List Int) (w:World) (h:aC w ve vi vn n) (_ : -9223372036854775808<=s/\s<=9223372036854775807) (hl:aO w vl ls) (fO:iO n<=1048576) (zW:ls.length<=1048576):
  Calls Tryz.prog 43 #[.agg #[ve,vi,vn],.int .i64 s,vl] w fun e w'=>∃u,e=.returned (.tuple #[u,.bool (aM n s ls)])/\Own w' w.heap.size u (aw n s ls)/\Below w.heap.size w w':=by
 obtain⟨w0,A,c,A2,c2,A3,c3,rfl,rfl,rfl,fg,hm,f8,fP,HA,bS,aT,H,dP,d9,dV⟩:=zB h;clear h
 have HL:=zh (hl.keep aT.out);obtain⟨AL,cL,rfl,yo,mF,_⟩:=hl;unfold maxLen at mF;have aU:ab w0 w0:=aa _;cases ge:ed n s ls
 ·have xS:=zh ge;clear ge
  go_enter Tryz.func43,Tryz.ntmps43
  go_upto_region 1 with(fail);rw[<- bS.out];go_wp2_with fail;refine(mc _ _ _ _ n s ls _ H.out HL.out).mono ?_;rw[xS.out];rintro e W1 ⟨rfl,aN⟩;have dM:Hid (ab w0 W1):=aN;clear aN aU;go_wp2
  go_ret2
  exact⟨_,congrArg (fun b=>Ending.returned (.tuple #[_,.bool b])) (show false=aM n s ls from xS.out.symm),by rw[show aw n s ls=[]by simp[aw,xS.out]];exact bU _ _,ab.after aT.out dM.out⟩
 ·have xS:=zh ge;clear ge
  go_enter Tryz.func43,Tryz.ntmps43
  go_upto_region 1 with(fail);rw[<- bS.out];go_wp2_with fail;refine(mc _ _ _ _ n s ls _ H.out HL.out).mono ?_;rw[xS.out];rintro e W1 ⟨rfl,aN⟩;have dr:ab w0 W1:=aN;clear aN aU;go_wp2_with fail;refine(wM _ _ _ _ n s ls _ (H.out.keep dr.below) (HL.out.keep dr.below) xS.out).mono ?_;rintro e W2 ⟨u,rfl,ho,hb⟩;have Ho:=zh ho;have cW:=zh (dr.trans hb);have lm:=zh (ab.below dr).size;clear ho hb dr;go_wp2
  go_ret2
  exact⟨_,congrArg (fun b=>Ending.returned (.tuple #[_,.bool b])) (show true=aM n s ls from xS.out.symm),by rw[show aw n s ls=kt n s ls by simp[aw,xS.out]];exact Ho.out.mono (Nat.le_trans aT.out.size lm.out),ab.after aT.out cW.out⟩
theorem gM (ve vi vn:Value) (n:aj) (s:Int) (vl:Value) (ls:List Int) (w:World) (h:aC w ve vi vn n) (_ : -9223372036854775808<=s/\s<=9223372036854775807) (hl:aO w vl ls) (fO:iO n<=1048576) (zW:ls.length<=1048576):
  Calls Tryz.prog 15 #[.agg #[ve,vi,vn],.int .i64 s,vl] w fun e w'=>∃u,e=.returned (.tuple #[u,.bool (aM n s ls)])/\Own w' w.heap.size u (aw n s ls)/\Below w.heap.size w w':=by
 obtain⟨w0,A,c,A2,c2,A3,c3,rfl,rfl,rfl,fg,hm,f8,fP,HA,bS,aT,H,dP,d9,dV⟩:=zB h;clear h
 have HL:=zh (hl.keep aT.out);obtain⟨AL,cL,rfl,yo,mF,_⟩:=hl;unfold maxLen at mF;have aU:ab w0 w0:=aa _;cases ge:ed n s ls
 ·have xS:=zh ge;clear ge
  go_enter Tryz.func15,Tryz.ntmps15
  go_upto_region 1 with(fail);rw[<- bS.out];go_wp2_with fail;refine(md _ _ _ _ n s ls _ H.out HL.out fO).mono ?_;rw[xS.out];rintro e W1 ⟨rfl,aN⟩;have dM:Hid (ab w0 W1):=aN;clear aN aU;go_wp2
  go_ret2
  exact⟨_,congrArg (fun b=>Ending.returned (.tuple #[_,.bool b])) (show false=aM n s ls from xS.out.symm),by rw[show aw n s ls=[]by simp[aw,xS.out]];exact bU _ _,ab.after aT.out dM.out⟩
 ·have xS:=zh ge;clear ge
  go_enter Tryz.func15,Tryz.ntmps15
  go_upto_region 1 with(fail);rw[<- bS.out];go_wp2_with fail;refine(md _ _ _ _ n s ls _ H.out HL.out fO).mono ?_;rw[xS.out];rintro e W1 ⟨rfl,aN⟩;have dr:ab w0 W1:=aN;clear aN aU;go_wp2_with fail;refine(wN _ _ _ _ n s ls _ (H.out.keep dr.below) (HL.out.keep dr.below) xS.out).mono ?_;rintro e W2 ⟨u,rfl,ho,hb⟩;have Ho:=zh ho;have cW:=zh (dr.trans hb);have lm:=zh (ab.below dr).size;clear ho hb dr;go_wp2
  go_ret2
  exact⟨_,congrArg (fun b=>Ending.returned (.tuple #[_,.bool b])) (show true=aM n s ls from xS.out.symm),by rw[show aw n s ls=kt n s ls by simp[aw,xS.out]];exact Ho.out.mono (Nat.le_trans aT.out.size lm.out),ab.after aT.out cW.out⟩
theorem BA {fv:List (List (Int×Int))} {v i:Int}:bT fv v i=true↔0<=v/\v<fv.length/\0<=i/\i<((fv.getD v.toNat []).length:Int):=by
 unfold bT;rw[Bool.and_eq_true,bz,bz];omega
structure aac (n:aj) (p q:Int×Int):Prop where
 ok:ak n=true
 hp:bT n.ends p.1 p.2=true
 hq:bT n.ends q.1 q.2=true
 n1:p≠q
 n2:dO n.ends p.1 p.2≠q
 n3:dO n.ends p.1 p.2≠p
 n4:dO n.ends q.1 q.2≠q
theorem gW {n:aj}:ak n=true↔(1<=n.ends.length/\n.ends.length<=40)/\sF n.ids n.ends.length=true/\fe n.acn n.ends.length=true/\(∀k,k<n.ends.length->(n.ends.getD k []).length<=6) /\
  ∀v i,bT n.ends v i=true->bT n.ends (dO n.ends v i).1 (dO n.ends v i).2=true/\dO n.ends (dO n.ends v i).1 (dO n.ends v i).2=(v,i):=by
 constructor
 ·intro h;refine⟨aB h,?_,?_,?_,fun v i hp=>rt h hp⟩
  ·unfold ak at h;simp only[Bool.and_eq_true]at h;exact h.1.1.2
  ·unfold ak at h;simp only[Bool.and_eq_true]at h;exact h.1.2
  ·intro k hk;obtain⟨es,bM⟩:=aA n.ends k hk;rw[ao bM];exact(bV h bM).1
 ·rintro⟨h1,h2,h3,h4,h5⟩;unfold ak;simp only[Bool.and_eq_true,List.all_eq_true,List.mem_range,bz];refine⟨⟨⟨by omega,h2⟩,h3⟩,fun k hk=>?_⟩
  unfold fZ iM
  simp only[Bool.and_eq_true,List.all_eq_true,List.mem_range,decide_eq_true_eq];refine⟨h4 k hk,fun i hi=>?_⟩
  have:=h5 (k:Int) (i:Int) (BA.2 ⟨by omega,by omega,by omega,by rw[Int.toNat_natCast];omega⟩)
  unfold dO at this;rw[Int.toNat_natCast,Int.toNat_natCast]at this
  exact⟨this.1,by unfold pZ;exact decide_eq_true this.2⟩
structure abR (n:aj) (ls:List Int) (p q:Int×Int):Prop extends aac n p q where
 s2:p.2=q.2
 t2:(dO n.ends p.1 p.2).2=(dO n.ends q.1 q.2).2
 s1:po ls p=po ls q
 t1:po ls (dO n.ends p.1 p.2)=po ls (dO n.ends q.1 q.2)
structure abS (n:aj) (acc:List Int->Nat->Bool) (aJ:Int) (l:List Int) (v:Nat):Prop where
 st:St n.ends.length aJ l v
 acK:∀a,a<n.ends.length->a<v->(∀e∈n.ends.getD a [],e.1.toNat<v)->acc l a=true
def py (n:aj) (s:Int) (ls:List Int):Prop:=∀v,v<n.ends.length->dC n s ls v=true
theorem iB {n:aj} {s:Int} {ls:List Int}:ed n s ls=true↔ak n=true/\(1<=s/\s<=5)/\ls.length=n.ends.length/\∀x∈ls,0<=x/\x<=999999999999:=by
 unfold ed;rw[Bool.and_eq_true,Bool.and_eq_true,Bool.and_eq_true,bz,beq_iff_eq];constructor
 ·rintro⟨⟨⟨h1,h2⟩,h3⟩,h4⟩
  exact⟨h1,h2,by omega,fun x hx=>by
   unfold sf at h4
   have:=List.all_eq_true.1 h4 x hx
   exact bz.1 this⟩
 ·rintro⟨h1,h2,h3,h4⟩;refine⟨⟨⟨h1,h2⟩,by omega⟩,?_⟩
  unfold sf;exact List.all_eq_true.2 fun x hx=>bz.2 (h4 x hx)
theorem Ni {n:aj} {s:Int} {ls:List Int} (h:ed n s ls=true) {v:Nat} (hv:v<n.ends.length):0<=ls.getD v 0/\ls.getD v 0<=999999999999:=by
 obtain⟨-,-,h3,h4⟩:=iB.1 h;rw[zDd,List.getElem?_eq_getElem (by omega)];exact h4 _ (List.getElem_mem _)
theorem Kh {n:aj} {ls:List Int} {v w:Nat} (h:(w:Int)∈dW n (v:Int)):ls.getD w 0∈aR ls (n.ends.getD v []):=by
 obtain⟨j,q,h1⟩:=l0.1 h;refine qM.2 ⟨_,List.mem_of_getElem? h1,by simp⟩
theorem Nj {n:aj} {ls:List Int} (hl:ed n 1 ls=true) (h:py n 1 ls):kK n=true:=by
 have hn:=(iB.1 hl).1
 have UI:∀v,v<n.ends.length->(0<=ls.getD v 0/\ls.getD v 0<=1)/\∀w:Nat,(w:Int)∈dW n (v:Int)->ls.getD w 0=1-ls.getD v 0:=fun v hv=>by
  have h1:=h v hv
  unfold dC fS at h1
  rw[if_pos rfl,Bool.and_eq_true,decide_eq_true_eq,Bool.not_eq_true',List.any_eq_false]at h1;refine⟨⟨(Ni hl hv).1,h1.1⟩,fun w hw=>?_⟩
  have:=h1.2 _ (Kh hw)
  simpa using this
 rw[nN hn,List.all_eq_true];intro v hv;have O7:=List.mem_range.1 hv;rw[Bool.not_eq_true',List.any_eq_false];intro x hx hc;have n9:=lZ hn (cur:=(v:Int)) (by omega) x hx;obtain⟨w,rfl⟩:=Int.eq_ofNat_of_zero_le n9.1;have DS:w<n.ends.length:=by omega
 unfold ke at hc;rw[Int.toNat_natCast,fm DS]at hc;have hc:=eq_of_beq hc;unfold fC at hc;have hvw:am n v=am n w:=gJ hn O7 (hZ.refl.step hx);rw[<- hvw]at hc;have hr:=dX hn O7;have hd:=nQ hn hr
 have tG:∀(f x:Nat),hZ n (am n v) x->((bC n (am n v)).getD x 0).toNat<=f->ls.getD x 0%2=(ls.getD (am n v) 0+(bC n (am n v)).getD x 0)%2:=by
  intro f
  induction f with
  | zero=>
   intro x hx hf
   by_cases e:x=am n v
   ·subst e;have:=hd.zero;rw[this];simp
   ·obtain⟨y,h1,h2,h3⟩:=hd.par x hx e
    have:=hd.pos y h1
    have:=hd.pos x hx
    omega
  | succ f ih=>
   intro x hx hf
   by_cases e:x=am n v
   ·subst e;have:=hd.zero;rw[this];simp
   ·obtain⟨y,h1,h2,h3⟩:=hd.par x hx e;have h4:=hd.pos y h1;have h5:=ih y h1 (by omega);have h6:=(UI y (ph hn hr h1)).2 x h2;omega
 have h1:=(bA hn O7).1.symm hn O7;have h2:=tG _ v h1 (Nat.le_refl _);have h3:=tG _ w (h1.step hx) (Nat.le_refl _);have h4:=(UI v O7).2 w hx;omega
theorem getD_in {α:Type} {l:List α} {i:Nat} {d:α} (h:i<l.length):l.getD i d∈l/\l[i]?=some (l.getD i d):=by
 have e:l.getD i d=l[i]:=by rw[zDd,List.getElem?_eq_getElem h];rfl
 rw[e];exact⟨List.getElem_mem h,List.getElem?_eq_getElem h⟩
theorem FE {n:aj} {v w:Nat}:(w:Int)∈dW n (v:Int)↔∃i,i<(n.ends.getD v []).length/\((n.ends.getD v []).getD i (0,0)).1=(w:Int):=by
 constructor
 ·intro h;obtain⟨j,q,h1⟩:=l0.1 h
  exact⟨j,al h1,by rw[zDd,h1];rfl⟩
 ·rintro⟨i,h1,h2⟩;refine l0.2 ⟨i,((n.ends.getD v []).getD i (0,0)).2,?_⟩;rw[<- h2];exact(getD_in h1).2
structure aad (n:aj) (I D:Nat->Int):Prop where
 same:∀v w:Nat,v<n.ends.length->(w:Int)∈dW n (v:Int)->I w=I v
 zero:∀v,v<n.ends.length->D v=0->n.ids.getD v 0=I v
 ac6:∀v,v<n.ends.length->0<D v->∃w:Nat,(w:Int)∈dW n (v:Int)/\D w=D v-1
 pos:∀v,v<n.ends.length->0<=D v
def fK (k:Nat) (es:List (Int×Int)):List (Int×Int):=es.map fun e=>(e.1+(k:Int),e.2)
def BB (n:aj):List (List (Int×Int)):=n.ends.map (fK n.ends.length)++n.ends
def fL (n:aj):aj:=⟨BB n,[],n.acn++n.acn⟩
def mh (k:Nat):List Int:=fQ k++fQ k
theorem nR (n:aj):(fL n).ends.length=n.ends.length+n.ends.length:=by simp[fL,BB]
theorem yY {n:aj} {v:Nat} (h:v<n.ends.length):(fL n).ends.getD v []=fK n.ends.length (n.ends.getD v []):=by
 show(BB n).getD v []=_
 unfold BB;rw[zDd,List.getElem?_append_left (by simpa using h),List.getElem?_map,zDd,List.getElem?_eq_getElem h];rfl
theorem uL (n:aj) (v:Nat):(fL n).ends.getD (v+n.ends.length) []=n.ends.getD v []:=by
 show(BB n).getD _ []=_
 unfold BB;rw[zDd,List.getElem?_append_right (by simp),List.length_map,Nat.add_sub_cancel,zDd]
theorem FF (ls:List Int) {v:Nat} (h:v<ls.length):(ls++ls).getD v 0=ls.getD v 0:=by
 rw[zDd,List.getElem?_append_left h,zDd]
theorem BC (ls:List Int) (v:Nat):(ls++ls).getD (v+ls.length) 0=ls.getD v 0:=by
 rw[zDd,List.getElem?_append_right (by omega),Nat.add_sub_cancel,zDd]
theorem ji {n:aj} (hn:ak n=true) {v:Nat} (hv:v<n.ends.length):∀e∈n.ends.getD v [],0<=e.1/\e.1<n.ends.length:=by
 intro e he;obtain⟨i,hi⟩:=List.mem_iff_getElem?.1 he
 have:=cY hn (v:=v) (i:=i) (f:=e) hi
 omega
theorem D4 {n:aj} {ls:List Int} (hl:ls.length=n.ends.length) {es:List (Int×Int)} (he:∀e∈es,0<=e.1/\e.1<n.ends.length):aR (ls++ls) (fK n.ends.length es)=aR ls es:=by
 unfold aR fK
 rw[List.map_map];refine List.map_congr_left fun e h=>?_
 obtain⟨h1,h2⟩:=he e h;show(ls++ls).getD (e.1+(n.ends.length:Int)).toNat 0=ls.getD e.1.toNat 0
 rw[show(e.1+(n.ends.length:Int)).toNat=e.1.toNat+ls.length by omega]
 exact BC ls _
theorem Ki {n:aj} {ls:List Int} (hl:ls.length=n.ends.length) {es:List (Int×Int)} (he:∀e∈es,0<=e.1/\e.1<n.ends.length):aR (ls++ls) es=aR ls es:=by
 unfold aR;refine List.map_congr_left fun e h=>?_
 obtain⟨h1,h2⟩:=he e h;exact FF ls (by omega)
theorem xT {s:Int} (hs:1<=s/\s<=3) (n m:aj) (ls ks:List Int) (l a b c d:Int) (es fs:List (Int×Int)) (h:aR ls es=aR ks fs):fS n s ls l a b es=fS m s ks l c d fs:=by
 unfold fS;rw[h];obtain rfl | rfl | rfl:s=1\/s=2\/s=3:=by omega
 ·rfl
 ·rfl
 ·rfl
theorem Nk {n:aj} (hn:ak n=true) {s:Int} (hs:1<=s/\s<=3) {ls:List Int} (hl:ls.length=n.ends.length) {v:Nat} (hv:v<n.ends.length):dC (fL n) s (ls++ls) v=dC n s ls v:=by
 unfold dC;rw[FF ls (by omega),yY hv];exact xT hs _ _ _ _ _ _ _ _ _ _ _ (D4 hl (ji hn hv))
theorem Kj {n:aj} (hn:ak n=true) {s:Int} (hs:1<=s/\s<=3) {ls:List Int} (hl:ls.length=n.ends.length) {v:Nat} (hv:v<n.ends.length):dC (fL n) s (ls++ls) (v+n.ends.length)=dC n s ls v:=by
 unfold dC;rw[<- hl,BC,hl,uL];exact xT hs _ _ _ _ _ _ _ _ _ _ _ (Ki hl (ji hn hv))
theorem Kk (a b:Nat):fQ (a+b)=fQ a++(List.range b).map fun v=>((v+a:Nat):Int):=by
 unfold fQ;rw[List.range_add,List.map_append,List.map_map];refine congrArg _ (List.map_congr_left fun v _=>?_)
 show((a+v:Nat):Int)=_
 rw[Nat.add_comm]
theorem Nl {n:aj} (hd:ak (fL n)=true) {s:Int} {ls:List Int} (h:ed n s ls=true):ed (fL n) s (ls++ls)=true:=by
 obtain⟨-,h2,h3,h4⟩:=iB.1 h;refine iB.2 ⟨hd,h2,?_,fun x hx=>?_⟩
 ·rw[nR,List.length_append,h3]
 ·rcases List.mem_append.1 hx with h | h <;> exact h4 x h
theorem FG {n:aj} {s:Int} {ls:List Int} (h:ed n s ls=true) (hs:s<=3):kt (fL n) s (ls++ls)=kt n s ls++(kt n s ls).map fun x=>x+(n.ends.length:Int):=by
 obtain⟨hn,h2,h3,-⟩:=iB.1 h
 unfold kt fB
 rw[List.length_append,Kk,List.filter_append];congr 1
 ·refine List.filter_congr fun x hx=>?_
  obtain⟨v,hv,rfl⟩:=List.mem_map.1 hx;have hv:=List.mem_range.1 hv;show(!dC (fL n) s (ls++ls) v) = !dC n s ls v
  rw[Nk hn ⟨h2.1,hs⟩ h3 (by omega)]
 ·unfold fQ;rw[List.filter_map,List.filter_map,List.map_map,h3]
  have hf:(List.range n.ends.length).filter ((fun x:Int => !dC (fL n) s (ls++ls) x.toNat)∘fun v:Nat=>((v+n.ends.length:Nat):Int))=(List.range n.ends.length).filter ((fun x:Int => !dC n s ls x.toNat)∘Int.ofNat):=by
   refine List.filter_congr fun v hv=>?_
   have hv:=List.mem_range.1 hv;show(!dC (fL n) s (ls++ls) (v+n.ends.length)) = !dC n s ls v
   rw[Kj hn ⟨h2.1,hs⟩ h3 hv]
  rw[hf];refine List.map_congr_left fun v _=>?_
  show((v+n.ends.length:Nat):Int)=(v:Int)+_
  omega
theorem BE {n:aj} {s:Int} {ls:List Int} (h:ed n s ls=true) (hs:s<=3):(kt (fL n) s (ls++ls)).length=2*(kt n s ls).length:=by
 rw[FG h hs,List.length_append,List.length_map];omega
theorem D5 {n:aj} {s:Int} {ls:List Int} (h:ed n s ls=true) (hs:s<=3) {x:Int} (hx:x∈kt (fL n) s (ls++ls)):0<=x/\x<2*(n.ends.length:Int)/\x%(n.ends.length:Int)∈kt n s ls:=by
 obtain⟨hn,h2,h3,-⟩:=iB.1 h
 have hr:∀y∈kt n s ls,0<=y/\y<n.ends.length:=fun y hy=>by
  unfold kt fB fQ at hy
  obtain⟨v,hv,rfl⟩:=List.mem_map.1 (List.mem_filter.1 hy).1;have hv:=List.mem_range.1 hv;show 0<=(v:Int)/\(v:Int)<_
  omega
 rw[FG h hs]at hx;rcases List.mem_append.1 hx with hx | hx
 ·obtain⟨a,b⟩:=hr x hx;refine⟨a,by omega,?_⟩
  rw[Int.emod_eq_of_lt a b];exact hx
 ·obtain⟨y,hy,rfl⟩:=List.mem_map.1 hx;obtain⟨a,b⟩:=hr y hy;refine⟨by omega,by omega,?_⟩
  rw[Int.add_emod_right,Int.emod_eq_of_lt a b];exact hy
theorem Nn {n:aj} (hn:ak n=true) (hd:ak (fL n)=true):kK (fL n)=true:=by
 have hl:ed (fL n) 1 (List.replicate n.ends.length 0++List.replicate n.ends.length 1)=true:=by
  refine iB.2 ⟨hd,by omega,?_,fun x hx=>?_⟩
  ·rw[nR];simp
  ·rcases List.mem_append.1 hx with h | h <;> (rw[List.eq_of_mem_replicate h];omega)
 have g0:∀v,v<n.ends.length->(List.replicate n.ends.length (0:Int)++List.replicate n.ends.length 1).getD v 0=0:=fun v hv=>by
  rw[zDd,List.getElem?_append_left (by simpa using hv),List.getElem?_replicate_of_lt hv];rfl
 have g1:∀v,v<n.ends.length->(List.replicate n.ends.length (0:Int)++List.replicate n.ends.length 1).getD (v+n.ends.length) 0=1:=fun v hv=>by
  rw[zDd,List.getElem?_append_right (by simp),List.length_replicate,Nat.add_sub_cancel,List.getElem?_replicate_of_lt hv];rfl
 refine Nj hl fun v hv=>?_
 rw[nR]at hv
 unfold dC fS
 rw[if_pos rfl]
 by_cases az:v<n.ends.length
 ·rw[g0 v az,yY az];refine Bool.and_eq_true_iff.2 ⟨rfl,?_⟩;rw[Bool.not_eq_true',List.any_eq_false];intro x hx;obtain⟨e,he,rfl⟩:=List.mem_map.1 hx;obtain⟨f,hf,rfl⟩:=List.mem_map.1 he;obtain⟨a,b⟩:=ji hn az f hf;show ¬(((_:List Int).getD (f.1+(n.ends.length:Int)).toNat 0 != 1-0)=true)
  rw[show(f.1+(n.ends.length:Int)).toNat=f.1.toNat+n.ends.length by omega,g1 _ (by omega)]
  decide
 ·obtain⟨u,rfl⟩:∃u,v=u+n.ends.length:=⟨v-n.ends.length,by omega⟩
  have hu:u<n.ends.length:=by omega
  rw[g1 u hu,uL];refine Bool.and_eq_true_iff.2 ⟨rfl,?_⟩;rw[Bool.not_eq_true',List.any_eq_false];intro x hx;obtain⟨f,hf,rfl⟩:=List.mem_map.1 hx;obtain⟨a,b⟩:=ji hn hu f hf;show ¬(((_:List Int).getD f.1.toNat 0 != 1-1)=true)
  rw[g0 _ (by omega)];decide
structure PM (a b:aj) (m:List Int):Prop where
 len:m.length=a.ends.length
 rng:∀x∈m,0<=x/\x<b.ends.length
 row:∀(v x:Nat),m[v]?=some (x:Int)->(a.ends.getD v []).length=(b.ends.getD x []).length/\a.acn[v]?=b.acn[x]? /\
  ∀(i:Nat) (e:Int×Int),(a.ends.getD v [])[i]?=some e->0<=e.1/\e.1<m.length/\(b.ends.getD x [])[i]?=some (m.getD e.1.toNat 0,e.2)
theorem lJ (k:Nat):(mh k).length=k+k:=by unfold mh;rw[List.length_append,fR]
theorem qQ {k v:Nat} (h:v<k+k):(mh k)[v]?=some (((if v<k then v else v-k:Nat)):Int):=by
 unfold mh
 by_cases hv:v<k
 ·rw[List.getElem?_append_left (by rw[fR];exact hv),if_pos hv,qo hv]
 ·rw[List.getElem?_append_right (by rw[fR];omega),fR,if_neg hv,qo (by omega)]
theorem QS {n:aj} (hn:ak n=true):PM (fL n) n (mh n.ends.length):=by
 have hi:n.acn.length=n.ends.length:=by
  have h3:=(gW.1 hn).2.2.1;unfold fe at h3;simp only[Bool.and_eq_true,beq_iff_eq]at h3;omega
 have hr:∀x∈mh n.ends.length,0<=x/\x<n.ends.length:=fun x hx=>by
  obtain⟨v,hv⟩:=List.mem_iff_getElem?.1 hx;have hl:=al hv;rw[lJ]at hl;rw[qQ hl]at hv
  have:=Option.some.inj hv
  split at this <;> omega
 refine⟨by rw[lJ,nR],hr,fun v x hx=>?_⟩
 have hl:=al hx;rw[lJ]at hl;rw[qQ hl]at hx;have hx:=Option.some.inj hx
 by_cases hv:v<n.ends.length
 ·rw[if_pos hv]at hx;obtain rfl:v=x:=by omega
  rw[yY hv]
  refine⟨by unfold fK;simp,?_,fun i e he=>?_⟩
  ·show(n.acn++n.acn)[v]?=_
   rw[List.getElem?_append_left (by omega)]
  ·unfold fK at he;rw[List.getElem?_map]at he;obtain⟨f,hf,rfl⟩:=Option.map_eq_some_iff.1 he;obtain⟨a,b⟩:=ji hn hv f (List.mem_of_getElem? hf);rw[lJ]
   refine⟨by show 0<=f.1+_;omega,by show f.1+_<_;omega,?_⟩
   rw[hf];show some f=some ((mh n.ends.length).getD (f.1+(n.ends.length:Int)).toNat 0,f.2)
   rw[zDd,qQ (by omega),if_neg (by omega)];show some f=some (((_:Nat):Int),f.2)
   rw[show(((f.1+(n.ends.length:Int)).toNat-n.ends.length:Nat):Int)=f.1 by omega]
 ·rw[if_neg hv]at hx;obtain⟨u,rfl⟩:∃u,v=u+n.ends.length:=⟨v-n.ends.length,by omega⟩
  obtain rfl:u=x:=by omega
  rw[uL];refine⟨rfl,?_,fun i e he=>?_⟩
  ·show(n.acn++n.acn)[u+n.ends.length]?=_
   rw[List.getElem?_append_right (by omega),show u+n.ends.length-n.acn.length=u by omega]
  ·obtain⟨a,b⟩:=ji hn (v:=u) (by omega) e (List.mem_of_getElem? he);rw[lJ];refine⟨a,by omega,?_⟩
   rw[he,zDd,qQ (by omega),if_pos (by omega)];show some e=some (((_:Nat):Int),e.2)
   rw[show((e.1.toNat:Nat):Int)=e.1 by omega]
def zJ (f:Nat->Nat):Nat->Nat->Nat
 | 0,x=>x
 | k+1,x=>zJ f k (f x)
theorem yZ (f:Nat->Nat):∀(a b x:Nat),zJ f (a+b) x=zJ f b (zJ f a x)
 | 0,b,x=>by simp[zJ]
 | a+1,b,x=>by rw[Nat.succ_add];exact yZ f a b (f x)
def lg (s:Nat):Nat:=s*6364136223846793005+1442695040888963407
theorem UJ (P u v x:Nat):(x*(1+4*P*u)+P*(1+2*v))*(1+4*P*u)+P*(1+2*v)=x*(1+4*(P+P)*(u+2*P*u*u))+(P+P)*(1+2*(v+P*u*(1+2*v))):=by grind
theorem Kl:∀k:Nat,∃u v:Nat,∀x,zJ lg (2^k) x=x*(1+4*2^k*u)+2^k*(1+2*v)
 | 0=>⟨1591034055961698251,721347520444481703,fun x=>by simp[zJ,lg]⟩
 | k+1=>by
  obtain⟨u,v,h⟩:=Kl k;refine⟨u+2*2^k*u*u,v+2^k*u*(1+2*v),fun x=>?_⟩
  have e:2^(k+1)=2^k+2^k:=by rw[Nat.pow_succ];omega
  rw[e,yZ,h,h];exact UJ _ _ _ _
theorem No (P u v z:Nat):(z*(1+4*P*u)+P*(1+2*v))%(2*P)=(z+P)%(2*P):=by
 have e:z*(1+4*P*u)+P*(1+2*v)=z+P+2*P*(2*z*u+v):=by grind
 rw[e,Nat.add_mul_mod_self_left]
theorem Np (P a b:Nat) (hP:0<P) (h:a%P=b%P):a%(2*P)=b%(2*P)\/(a+P)%(2*P)=b%(2*P):=by
 have e1:a=P*(a/P)+b%P:=by rw[<- h];exact(Nat.div_add_mod a P).symm
 have e2:b=P*(b/P)+b%P:=(Nat.div_add_mod b P).symm;have lt:b%P<P:=Nat.mod_lt _ hP
 generalize b%P=r at *
 generalize a/P=q1 at *
 generalize b/P=q2 at *
 subst e1
 have tG:∀q:Nat,(P*q+r)%(2*P)=P*(q%2)+r:=fun q=>by
  have e3:P*q+r=P*(q%2)+r+2*P*(q/2):=by
   have h9:P*q=P*(2*(q/2)+q%2):=by rw[Nat.div_add_mod]
   rw[h9]
   grind
  rw[e3,Nat.add_mul_mod_self_left];apply Nat.mod_eq_of_lt
  rcases Nat.mod_two_eq_zero_or_one q with h0 | h0 <;> rw[h0] <;> omega
 have e4:P*q1+r+P=P*(q1+1)+r:=by grind
 rw[e2,e4,tG,tG,tG]
 rcases Nat.mod_two_eq_zero_or_one q1 with h0 | h0 <;> rcases Nat.mod_two_eq_zero_or_one q2 with h1 | h1
 ·exact .inl (by rw[h0,h1])
 ·exact .inr (by rw[h1,show(q1+1)%2=1 by omega])
 ·exact .inr (by rw[h1,show(q1+1)%2=0 by omega])
 ·exact .inl (by rw[h0,h1])
theorem BF:∀(k x y:Nat),∃t,t<2^k/\zJ lg t x%2^k=y%2^k
 | 0,x,y=>⟨0,by simp,by simp[Nat.mod_one]⟩
 | k+1,x,y=>by
  obtain⟨t,h1,h2⟩:=BF k x y;obtain⟨u,v,h⟩:=Kl k
  have e:2^(k+1)=2*2^k:=by rw[Nat.pow_succ];omega
  have hP:0<2^k:=Nat.pow_pos (by omega);have h3:=h (zJ lg t x);rw[<- yZ]at h3;rw[e];rcases Np _ _ _ hP h2 with hc | hc
  ·exact⟨t,by omega,hc⟩
  ·exact⟨t+2^k,by omega,by rw[h3,No _ _ _ _];exact hc⟩
def byteOf (s:Nat):Nat:=s/1099511627776%256
theorem D6 (x b:Nat) (hb:b<256):∃t,t<281474976710656/\byteOf (zJ lg t x)=b:=by
 obtain⟨t,h1,h2⟩:=BF 48 x (b*1099511627776);refine⟨t,by simpa using h1,?_⟩
 unfold byteOf
 generalize zJ lg t x=z at *
 simp only[Nat.reducePow]at h2;omega
def nx (s b:Nat):Nat:=(s*6364136223846793005+b+1442695040888963407)%18446744073709551616
theorem uM (f:Nat->Nat) (k x:Nat):zJ f (k+1) x=zJ f k (f x):=rfl
theorem UK (s:Nat):nx (s%18446744073709551616) 0=lg s%18446744073709551616:=by
 unfold nx lg
 omega
theorem Km:∀(t s:Nat),zJ (fun s=>nx s 0) t (s%18446744073709551616)=zJ lg t s%18446744073709551616
 | 0,s=>rfl
 | t+1,s=>by
  rw[uM,uM,<- Km t (lg s),UK]
theorem Kn (z:Nat):byteOf (z%18446744073709551616)=byteOf z:=by unfold byteOf;omega
theorem Ko (s b:Nat) (hs:s<18446744073709551616) (hb:b<256):∃t,t<281474976710656/\byteOf (zJ (fun s=>nx s 0) t s)=b:=by
 obtain⟨t,h1,h2⟩:=D6 s b hb
 refine⟨t,h1,?_⟩
 have:=Km t s
 rw[Nat.mod_eq_of_lt hs]at this;rw[this,Kn]
 exact h2
def BG (w:World) (v:Value) (zK:List (List Int)):Prop:=
 ∃(A:Option Addr) (c:Nat),v=.slice A zK.length c/\zK.length<=c/\c<=maxLen /\
  (∀k xs,zK[k]?=some xs->∃b off u,A=some ⟨b,off,none⟩/\w.cell? ⟨b,off+k,none⟩=some u/\aO w u xs)
theorem BG.keep {w w':World} {v:Value} {xs:List (List Int)} (h:BG w v xs) (hb:Below w.heap.size w w'):BG w' v xs:=by
 obtain⟨A,c,hv,hc,hm,hA⟩:=h;refine⟨A,c,hv,hc,hm,fun k x hk=>?_⟩
 obtain⟨b,off,u,yc,h1,h2⟩:=hA k x hk;exact⟨b,off,u,yc,bc hb h1,h2.keep hb⟩
def oS:World->Nat->Value->List (List Int)->List Nat->Prop:=bu 25 j_
theorem UL:fh oS:=jv _ gm
theorem j_.read {w:World} {base:Nat} {v:Value} {xs:List Int} {S:List Nat} (h:j_ w base v xs S):aO w v xs:=h.1.ints
theorem oS.read {w:World} {base:Nat} {v:Value} {fv:List (List Int)} {S:List Nat} (h:oS w base v fv S):BG w v fv:=by
 obtain⟨vs,Ss,h1,h2,h3,h4,h5⟩:=h;rcases dF h1 with⟨rfl,h0⟩ | ⟨g,c,rfl,hb,hg,hc,hm⟩
 ·obtain rfl:fv=[]:=List.eq_nil_of_length_eq_zero h0
  exact⟨none,0,rfl,Nat.le_refl _,Nat.zero_le _,fun k x hk=>by simp at hk⟩
 ·have CF:vs.length=fv.length:=by simpa using h1.1
  refine⟨_,c,rfl,hc,hm,fun k x hk=>?_⟩
  have az:=al hk;obtain⟨u,hu⟩:=aA vs k (by omega);obtain⟨T,hT⟩:=aA Ss k (by omega)
  exact⟨g,0,u,rfl,by rw[Nat.zero_add,h1.cellAt (cap:=c) _ (by omega)];exact hu,j_.read (h3 k u x T hu hk hT)⟩
theorem GX:(Tryz.prog.info? 25).map (fun i=>(i.zero,i.size,i.bytes))=some (some (.slice none 0 0),1,24):=by kernel_rfl
section
variable {ops : Array Oper} {rest : List Oper} {o : Oper} {a : Act} {Q : Exit → Act → World → Prop}
theorem Kp (w:World) (hg:o.guard=none) (l c:Operand) (s_:o.op=Op.makeSlice 30 l c) (n:Nat) (hl:a.eval l=.int .i64 (n:Int)) (hc:a.eval c=.int .i64 (n:Int)) (hn:n<=1048576)
  (hK:∀w',oS w' w.heap.size (.slice (some ⟨w.heap.size,0,none⟩) n n) (List.replicate n []) [w.heap.size]->Below w.heap.size w w'->wpList Tryz.prog ops Q rest (a.put o.dst (.slice (some ⟨w.heap.size,0,none⟩) n n)) w'):wpList Tryz.prog ops Q (o::rest) a w:=by
 obtain⟨i0,hi,gx,dh,dt⟩:=info_parts GX;refine wpList_plain hg fun K hK'=>?_
 have hr:=run_make (P:=Tryz.prog) w 30 25 i0 (.slice none 0 0) Tryz.underlying30 hi gx .i64 .i64 n n (by omega) (Int.le_refl _) (by rw[dt];omega) (by omega)
 rw[dh]at hr;simp only[Int.toNat_natCast]at hr;rw[show(Value.slice none 0 0).cells=#[Value.slice none 0 0]from rfl,qm]at hr
 unfold Oper.wp;simp only[execOp,s_,hl,hc,Sem.run_bind,hr,Result.andThen_ok,Sem.run_pure];refine hK' _ _ (hK _ ?_ (ai _ _))
 have:=bu.made (R:=j_) (e:=25) n (by simp[maxLen];omega) iN w
 rw[List.toArray_replicate]at this;exact this
end
section
variable {ops : Array Oper} {rest : List Oper} {o : Oper} {a : Act} {Q : Exit → Act → World → Prop}
end
section
variable {ops : Array Oper} {rest : List Oper} {o : Oper} {a : Act} {Q : Exit → Act → World → Prop}
end
section
variable {ops : Array Oper} {rest : List Oper} {o : Oper} {a : Act} {Q : Exit → Act → World → Prop}
end
section
open Go.ChangeShapes Go.WideShapes Go.ChangeAt Go.Joins Go.Deep
variable {H : Type} {enc : TypeId × Value → H} {W : World}
end
structure ASt where
 rounds:List Int
 before:List Int
 now:List Int
 ac5:List (List Int)
 ac3:List (List (List (Int×Int)))
theorem iV (w:World) (p:Addr) (u:Value):(w.setCell p u).heap.size=w.heap.size:=by simp[World.setCell]
def lK (w:World) (b:Nat) (vs:Array Value):Prop:=∃r,w.heap[b]?=some (.cells vs r)
theorem lK.lt {w:World} {b:Nat} {vs:Array Value} (h:lK w b vs):b<w.heap.size:=by
 obtain⟨r,h⟩:=h;exact(Array.getElem?_eq_some_iff.1 h).1
theorem lK.set {w:World} {b:Nat} {vs:Array Value} {u:Value} {p:Addr} (h:lK w b vs) (ha:p.block≠b):lK (w.setCell p u) b vs:=by
 obtain⟨r,h⟩:=h
 exact⟨r,by rw[Below.heap_setCell _ _ _ _ (fun e=>ha e.symm)];exact h⟩
theorem lK.cell {w:World} {b:Nat} {vs:Array Value} (h:lK w b vs) (i:Nat) (u:Value) (hi:vs[i]?=some u):w.cell? ⟨b,i,none⟩=some u/\w.frozen? ⟨b,i,none⟩=false:=by
 obtain⟨r,h⟩:=h;exact⟨by simp[World.cell?,h,hi],by simp[World.frozen?,h]⟩
theorem lK.new (w:World) (vs:Array Value) (t:TypeId):lK (w.alloc (.cells vs t)) w.heap.size vs:=⟨t,by show(w.heap.push _)[w.heap.size]?=_;rw[Array.getElem?_push_size]⟩
theorem ni {w:World} {b:Nat} {vs:Array Value} (h:lK w b vs) (i:Nat) (u:Value):lK (w.setCell ⟨b,i,none⟩ u) b (vs.setIfInBounds i u):=by
 obtain⟨r,h⟩:=h;refine⟨r,?_⟩;simp[World.setCell,Array.getElem?_modify,h]
structure CB (cb B:Nat) (w w':World):Prop where
 os:w'.os=w.os
 tape:w'.tape=w.tape
 output:w'.output=w.output
 size:w.heap.size<=w'.heap.size
 block:∀k,k<B->k≠cb->w'.heap[k]?=w.heap[k]?
theorem CB.refl (cb B:Nat) (w:World):CB cb B w w:=⟨rfl,rfl,rfl,Nat.le_refl _,fun _ _ _=>rfl⟩
theorem CB.trans {cb B:Nat} {a b c:World} (h:CB cb B a b) (k:CB cb B b c):CB cb B a c:=
 ⟨k.os.trans h.os,k.tape.trans h.tape,k.output.trans h.output,Nat.le_trans h.size k.size,fun i hi hn=>(k.block i hi hn).trans (h.block i hi hn)⟩
theorem CB.mono {cb B B':Nat} {w w':World} (h:CB cb B w w') (hB:B'<=B):CB cb B' w w':=⟨h.os,h.tape,h.output,h.size,fun k hk hn=>h.block k (by omega) hn⟩
theorem CB.of {cb B:Nat} {w w':World} (h:Below B w w'):CB cb B w w':=⟨h.os,h.tape,h.output,h.size,fun k hk _=>h.block k hk⟩
theorem CB.below {cb B:Nat} {w w':World} (h:CB cb B w w') (hB:B<=cb):Below B w w':=⟨h.os,h.tape,h.output,h.size,fun k hk=>h.block k hk (by omega)⟩
theorem CB.setCell {cb B:Nat} {a w:World} (h:CB cb B a w) {p:Addr} (hp:B<=p.block\/p.block=cb) (u:Value):CB cb B a (w.setCell p u):=
 h.trans ⟨rfl,rfl,rfl,by simp[World.setCell],fun k hk hn=>Below.heap_setCell _ _ _ _ (by omega)⟩
theorem CB.cell {cb B:Nat} {w w':World} (h:CB cb B w w') {p:Addr} (hp:p.block<B) (hn:p.block≠cb):w'.cell? p=w.cell? p:=World.cell?_of_block (w:=w) (h.block p.block hp hn)
theorem y4 {w:World} {p:Addr} {v:Value} (h:w.cell? p=some v):p.block<w.heap.size:=by
 rcases Nat.lt_or_ge p.block w.heap.size with hl | hl
 ·exact hl
 ·exfalso
  have e:w.heap[p.block]?=none:=Array.getElem?_eq_none hl;simp[World.cell?,e]at h
def dK (cb:Nat) (w0 W:World):Prop:=CB cb w0.heap.size w0 W
theorem dK.refl (cb:Nat) (w:World):dK cb w w:=CB.refl _ _ _
theorem dK.trans {cb:Nat} {w0 W W':World} (h:dK cb w0 W) (h':CB cb W.heap.size W W'):dK cb w0 W':=CB.trans h (h'.mono h.size)
theorem dK.after {cb:Nat} {w0 W W':World} (h:dK cb w0 W) (h':ab W W'):dK cb w0 W':=h.trans (CB.of h')
theorem au {cb:Nat} {w0:World} {p:Addr} {v:Value} (h:w0.cell? p=some v) (hn:p.block≠cb):∀W,dK cb w0 W->W.cell? p=some v:=fun W hW=>by
 rw[CB.cell hW ?_ hn]
 ·exact h
 ·exact y4 h
def y5 (w:World) (cb:Nat) (A:Option Addr) (L:Nat):Prop:=∀k,k<L->∃b off v,A=some ⟨b,off,none⟩/\b<cb/\w.cell? ⟨b,off+k,none⟩=some (.int .u8 v)/\0<=v/\v<256
theorem y5.keep {w w':World} {cb:Nat} {A:Option Addr} {L:Nat} (h:y5 w cb A L) (hb:∀k,k<cb->w'.heap[k]?=w.heap[k]?):y5 w' cb A L:=fun k hk=>by
 obtain⟨b,off,v,hA,az,hc,h1,h2⟩:=h k hk
 exact⟨b,off,v,hA,az,by rw[World.cell?_of_block (w:=w) (hb b az)];exact hc,h1,h2⟩
structure zL (w:World) (cb:Nat) (A:Option Addr) (L c p s:Nat):Prop where
 cells:∃r,w.heap[cb]?=some (.cells #[.slice A L c,.int .i64 p,.int .u64 s] r)
 code:y5 w cb A L
 len:L<=1048576
 cap:L<=c
 ac7:s<18446744073709551616
theorem zL.keep {w w':World} {cb:Nat} {A:Option Addr} {L c p s:Nat} (h:zL w cb A L c p s) (hb:∀k,k<cb+1->w'.heap[k]?=w.heap[k]?):zL w' cb A L c p s:=by
 obtain⟨⟨r,h1⟩,h2,h3,h4,h5⟩:=h;exact⟨⟨r,(hb cb (by omega)).trans h1⟩,h2.keep (fun k hk=>hb k (by omega)),h3,h4,h5⟩
theorem zL.lt {w:World} {cb:Nat} {A:Option Addr} {L c p s:Nat} (h:zL w cb A L c p s):cb<w.heap.size:=by
 obtain⟨⟨r,h1⟩,_⟩:=h;exact(Array.getElem?_eq_some_iff.1 h1).1
theorem zL.since {w w':World} {cb:Nat} {A:Option Addr} {L c p s:Nat} (h:zL w cb A L c p s) (hs:ab w w'):zL w' cb A L c p s:=h.keep fun k hk=>hs.block k (by have:=h.lt;omega)
theorem zL.cellsOf {w:World} {cb:Nat} {A:Option Addr} {L c p s:Nat} (h:zL w cb A L c p s):w.cell? ⟨cb,0,none⟩=some (.slice A L c)/\w.cell? ⟨cb,1,none⟩=some (.int .i64 p)/\w.cell? ⟨cb,2,none⟩=some (.int .u64 s):=by
 obtain⟨⟨r,h1⟩,_⟩:=h;have hb:lK w cb #[.slice A L c,.int .i64 p,.int .u64 s]:=⟨r,h1⟩;exact⟨(hb.cell 0 _ rfl).1,(hb.cell 1 _ rfl).1,(hb.cell 2 _ rfl).1⟩
theorem sl {w0 w:World} (n:Nat) (h:ab w0 w):ab w0 (w.drewN n):=below_drewN h n
theorem oT (ve vi vn we wi wn vm:Value) (a b:aj) (m:List Int) (w:World) (ha:aC w ve vi vn a) (hb:aC w we wi wn b) (hm:aO w vm m) (hp:PM a b m) (hn:ak a=true) (hk:ak b=true):
  Calls Tryz.prog 119 #[.agg #[ve,vi,vn],.agg #[we,wi,wn],vm] w fun e w'=>e=.returned (.bool true)/\Below w.heap.size w w':=by
 obtain⟨w0,bQ⟩:∃z,z=(w.alloc (.cells #[ve,vi,vn] 27)).alloc (.cells #[we,wi,wn] 27):=⟨_,rfl⟩
 have aU:ab w w0:=by rw[bQ];exact ad _ (ad _ (aa _))
 have Mi:=zh (ha.keep aU.below);have Kq:=zh (hb.keep aU.below);have HM:=zh (hm.keep aU.below);obtain⟨⟨A,c,rfl,fg,yt,-⟩,⟨A2,c2,rfl,-,-,-⟩,⟨A3,c3,rfl,aae,UM,-⟩⟩:=ha;obtain⟨⟨B,d,rfl,Pa,hdm,-⟩,⟨B2,d2,rfl,-,-,-⟩,⟨B3,d3,rfl,aaf,UN,-⟩⟩:=hb;obtain⟨AM,cm,rfl,UO,UP,-⟩:=hm;unfold maxLen at yt UM hdm UN UP
 have dP:∀W,ab w0 W->W.cell? ⟨w.heap.size,0,none⟩=some (.slice A a.ends.length c):=ae (by rw[bQ];simp)
 have dV:∀W,ab w0 W->W.cell? ⟨w.heap.size,2,none⟩=some (.slice A3 a.acn.length c3):=ae (by rw[bQ];simp)
 have UH:∀W,ab w0 W->W.cell? ⟨w.heap.size+1,0,none⟩=some (.slice B b.ends.length d):=ae (by rw[bQ];simp)
 have p12:∀W,ab w0 W->W.cell? ⟨w.heap.size+1,2,none⟩=some (.slice B3 b.acn.length d3):=ae (by rw[bQ];simp)
 have Fp:=aB hn;have qw:=aB hk;have Fk:=hp.len
 have IQ:a.acn.length=a.ends.length:=by
  have h3:=(gW.1 hn).2.2.1;unfold fe at h3;simp only[Bool.and_eq_true,beq_iff_eq]at h3;omega
 have IR:b.acn.length=b.ends.length:=by
  have h3:=(gW.1 hk).2.2.1;unfold fe at h3;simp only[Bool.and_eq_true,beq_iff_eq]at h3;omega
 have jj:=zh aU;have bS:=zh bQ;have Hp:=zh hp;have Hn:=zh hn;have Hk:=zh hk;have Nq:=zh dP;have Nr:=zh dV;have Kr:=zh UH;have Mj:=zh p12;have UQ:=zh Fk
 have ir:Hid (m.all (fF 0 ((b.ends.length:Int)-1))=true):=by
  show _=_
  rw[List.all_eq_true];intro x hx
  have:=hp.rng x hx
  exact bz.2 (by omega)
 have HIA:=zh IQ;have Ym:=zh IR;have yU:=dP w0 (aa _);have q10:=UH w0 (aa _);have ew:IntKind.i64.wrap ((b.ends.length:Int)-1)=(b.ends.length:Int)-1:=aH _ (by omega) (by omega);clear aU bQ hp hn hk dP dV UH p12 Fk IQ IR fg yt aae UM Pa hdm aaf UN;rw[UQ.out]at UO ⊢
 go_enter Tryz.func119,Tryz.ntmps119
 go_upto_region 1 with(fail);rw[<- bS.out];go_wp2_with fail
 refine(lc _ m 0 ((b.ends.length:Int)-1) w0 (by have:=HM.out;rw[UQ.out]at this;exact this)).mono ?_
 rintro e w1 ⟨rfl,aN⟩;rw[ir.out];have dM:=zh (show ab w0 w1 from aN);clear aN yU q10;have yU:=Nq.out w1 dM.out;go_wp2
 go_loopw [30] (fun i wr=>∃k:Nat,k<=a.ends.length/\i=.int .i64 k/\ab w0 wr) (fun i _=>a.ends.length-(intOf i).toNat)
 case atStart=>exact⟨0,Nat.zero_le _,rfl,dM.out⟩
 case round=>
  obtain⟨k,hk,rfl,hs⟩:=hrel;have Hs:=zh hs;clear hs
  by_cases az:k<a.ends.length
  ·have m3:IntKind.i64.wrap ((k:Int)+1)=(k:Int)+1:=aH _ (by omega) (by omega);obtain⟨es,bM⟩:=aA a.ends k az
   obtain⟨x0,lp⟩:=aA m k (by have:=UQ.out;omega)
   have n9:=Hp.out.rng x0 (List.mem_of_getElem? lp);obtain⟨x,rfl⟩:=Int.eq_ofNat_of_zero_le n9.1;obtain⟨fs,Mk⟩:=aA b.ends x (by omega)
   obtain⟨y,hy⟩:=aA a.acn k (by have:=HIA.out;omega)
   obtain⟨sM,CO,hr3⟩:=Hp.out.row k x lp;rw[ao bM,ao Mk]at sM;rw[ao bM,ao Mk]at hr3;rw[hy]at CO;obtain⟨ba,oa,ca,ua,eA,hka,Pb,dm⟩:=fi Mi.out.1 bM;cases eA;obtain⟨AE,ce,rfl,p8,yt,Yn⟩:=dm;obtain⟨bb,ob,cb',ub,eB,hkb,ig,UR⟩:=fi Kq.out.1 Mk;cases eB;obtain⟨AF,cf,rfl,hlf,aag,hAF⟩:=UR;unfold maxLen at yt aag;obtain⟨_,_,eM,-,-,hM⟩:=HM.out;cases eM;obtain⟨bm,om,rfl,Pc⟩:=hM k _ lp;obtain⟨_,_,eI,-,-,hI⟩:=Mi.out.2.2;cases eI;obtain⟨bi,oi,rfl,Ns⟩:=hI k _ hy;obtain⟨_,_,eJ,-,-,hJ⟩:=Kq.out.2.2;cases eJ;obtain⟨bj,oj,rfl,hcJ⟩:=hJ x _ CO.symm;have HM':=zh hM;have C1:=zh (ae Pb);have C2:=zh (ae ig);have C3:=zh (ae Pc);have C4:=zh (ae Ns);have C5:=zh (ae hcJ);have HAE:=zh Yn;have HAF:=zh hAF;have HR:=zh hr3;have d1:=C1.out _ Hs.out;have d2:=C2.out _ Hs.out;have d3:=C3.out _ Hs.out;have d4:=C4.out _ Hs.out;have d5:=C5.out _ Hs.out;have d6:=Kr.out _ Hs.out;have d7:=Nr.out _ Hs.out;have d8:=Mj.out _ Hs.out;have hiA:=HIA.out;have hiB:=Ym.out;have IS:=n9.2;obtain⟨L,hL⟩:∃L,es.length=L:=⟨_,rfl⟩
   rw[hL]at sM p8 d1;rw[<- sM]at hlf d2;have HL:=zh hL;clear bM lp n9 Mk hy sM CO hr3 Pb ig Pc Ns hcJ Yn hAF hM hI hJ hL yU;go_upto_region 6 with(fail)
   go_quiet (fail)
   go_upto_region 7 with(fail)
   go_quiet (fail)
   clear d1 d2 d3 d4 d5 d6 d7 d8;go_wp2
   go_loopw [66] (fun i wr=>∃j:Nat,j<=L/\i=.int .i64 j/\ab w0 wr) (fun i _=>L-(intOf i).toNat)
   case atStart=>exact⟨0,Nat.zero_le _,rfl,sl _ Hs.out⟩
   case round=>
    obtain⟨j,hj,rfl,fM⟩:=hrel;have cW:=zh fM;clear fM
    by_cases lq:j<L
    ·have m4:IntKind.i64.wrap ((j:Int)+1)=(j:Int)+1:=aH _ (by omega) (by omega)
     obtain⟨e,he⟩:=aA es j (by have:=HL.out;omega)
     obtain⟨h1,h2,h3⟩:=HR.out j e he;obtain⟨z,hz⟩:=aA m e.1.toNat (by omega);rw[ao hz]at h3;obtain⟨bE,oE,rfl,Nt,Nu⟩:=HAE.out j e he;obtain⟨bF,oF,rfl,Nv,Nw⟩:=HAF.out j _ h3;obtain⟨_,_,eM2,Yo⟩:=HM'.out _ _ hz;cases eM2;obtain⟨e1,e2⟩:=e;obtain⟨e0,rfl⟩:=Int.eq_ofNat_of_zero_le h1;have Nt:∀W,ab w0 W->W.cell? ⟨bE,oE+j*2,none⟩=some (.int .i64 (e0:Int)):=ae Nt;have Nu:∀W,ab w0 W->W.cell? ⟨bE,oE+j*2+1,none⟩=some (.int .i64 e2):=ae Nu;have Nv:∀W,ab w0 W->W.cell? ⟨bF,oF+j*2,none⟩=some (.int .i64 z):=ae Nv;have Nw:∀W,ab w0 W->W.cell? ⟨bF,oF+j*2+1,none⟩=some (.int .i64 e2):=ae Nw;have Yo:∀W,ab w0 W->W.cell? ⟨bm,om+e0,none⟩=some (.int .i64 z):=ae Yo
     have he0:e0<a.ends.length:=by have h7:((e0:Nat):Int)<m.length:=h2;have:=UQ.out;omega
     obtain⟨wE,US⟩:∃wE,wE=wr.alloc (.cells #[.int .i64 (e0:Int),.int .i64 e2] 83):=⟨_,rfl⟩
     obtain⟨gE,Yp⟩:∃g,g=wr.heap.size:=⟨_,rfl⟩
     have Nx:ab w0 wE:=by rw[US];exact ad _ cW.out
     have d1:=Nt wr cW.out;have d2:=Nu wr cW.out;have HwE:=zh US;have HgE:=zh Yp;have HsE:=zh Nx;have HF1:=zh (Nv wE Nx);have HF2:=zh (Nw wE Nx);have HZ:=zh (Yo wE Nx)
     have HX1:=zh (show wE.cell? ⟨gE,0,none⟩=some (.int .i64 (e0:Int))by rw[US,Yp];simp)
     have QT:=zh (show wE.cell? ⟨gE,1,none⟩=some (.int .i64 e2)by rw[US,Yp];simp)
     clear he h1 h2 h3 hz Nt Nu Nv Nw Yo US Yp Nx;go_upto_region 12 with(fail);rw[<- HwE.out,<- HgE.out];have f1:=HF1.out;have f2:=HF2.out;have f3:=HZ.out;have f4:=HX1.out;have f5:=QT.out;clear d1 d2
     go_quiet (fail)
     have eE:pZ (z,e2) (z,e2)=true:=by unfold pZ;exact decide_eq_true rfl
     have eN:(!pZ (z,e2) (z,e2))=false:=by rw[eE];rfl
     rw[eE];go_wp2;go_roundw
     case rel=>exact⟨j+1,by omega,by first | rfl | go_num,sl _ HsE.out⟩
     case measure=>simp[intOf];omega
    ·have sH:j=L:=by omega
     subst sH;go_wp2;go_roundw
     case rel=>exact⟨k+1,by omega,by first | rfl | go_num,cW.out⟩
     case measure=>simp[intOf];omega
  ·have pQ:k=a.ends.length:=by omega
   subst pQ;go_wp2;go_ret;exact⟨rfl,Below.trans jj.out.below (Hs.out.below.mono jj.out.below.size)⟩
theorem GY (ve vi vn we wi wn vm:Value) (a b:aj) (m:List Int) (w:World) (ha:aC w ve vi vn a) (hb:aC w we wi wn b) (hm:aO w vm m) (hp:PM a b m) (hn:ak a=true) (hk:ak b=true) (IQ:a.ids.length<=17592186044416) (IR:b.ids.length<=17592186044416):
  Calls Tryz.prog 121 #[.agg #[ve,vi,vn],.agg #[we,wi,wn],vm] w fun e w'=>e=.returned (.bool true)/\Below w.heap.size w w':=by
 obtain⟨w0,bQ⟩:∃z,z=(w.alloc (.cells #[ve,vi,vn] 27)).alloc (.cells #[we,wi,wn] 27):=⟨_,rfl⟩
 have aU:ab w w0:=by rw[bQ];exact ad _ (ad _ (aa _))
 have Mi:=zh (ha.keep aU.below);have Kq:=zh (hb.keep aU.below);have HM:=zh (hm.keep aU.below);obtain⟨⟨A,c,rfl,-,-,-⟩,⟨A2,c2,rfl,-,-,-⟩,⟨A3,c3,rfl,-,-,-⟩⟩:=ha;obtain⟨⟨B,d,rfl,-,-,-⟩,⟨B2,d2,rfl,-,-,-⟩,⟨B3,d3,rfl,-,-,-⟩⟩:=hb;obtain⟨AM,cm,rfl,-,-,-⟩:=hm
 have Nq:=zh (ae (w0:=w0) (p:=⟨w.heap.size,0,none⟩) (v:=.slice A a.ends.length c) (by rw[bQ];simp))
 have QU:=zh (ae (w0:=w0) (p:=⟨w.heap.size,1,none⟩) (v:=.slice A2 a.ids.length c2) (by rw[bQ];simp))
 have Nr:=zh (ae (w0:=w0) (p:=⟨w.heap.size,2,none⟩) (v:=.slice A3 a.acn.length c3) (by rw[bQ];simp))
 have Kr:=zh (ae (w0:=w0) (p:=⟨w.heap.size+1,0,none⟩) (v:=.slice B b.ends.length d) (by rw[bQ];simp))
 have Pd:=zh (ae (w0:=w0) (p:=⟨w.heap.size+1,1,none⟩) (v:=.slice B2 b.ids.length d2) (by rw[bQ];simp))
 have Mj:=zh (ae (w0:=w0) (p:=⟨w.heap.size+1,2,none⟩) (v:=.slice B3 b.acn.length d3) (by rw[bQ];simp))
 have jj:=zh aU;have bS:=zh bQ;have Hp:=zh hp;have Hn:=zh hn;have Hk:=zh hk;have Yq:=zh IQ;have Yr:=zh IR;have q0:=Nq.out w0 (aa _);have q1:=QU.out w0 (aa _);have q2:=Nr.out w0 (aa _);clear aU bQ hp hn hk IQ IR
 go_enter Tryz.func121,Tryz.ntmps121
 go_upto_region 1 with(fail);rw[<- bS.out];go_wp2_with fail;refine(ec _ _ _ a w0 Mi.out Yq.out).mono ?_;rw[Hn.out];rintro e w1 ⟨rfl,aN⟩;have dM:=zh (show ab w0 w1 from aN);clear aN q0 q1 q2;have q0:=Kr.out w1 dM.out;have q1:=Pd.out w1 dM.out;have q2:=Mj.out w1 dM.out;go_wp2_with fail;refine(ec _ _ _ b w1 (Kq.out.keep dM.out.below) Yr.out).mono ?_;rw[Hk.out];rintro e w2 ⟨rfl,bx⟩;have cW:=zh (dM.out.after (show ab w1 w2 from bx));clear bx q0 q1 q2;have q0:=Kr.out w2 cW.out;have q1:=Pd.out w2 cW.out;have q2:=Mj.out w2 cW.out;have r0:=Nq.out w2 cW.out;have r1:=QU.out w2 cW.out;have r2:=Nr.out w2 cW.out;go_wp2_with fail;refine(oT _ _ _ _ _ _ _ a b m w2 (Mi.out.keep cW.out.below) (Kq.out.keep cW.out.below) (HM.out.keep cW.out.below) Hp.out Hn.out Hk.out).mono ?_;rintro e w3 ⟨rfl,bB⟩;have gZ:=zh (cW.out.after (show ab w2 w3 from bB));clear bB q0 q1 q2 r0 r1 r2;go_wp2;go_ret;exact⟨rfl,Below.trans jj.out.below (gZ.out.below.mono jj.out.below.size)⟩
def nj (l m:List Int):List Int:=m.map fun x=>l.getD x.toNat 0
theorem Ks (l:List Int):nj l (mh l.length)=l++l:=by
 have h:(fQ l.length).map (fun x=>l.getD x.toNat 0)=l:=by
  unfold fQ;rw[List.map_map];apply List.ext_getElem?
  intro k;rw[List.getElem?_map]
  by_cases hk:k<l.length
  ·rw[List.getElem?_range hk,List.getElem?_eq_getElem hk];show some (l.getD k 0)=_
   rw[zDd,List.getElem?_eq_getElem hk];rfl
  ·rw[List.getElem?_eq_none (by simpa using hk),List.getElem?_eq_none (by omega)];rfl
 unfold nj mh
 rw[List.map_append,h]
theorem wO (ve vi vn we wi wn vm vl:Value) (a b:aj) (m l:List Int) (w:World) (ha:aC w ve vi vn a) (hb:aC w we wi wn b) (hm:aO w vm m) (hl:aO w vl l) (hp:PM a b m) (hn:ak a=true) (hk:ak b=true) (IQ:a.ids.length<=17592186044416) (IR:b.ids.length<=17592186044416) (FH:l.length=b.ends.length):
  Calls Tryz.prog 47 #[.agg #[ve,vi,vn],.agg #[we,wi,wn],vm,vl] w fun e w'=>∃u,e=.returned (.tuple #[u,.bool true])/\Own w' w.heap.size u (nj l m)/\Below w.heap.size w w':=by
 obtain⟨w0,bQ⟩:∃z,z=(w.alloc (.cells #[ve,vi,vn] 27)).alloc (.cells #[we,wi,wn] 27):=⟨_,rfl⟩
 have aU:ab w w0:=by rw[bQ];exact ad _ (ad _ (aa _))
 have Mi:=zh (ha.keep aU.below);have Kq:=zh (hb.keep aU.below);have HM:=zh (hm.keep aU.below);have HL:=zh (hl.keep aU.below);obtain⟨⟨A,c,rfl,-,-,-⟩,⟨A2,c2,rfl,-,-,-⟩,⟨A3,c3,rfl,-,-,-⟩⟩:=ha;obtain⟨⟨B,d,rfl,-,-,-⟩,⟨B2,d2,rfl,-,-,-⟩,⟨B3,d3,rfl,-,-,-⟩⟩:=hb;obtain⟨AM,cm,rfl,hmc,UP,-⟩:=hm;obtain⟨AL,cl,rfl,fg,UO,-⟩:=hl;unfold maxLen at UP UO
 have Nq:=zh (ae (w0:=w0) (p:=⟨w.heap.size,0,none⟩) (v:=.slice A a.ends.length c) (by rw[bQ];simp))
 have QU:=zh (ae (w0:=w0) (p:=⟨w.heap.size,1,none⟩) (v:=.slice A2 a.ids.length c2) (by rw[bQ];simp))
 have Nr:=zh (ae (w0:=w0) (p:=⟨w.heap.size,2,none⟩) (v:=.slice A3 a.acn.length c3) (by rw[bQ];simp))
 have Kr:=zh (ae (w0:=w0) (p:=⟨w.heap.size+1,0,none⟩) (v:=.slice B b.ends.length d) (by rw[bQ];simp))
 have Pd:=zh (ae (w0:=w0) (p:=⟨w.heap.size+1,1,none⟩) (v:=.slice B2 b.ids.length d2) (by rw[bQ];simp))
 have Mj:=zh (ae (w0:=w0) (p:=⟨w.heap.size+1,2,none⟩) (v:=.slice B3 b.acn.length d3) (by rw[bQ];simp))
 have Fk:=hp.len;have Fp:=aB hn;have jj:=zh aU;have mA:Hid (w.heap.size<=w0.heap.size):=aU.below.size;have bS:=zh bQ;have Hp:=zh hp;have Hn:=zh hn;have Hk:=zh hk;have Yq:=zh IQ;have Yr:=zh IR;have Ny:=zh FH;have UQ:=zh Fk;have q0:=Nq.out w0 (aa _);have q1:=QU.out w0 (aa _);have q2:=Nr.out w0 (aa _);have r0:=Kr.out w0 (aa _);have r1:=Pd.out w0 (aa _);have r2:=Mj.out w0 (aa _);have HC:=zh (GY _ _ _ _ _ _ _ a b m w0 Mi.out Kq.out HM.out hp hn hk IQ IR);obtain⟨M,hM⟩:∃M,m.length=M:=⟨_,rfl⟩
 rw[hM]at HC hmc;rw[hM,FH];rw[FH]at fg;have UT:=zh hM;have hMl:M<=40:=by omega
 clear aU bQ hp hn hk IQ IR FH Fk hM
 go_enter Tryz.func47,Tryz.ntmps47
 go_upto_region 1 with(fail);rw[<- bS.out];go_wp2_with fail;refine HC.out.mono ?_;rintro e w1 ⟨rfl,aN⟩;have dM:=zh (show ab w0 w1 from aN);clear aN q0 q1 q2 r0 r1 r2;have r0:=Kr.out w1 dM.out;go_wp2
 go_loopw [10,28] (fun u i wr=>∃k:Nat,k<=M/\i=.int .i64 k/\Own wr w0.heap.size u (nj l (m.take k))/\ab w0 wr) (fun _ i _=>M-(intOf i).toNat)
 case atStart=>exact⟨0,Nat.zero_le _,rfl,bU _ _,dM.out⟩
 case round=>
  obtain⟨k,hk,rfl,ho,hs⟩:=hrel;have Ho:=zh ho;have Hs:=zh hs;clear ho hs
  by_cases az:k<M
  ·have m3:IntKind.i64.wrap ((k:Int)+1)=(k:Int)+1:=aH _ (by omega) (by omega)
   obtain⟨x0,lp⟩:=aA m k (by have:=UT.out;omega)
   have n9:=Hp.out.rng x0 (List.mem_of_getElem? lp);obtain⟨x,rfl⟩:=Int.eq_ofNat_of_zero_le n9.1
   obtain⟨y,hy⟩:=aA l x (by have:=Ny.out;omega)
   obtain⟨_,_,eM,-,-,UU⟩:=HM.out;cases eM;obtain⟨bm,om,rfl,Pc⟩:=UU k _ lp;obtain⟨_,_,eL,-,-,hLl⟩:=HL.out;cases eL;obtain⟨bl,ol,rfl,hcL⟩:=hLl x _ hy;have d1:=ae Pc wr Hs.out;have d2:=ae hcL wr Hs.out;have IS:=n9.2
   have pP:Hid (nj l (m.take (k+1))=nj l (m.take k)++[y]):=by
    show _=_
    rw[aV lp];unfold nj;rw[List.map_append];show _++[l.getD x 0]=_
    rw[ao hy]
   have dz:Hid ((nj l (m.take k)).length+1<=17592186044416):=by show _<=_;unfold nj;simp;omega
   clear lp n9 hy UU hLl Pc hcL
   go_wp2_with (at_builtin;refine c_ rfl _ _ rfl rfl (Ho.out.since (ad _ (aa _))) wr.heap.size y rfl (by simp[go_sem]) dz.out (ad _ Hs.out) ?_;intro g cx w4 mW zI)
   go_roundw
   case rel=>exact⟨k+1,by omega,by first | rfl | go_num,by rw[pP.out];simpa using mW,zI⟩
   case measure=>simp[intOf];omega
  ·obtain rfl:k=M:=by omega
   obtain⟨AU,cU,rfl,-,-,-⟩:=id Ho.out.ints;go_wp2;refine bodyPost_ret (v:=.tuple #[.slice AU (nj l (m.take k)).length cU,.bool true]) (by simp[results,Tryz.results47,go_sem, *]) rfl ?_;refine⟨_,rfl,?_,?_⟩
   ·have h7:=Ho.out
    have e9:m.take k=m:=by rw[<- UT.out];exact List.take_length
    rw[e9]at h7 ⊢;exact Own.mono h7 mA.out
   ·exact Below.trans jj.out.below (Hs.out.below.mono mA.out)
theorem rP (n:aj):(bW n).length=n.ends.length:=by simp[bW]
theorem uN (n:aj) (k:Nat):(List.range (k+1)).map (fun v=>(am n v:Int))=(List.range k).map (fun v=>(am n v:Int))++[(am n k:Int)]:=by rw[List.range_succ,List.map_append];rfl
theorem iC (ve vi vn:Value) (n:aj) (w:World) (h:aC w ve vi vn n) (hn:ak n=true):
  Calls Tryz.prog 164 #[.agg #[ve,vi,vn]] w fun e w'=>∃u,e=.returned u/\Own w' w.heap.size u (bW n)/\Below w.heap.size w w':=by
 have gT:=aB hn;have ul:=gT.1;have uq:=gT.2;have Hn:=zh hn
 obtain⟨w0,A,c,A2,c2,A3,c3,rfl,rfl,rfl,fg,hm,f8,fP,HA,bS,aT,H,dP,d9,dV⟩:=zB h;clear h
 have aU:ab w0 w0:=aa _;clear hn gT;unfold bW
 go_enter Tryz.func164,Tryz.ntmps164
 go_upto_region 1 with(fail);rw[<- bS.out];go_wp2
 go_loopw [3,8] (fun u i wr=>∃k:Nat,k<=n.ends.length/\i=.int .i64 k/\Own wr w0.heap.size u ((List.range k).map fun v=>(am n v:Int))/\ab w0 wr) (fun _ i _=>n.ends.length-(intOf i).toNat)
 case atStart=>exact⟨0,Nat.zero_le _,rfl,by simpa using bU _ w0.heap.size,aU⟩
 case round=>
  obtain⟨k,hk,rfl,ho,bG⟩:=hrel;have Ho:=zh ho;have Hs:=zh bG;clear ho aU
  by_cases az:k<n.ends.length
  ·have m3:IntKind.i64.wrap ((k:Int)+1)=(k:Int)+1:=aH _ (by omega) (by omega)
   have dz:Hid (((List.range k).map fun v=>(am n v:Int)).length+1<=17592186044416):=by show _<=_;simp;omega
   have kG:=zh (uN n k);go_wp2_with fail;refine(DD _ _ _ n k 40 wr (H.out.keep Hs.out.below) Hn.out az).mono ?_;rintro e w2 ⟨u2,rfl,cZ,bx⟩;have hl:=uj Hn.out az
   obtain⟨gd,m,cd,rfl,hm⟩:∃gd m cd,u2=.slice (some ⟨gd,0,none⟩) m cd/\0<m:=by
    rcases cZ.cases with⟨-,e1⟩ | ⟨gd,cd,rfl,kE,l7⟩
    ·rw[e1]at hl;cases hl
    ·refine⟨gd,_,cd,rfl,?_⟩
     cases hq:eK n k 40 n.ends.length with
     | nil=>rw[hq]at hl;cases hl
     | cons a b=>simp
   obtain⟨y,hy⟩:∃y,y=(am n k:Int):=⟨_,rfl⟩
   rw[<- hy]at hl kG;have JM:=cZ.cell hl;have ru:(0:Int)<m:=by omega
   have cW:=zh (Hs.out.after bx);have fG:=zh (Ho.out.since bx);have Hy:=zh hy;clear cZ bx hl bG hy
   go_wp2_with (at_builtin;refine c_ rfl _ _ rfl rfl (fG.out.since (ad _ (aa _))) w2.heap.size y rfl (by simp[go_sem]) dz.out (ad _ cW.out) ?_;intro g cc w3 ex jJ)
   have jy:=zh ex;have gZ:=zh jJ;clear ex jJ;go_wp2;go_roundw
   case rel=>exact⟨k+1,by omega,by first | rfl | go_num,by rw[kG.out];have:=jy.out;simpa using this,gZ.out⟩
   case measure=>simp[intOf];omega
  ·obtain rfl:k=n.ends.length:=by omega
   clear hk az;go_wp2;go_ret;exact⟨_,rfl,Ho.out.mono aT.out.size,ab.after aT.out Hs.out⟩
def UV (B:Nat):Nat->Nat->List Nat
 | 0,_=>[]
 | n+1,k=>k%B::UV B n (k/B)
def aah (ds:List Nat):List Int:=(ds.map fun (x:Nat)=>(x:Int)).reverse
def FI (B n k:Nat):List Int:=aah (UV B n k)
def D7 (aJ:Int):Nat->Option Int
 | 0=>some 1
 | n+1=>match D7 aJ n with
  | none=>none
  | some c=>if 20000<=aJ\/20000<c*(aJ+1) then none else some (c*(aJ+1))
theorem aX.since {S:List Nat} {w0 W W':World} (h:ab w0 W) (ho:aX S W W') (hs:∀k∈S,w0.heap.size<=k):ab w0 W':=Below.trans h (ho.below _ h.below.size hs)
def aai (n:aj) (s aJ:Int):Bool:=ak n&&fF 1 5 s&&fF 0 999999999999 aJ
def D8 (aJ:Int) (n:Nat):Int:=(D7 aJ n).getD (-1)
def Kt (n:aj) (s:Int) (B:Nat):Nat->Nat
 | 0=>0
 | k+1=>Kt n s B k+if (kt n s (FI B n.ends.length k)).length=0 then 1 else 0
def fp (n:aj) (s aJ:Int):Bool:=aai n s aJ&&(D7 aJ n.ends.length).isSome
def fq (n:aj) (s aJ:Int):Int:=if fp n s aJ then (Kt n s (aJ.toNat+1) (D8 aJ n.ends.length).toNat:Int) else 0
def y6 (n:aj) (s:Int) (B:Nat):Nat->Nat×List Int
 | 0=>(n.ends.length+1,[])
 | k+1=>if (kt n s (FI B n.ends.length k)).length<(y6 n s B k).1 then ((kt n s (FI B n.ends.length k)).length,FI B n.ends.length k) else y6 n s B k
def eZ (n:aj) (s aJ:Int):Int:=if fp n s aJ then ((y6 n s (aJ.toNat+1) (D8 aJ n.ends.length).toNat).1:Int) else 0
def ft (n:aj) (s aJ:Int):List Int:=if fp n s aJ then (y6 n s (aJ.toNat+1) (D8 aJ n.ends.length).toNat).2 else []
end Go.Proofs.YtgmdpppljkmabaaGreat
