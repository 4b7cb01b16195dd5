/- Parts of the proof: walks of functions and plain laws. -/
import Derived.Test.YtnioemnkfojmkaaGreatP16
set_option maxRecDepth 100000
set_option maxHeartbeats 16000000
namespace Go.Proofs.YtnioemnkfojmkaaGreat
open Go Go.RowKit
theorem WQ (b:Bool) (w:World):Calls Tryz.prog 193 #[.bool b] w fun e w'=>∃y:Int,(0<=y/\y<=7)/\e=.returned (.int .i64 y)/\w=w':=(Tc b w).mono fun _ _ ⟨h1,h2⟩=>⟨_,by cases b <;> decide,h1,h2⟩
def aT (W:World) (pb:Nat) (L D:Int) (a b:Value):Prop:=W.heap[pb]?=some (.cells #[.int .i64 L,.int .i64 D,a,b] 26 (0,0))
theorem aT.cells {W:World} {pb:Nat} {L D:Int} {a b:Value} (h:aT W pb L D a b):W.cell? ⟨pb,0,none⟩=some (.int .i64 L)/\W.cell? ⟨pb,1,none⟩=some (.int .i64 D)/\W.cell? ⟨pb,2,none⟩=some a/\W.cell? ⟨pb,3,none⟩=some b:=by
 unfold aT at h
 refine⟨?_,?_,?_,?_⟩ <;> simp[World.cell?,h]
theorem aT.agU {W W':World} {pb:Nat} {L D:Int} {a b:Value} (h:aT W pb L D a b) (hs:ab W W'):aT W' pb L D a b:=by
 have aA:pb<W.heap.size:=by
  by_cases aA:pb<W.heap.size
  ·exact aA
  ·unfold aT at h;rw[Array.getElem?_eq_none zO]at h;cases h
 unfold aT;rw[hs.below.block _ aA];exact h
theorem aT.aho {W:World} {pb:Nat} {L D:Int} {a b:Value} (h:aT W pb L D a b) (u:Value):aT (W.setCell ⟨pb,2,none⟩ u) pb L D u b:=by
 unfold aT at h ⊢
 simp[World.setCell,Zbf,h]
theorem Lv (d:Nat) (w:World) (hd:1<=d/\d<=4):
  Calls Tryz.prog 163 #[.int .i64 d] w fun e w'=>vE d w e w':=by
 obtain⟨w0,bj⟩:=J_ (w.alloc (.cells #[.int .i64 0,.int .i64 0,.slice none 0 0,.slice none 0 0] 26))
 have aK:ab w w0:=by rw[bj];exact ad _ (aa _)
 have Ap:Hid (∀X,ab w0 X->aT X w.heap.size 0 0 (.slice none 0 0) (.slice none 0 0)):=fun X hX=>by
  have h1:aT w0 w.heap.size 0 0 (.slice none 0 0) (.slice none 0 0):=by
   unfold aT;rw[bj];show(w.heap.push _)[w.heap.size]?=_
   rw[Zbc]
  exact h1.agU hX
 obtain⟨cD,ic⟩:=A_ bj aK;have cH:=gA (d:Int) 1 4 w0;rw[show jK 1 4 (d:Int)=true from aB.2 ⟨zO,zO⟩]at cH
 have wE:=zh cH
 have kR:Hid (w.heap.size<w0.heap.size):=by show _<_;rw[bj];simp
 clear bj aK cH
 go_enter Tryz.func163,Tryz.ntmps163
 go_upto_region 1 with(fail);rw[<- cD.out];go_wp2_with fail;refine wE.mono ?_;rintro e w0' ⟨rfl,rfl⟩;go_upto_region 4 with(fail);obtain⟨a2,YJ⟩:=J_ ((w0.alloc (.cells #[.int .i64 0,.int .i64 1] 3)).alloc (.cells #[.slice (some ⟨w0.heap.size,0,none⟩) 2 2] 28))
 have he:cS a2 w0.heap.size (fun j=>j<a2.heap.size) (.slice (some ⟨w0.heap.size+1,0,none⟩) 1 1) [[0,1]]:=by
  have o1:=dS w0 [0,1] (by simp[maxLen])
  have o2:=(wY (w0.alloc (.cells #[.int .i64 0,.int .i64 1] 3)) w0.heap.size _ _ o1 zS).bound.mono (T':=fun j=>j<a2.heap.size) (Zaj _) (fun j h=>by rw[YJ];exact h.2.2)
  rw[show(w0.alloc (.cells #[.int .i64 0,.int .i64 1] 3)).heap.size=w0.heap.size+1 by simp]at o2
  rw[YJ];rw[YJ]at o2;exact o2
 have CN:a2.heap.size=w0.heap.size+1+1:=by rw[YJ];simp
 have wX:ab w0 a2:=by rw[YJ];exact ad _ (ad _ (aa _))
 obtain⟨eb,tG⟩:=J_ (w0.heap.size+1)
 rw[<- YJ,<- tG];rw[<- tG]at he CN;obtain⟨pb,dV⟩:=J_ (eb+1)
 rw[<- dV];rw[<- dV]at CN;obtain⟨HE,nu,WH⟩:=B_ he CN wX;obtain⟨w1,lD⟩:=J_ (a2.alloc (.cells #[.int .i64 2,.int .i64 d,.slice none 0 0,.slice (some ⟨eb,0,none⟩) 1 1] 26))
 have VN:Hid (aT w1 pb 2 d (.slice none 0 0) (.slice (some ⟨eb,0,none⟩) 1 1)):=by
  show aT _ _ _ _ _ _
  unfold aT;rw[lD,<- CN];show(a2.heap.push _)[a2.heap.size]?=_
  rw[Zbc]
 have qF:Hid (ab a2 w1):=by show ab _ _;rw[lD];exact ad _ (aa _)
 have aau:Hid (w1.heap.size=pb+1):=by show _=_;rw[lD];simp[CN]
 rw[<- lD];clear he CN wX tG dV YJ lD;go_upto_region 5 with(fail)
 go_loopw [5] (fun i wr=>∃(k:Nat) (a:Value) (l:List (List Int)),1<=k/\k<=d+1/\i=.int .i64 k/\cS wr (pb+1) (fun j=>pb+1<=j) a l/\l.length+1<=k/\(∀y∈l,lj d y)/\aT wr pb 2 d a (.slice (some ⟨eb,0,none⟩) 1 1)/\ab a2 wr/\pb+1<=wr.heap.size) (fun i _=>d+1-(intOf i).toNat)
 case atStart=>exact⟨1,_,[],zO,zO,rfl,mm _ _ _,zS,zS,VN,qF,by rw[aau.out];omega⟩
 case round=>
  obtain⟨k,a,l,lW,sV,rfl,hr,hl,hy,hb,hs,hz⟩:=hrel;obtain⟨wo,rfl⟩:=J_ wr
  obtain⟨A,c,rfl,-,-⟩:=id hr.form;obtain⟨Hr,Hl,Hy,Hb,Hs,Hz⟩:=E_ hr hl hy hb hs hz;clear hr hl hy hb hs hz
  by_cases aA:k<=d
  ·go_upto_region 9 with(fail)
   go_loopw [6,7] (fun x i wr=>∃(q:Nat) (xs:List Int),q<=d/\i=.int .i64 q/\xs.length=q/\(∀z∈xs,0<=z/\z<=7)/\Own wr wo.heap.size x xs/\ab wo wr) (fun _ i _=>d-(intOf i).toNat)
   case atStart=>exact⟨0,[],Zac _,rfl,rfl,zS,fA _ _,aa _⟩
   case round=>
    obtain⟨q,xs,hq,rfl,ou,CS,ho,tD⟩:=hrel;obtain⟨A1,c1,rfl,-,-,-⟩:=id ho.ints;obtain⟨md,QO,Ho,Fg⟩:=C_ ou CS ho tD
    have jb:Hid (xs.length+1<=17592186044416):=by show _<=_;omega
    clear ou CS ho tD
    by_cases hqd:q<d
    ·go_wp2_with (first | (go_at_call 193;refine(WQ _ _).mono ?_;rintro e w2 ⟨y,Iy,rfl,rfl⟩;have Vj:=zh Iy;clear Iy) | (at_builtin;refine oP rfl _ _ rfl rfl (Ho.since (ad _ (aa _))) wr.heap.size y rfl (by simp[go_sem]) jb (ad _ Fg) ?_;intro g2 c2 w2 dD fH;have mg:=zh dD;have eU:=zh fH;clear dD fH))
     go_roundw
     exact⟨q+1,xs++[y],zO,zM,by simp[md.out],fun z hz=>by rcases Zar.1 hz with h | h;exact QO z h;simp at h;rw[h];exact Vj,by simpa using mg.out,eU.out⟩
     simp[intOf];omega
    ·obtain rfl:q=d:=zO
     have uZ:=zh (Hb.out.agU Fg.out);obtain⟨d0,d1,d2,d3⟩:=uZ.cells;have OP:Hid (pb+1<=wr.heap.size):=Zak Hz Fg.below.size
     have hpi:=vD (.slice A l.length c) (.slice A1 xs.length c1) l xs (pb+1) (fun j=>pb+1<=j) wr (Hr.out.since Fg.out) (Own.mono Ho.out Hz.out) (zX Hl.out) OP.out (fun j hj=>Zak OP.out hj) (fun j hj=>Zak Hz.out (Zad Ho.out j hj).1) (fun z hz=>zX (QO.out z hz)) (fun y hy=>⟨by rw[(Hy.out y hy).1,md.out],fun z hz=>zX ((Hy.out y hy).2 z hz)⟩)
     have Hpi:=zh hpi;clear hpi
     go_wp2_with (go_at_call 120;refine Hpi.mono ?_;rintro e w2 ⟨r,rfl,pP,aS⟩;obtain⟨A2,c2,rfl,-,-⟩:=id pP.form;have NT:=zh pP;have oN:=zh aS;clear pP aS;have aav:=zh (uZ.out.agU (show ab wr w2 from oN.out));obtain⟨e0,e1,e2,e3⟩:=aav.cells;have f2:=frozen_of_row w2 pb 2 _ _ aav)
     go_roundw
     exact⟨k+1,_,tT l xs,zO,zO,zM,NT.out.agV (fun j q1 q2 q3=>Zan _ _ _ j (by simp;omega)),zY (Iv l xs) Hl.out,fun y hy=>(Iu hy).elim (Hy.out y) (fun e=>by rw[e];exact⟨md.out,QO.out⟩),aav.out.aho _,((Hs.out.after Fg.out).after (show ab wr w2 from oN.out)).below.setCell (by rw[nu.out];exact Zaj _) _,by rw[iC];exact Zak OP oN.size⟩
     simp[intOf];omega
  ·have hkd:((k:Int)<=d)=False:=by simp;omega
   have Cx:=zh (WH.out.after Hs.out);have Te:=zh (Ap.out wo Cx.out);obtain⟨d0,d1,d2,d3⟩:=Te.cells;obtain⟨e0,e1,e2,e3⟩:=Hb.cells;have f0:=frozen_of_row wo _ 0 _ _ Te;have f1:=frozen_of_row wo _ 1 _ _ Te;have f2:=frozen_of_row wo _ 2 _ _ Te;have f3:=frozen_of_row wo _ 3 _ _ Te;have Hk:Hid (Below w.heap.size w wo):=ab.after ic.below Cx
   have HP:Hid (fY wo w0.heap.size (.slice A l.length c) (.slice (some ⟨eb,0,none⟩) 1 1) ⟨2,d,l,[[0,1]]⟩):=
    ⟨_,_,Hr.out.mono (zY nu.out WH.out.below.size) (fun _ h=>h),HE.out.since Hs.out,fun j h1 h2=>zX nu.out⟩
   go_wp2;refine bodyPost_ret (v:=.tuple #[.agg #[.int .i64 2,.int .i64 d,.slice A l.length c,.slice (some ⟨eb,0,none⟩) 1 1],.bool true]) (by simp[results,Tryz.results163,go_sem, *]) rfl ?_
   refine⟨_,_,⟨2,d,l,[[0,1]]⟩,rfl,(fY.agV HP.out fun j q1 q2=>?_).mono (Zcd kR.out),⟨⟨zS,zS⟩,rfl,⟨by have:=Hl.out;show l.length<=20;omega,Hy.out⟩,⟨zS,fun y hy=>?_⟩⟩,(((Hk.out.setCell zS _).setCell zS _).setCell zS _).setCell zS _⟩
   ·have q3:=kR.out;rw[Zan _ _ _ j (by simp;omega),Zan _ _ _ j (by simp;omega),Zan _ _ _ j (by simp;omega),Zan _ _ _ j (by simp;omega)]
   ·simp at hy;subst hy;exact sJ (by decide) (by decide)
def nw (W:World) (B:Nat) (a b:Value) (l m:List (List Int)):Prop:=∃TN TE:Nat->Prop,cS W B TN a l/\cS W B TE b m/\∀j,TN j->¬TE j
theorem nw.swap {W:World} {B:Nat} {a b:Value} {l m:List (List Int)} (h:nw W B a b l m):nw W B b a m l:=by
 obtain⟨TN,TE,h1,h2,h3⟩:=h;exact⟨TE,TN,h2,h1,fun j x y=>h3 j y x⟩
theorem nw.agV {W W':World} {B:Nat} {a b:Value} {l m:List (List Int)} (h:nw W B a b l m) (hk:∀j,B<=j->j<W.heap.size->W'.heap[j]?=W.heap[j]?):nw W' B a b l m:=by
 obtain⟨TN,TE,h1,h2,h3⟩:=h;exact⟨TN,TE,h1.agV fun j _=>hk j,h2.agV fun j _=>hk j,h3⟩
theorem Iz {w:World} {ops:Array Oper} {rest:List Oper} {o:Oper} {a:Act} {Q:Exit->Act->World->Prop} (gT:o.guard=none) (s x:Operand)
  (ho:o.op=.call { callee:=.builtin .append,args:=#[s,x],argTypes:=#[24,24] }) {w0:World} {B:Nat} {v v2:Value} {l m:List (List Int)} (hs:a.eval s=v) (h:nw w0 B v v2 l m) (kj:ab w0 w)
  (b:Nat) (u:Value) (y:List Int) (hx:a.eval x=.slice (some ⟨b,0,none⟩) 1 1) (hc:w.cell? ⟨b,0,none⟩=some u) (hu:Own w w0.heap.size u y) (hl:l.length+1<=1000000) (Aa:B<=w0.heap.size)
  (k:∀g cap w',nw w' B (.slice (some ⟨g,0,none⟩) (l.length+1) cap) v2 (l++[y]) m->Below B w w'->w.heap.size<=w'.heap.size->wpList Tryz.prog ops Q rest (a.put o.dst (.slice (some ⟨g,0,none⟩) (l.length+1) cap)) w'):wpList Tryz.prog ops Q (o::rest) a w:=by
 obtain⟨TN,TE,h1,h2,h3⟩:=h;have hz:w0.heap.size<=w.heap.size:=kj.below.size;have QD:=(h1.bound.since kj).mono (T':=fun j=>(TN j/\j<w0.heap.size)\/w0.heap.size<=j) (Zaj _) (fun j h=>.inl ⟨h.1,h.2.2⟩)
 have Zq:=h2.bound.since kj;have aI:∀j,v.ownBlock=some j->B<=j/\j<w0.heap.size:=fun j hj=>h1.lt hj
 refine sF gT s x ho hs QD b u y hx hc ⟨Own.mono hu Aa,fun j hj=>⟨fun e=>?_,.inr (Zad hu j hj).1⟩⟩ hl zO (fun j hj=>.inr zO) ?_
 ·have:=(aI j e).2
  have:=(Zad hu j hj).1
  omega
 intro g cap w' q1 q2 q3 q4;refine k g cap w' ⟨_,_,q1,Zq.agV (fun j q5 q6 q7=>?_),fun j q5 q6=>?_⟩ q4 q2.size
 ·refine q2.block j q7 (fun e=>?_)
  have hT:TN j:=by
   obtain⟨vs,-,-,r4,-⟩:=h1;exact r4 j e.symm
  exact h3 j hT q5.1
 ·rcases q5 with q5 | q5
  ·exact h3 j q5.1 q6.1
  ·omega
theorem aT.agX {W:World} {pb:Nat} {L D:Int} {a b:Value} (h:aT W pb L D a b) (u:Value):aT (W.setCell ⟨pb,3,none⟩ u) pb L D a u:=by
 unfold aT at h ⊢
 simp[World.setCell,Zbf,h]
theorem aT.below {W W':World} {pb:Nat} {L D:Int} {a b:Value} (h:aT W pb L D a b) (hs:Below (pb+1) W W'):aT W' pb L D a b:=by
 unfold aT;rw[hs.block pb zO];exact h
theorem Lw (d k:Nat) (w:World) (hd:1<=d/\d<=4) (hk:1<=k/\k<=4):
  Calls Tryz.prog 162 #[.int .i64 d,.int .i64 k] w fun e w'=>vE d w e w':=by
 obtain⟨w0,bj⟩:=J_ (w.alloc (.cells #[.int .i64 0,.int .i64 0,.slice none 0 0,.slice none 0 0] 26))
 have aK:ab w w0:=by rw[bj];exact ad _ (aa _)
 have Ap:Hid (∀X,ab w0 X->aT X w.heap.size 0 0 (.slice none 0 0) (.slice none 0 0)):=fun X hX=>by
  have h1:aT w0 w.heap.size 0 0 (.slice none 0 0) (.slice none 0 0):=by
   unfold aT;rw[bj];show(w.heap.push _)[w.heap.size]?=_
   rw[Zbc]
  exact h1.agU hX
 obtain⟨cD,ic⟩:=A_ bj aK;have cH:=gA (d:Int) 1 4 w0;rw[show jK 1 4 (d:Int)=true from aB.2 ⟨zO,zO⟩]at cH
 have aaw:=gA (k:Int) 1 8 w0;rw[show jK 1 8 (k:Int)=true from aB.2 ⟨zO,zO⟩]at aaw
 obtain⟨wE,aeI⟩:=A_ cH aaw
 have kR:Hid (w.heap.size<w0.heap.size):=by show _<_;rw[bj];simp
 clear bj aK cH aaw
 go_enter Tryz.func162,Tryz.ntmps162
 go_upto_region 1 with(fail);rw[<- cD.out];go_wp2_with fail;refine wE.mono ?_;rintro e w0' ⟨rfl,rfl⟩;go_wp2_with fail;refine aeI.mono ?_;rintro e w0' ⟨rfl,rfl⟩;go_upto_region 5 with(fail);obtain⟨pb,dV⟩:=J_ w0.heap.size
 obtain⟨w1,lD⟩:=J_ (w0.alloc (.cells #[.int .i64 k,.int .i64 d,.slice none 0 0,.slice none 0 0] 26))
 have VN:Hid (aT w1 pb k d (.slice none 0 0) (.slice none 0 0)):=by
  show aT _ _ _ _ _ _
  unfold aT;rw[lD,dV];show(w0.heap.push _)[w0.heap.size]?=_
  rw[Zbc]
 have aeJ:Hid (ab w0 w1):=by show ab _ _;rw[lD];exact ad _ (aa _)
 have aau:Hid (w1.heap.size=pb+1):=by show _=_;rw[lD];simp[dV]
 have dG:=zh dV;rw[<- lD,<- dV];clear lD dV
 go_loopw [7] (fun i wr=>∃(q:Nat) (a b:Value) (l m:List (List Int)),q<=k/\i=.int .i64 q/\nw wr (pb+1) a b l m/\l.length<=q/\m.length<=4*q/\(∀y∈l,lj d y)/\(∀y∈m,lj 2 y)/\aT wr pb k d a b/\ab w0 wr/\pb+1<=wr.heap.size) (fun i _=>k-(intOf i).toNat)
 case atStart=>exact⟨0,_,_,[],[],Zac _,rfl,⟨fun _=>False,fun _=>False,mm _ _ _,mm _ _ _,fun _ h=>h.elim⟩,zS,zS,zS,zS,VN,aeJ,by rw[aau.out];omega⟩
 case round=>
  obtain⟨q,a,b,l,m,hq,rfl,hr,hl,hm,hy,hz,hb,hs,fD⟩:=hrel
  obtain⟨A,c,rfl⟩:∃A c,a=.slice A l.length c:=by obtain⟨TN,TE,h1,-⟩:=hr;obtain⟨A,c,e,-⟩:=h1.form;exact⟨A,c,e⟩
  obtain⟨A2,c2,rfl⟩:∃A c,b=.slice A m.length c:=by obtain⟨TN,TE,-,h1,-⟩:=hr;obtain⟨A,c,e,-⟩:=h1.form;exact⟨A,c,e⟩
  obtain⟨Hr,Hl,Hm,Hy,Hz,Hb,Hs,nu⟩:=G_ hr hl hm hy hz hb hs fD;clear hr hl hm hy hz hb hs fD
  by_cases aA:q<k
  ·go_upto_region 7 with(fail)
   have xC:Hid (l.length+1<=1000000):=by show _<=_;have:=Hl.out;omega
   have K4:aT wr pb k d (.slice A l.length c) (.slice A2 m.length c2):=Hb;refine az (fun W=>aT W pb k d (.slice A l.length c) (.slice A2 m.length c2)) 8 [false,false,false,false,false,true,true,true] zK zK (show aT (World.drew wr) pb k d (.slice A l.length c) (.slice A2 m.length c2)from K4.agU (aj (aa _))) ?_
   simp only[ew,dM,zT]
   iterate 5 (apply bC rfl;(intro W hW;(have k0:=hW.cells.2.2.1);go_simp;with_reducible rfl);simp only[zA])
   obtain⟨W,dh⟩:=J_ (World.drew wr)
   rw[<- dh];have hW:=(show aT (World.drew wr) pb k d (.slice A l.length c) (.slice A2 m.length c2)from K4.agU (aj (aa _)));rw[<- dh]at hW;have fK:=zh dh;clear dh;refine Or.inl ⟨rfl,?_⟩
   go_simp
   (with_reducible refine(mn d q q W hd.1 hd.2).mono ?_)
   rintro e W' ⟨u5,rfl,qy,k8⟩;refine⟨_,rfl,(hW.agU (show ab W W' from k8)),?_⟩
   replace hW:=(hW.agU (show ab W W' from k8))
   obtain⟨A5,c5,rfl,-,-,-⟩:=id qy.ints
   have vR:Hid (Own W' wr.heap.size (.slice A5 (kM d q q).length c5) (kM d q q)):=(by show Own _ _ _ _;rw[fK.out]at qy;exact qy)
   have jF:Hid (ab wr W'):=(by show ab _ _;rw[fK.out]at k8;exact(aj (aa wr)).after k8)
   clear qy k8
   (try simp only[zA])
   refine ca (v:=?_) (ob:=?_) rfl ?_ ?_ ?_;rotate_left 2
   (go_simp;first | with_reducible rfl | (refine⟨?_,?_⟩ <;> with_reducible rfl))
   exact(hW.agU (ad _ (aa _)));intro w6 Fo Tf
   replace hW:=Tf
   clear Tf
   have MJ:Hid (Own w6 wr.heap.size (.slice A5 (kM d q q).length c5) (kM d q q)):=(by show Own _ _ _ _;rw[Fo];exact vR.since (ad _ (aa _)))
   have R3:Hid (w6.cell? ⟨W'.heap.size,0,none⟩=some (.slice A5 (kM d q q).length c5)):=(by show _=_;rw[Fo];simp)
   have C1:Hid (ab wr w6):=(by show ab _ _;rw[Fo];exact ad _ jF)
   clear Fo
   (try simp only[zA])
   refine dA (fun Q' HQ=>?_)
   (refine Iz rfl _ _ rfl rfl Hr C1 W'.heap.size _ _ rfl R3 MJ xC nu ?_);intro g9 Ly w9 gj lO Qh;have tU:Below (pb+1) wr w9:=Zbw (C1.below.mono nu) lO;refine HQ _ _ (Hb.below tU) ?_;obtain⟨yK,vC⟩:=A_ gj tU;have vW:Hid (pb+1<=w9.heap.size):=Zak nu (Zak C1.below.size Qh);replace hW:=Hb.below tU;clear gj lO Qh tU
   (try simp only[zA])
   simp only[bP];have uZ:=zh hW;obtain⟨d0,d1,d2,d3⟩:=hW.cells;have f2:=frozen_of_row w9 pb 2 _ _ hW;clear hW K4
   have wq:IntKind.i64.wrap ((q:Int)+1)=((q+1:Nat):Int):=by rw[bU _ zO zO];omega
   go_upto_region 9 with(fail);obtain⟨wo,R4⟩:=J_ (w9.setCell ⟨pb,2,none⟩ (.slice (some ⟨g9,0,none⟩) (l.length+1) Ly))
   have Hqo:Hid (nw wo (pb+1) (.slice (some ⟨g9,0,none⟩) (l.length+1) Ly) (.slice A2 m.length c2) (l++[kM d q q]) m):=by
    show nw _ _ _ _ _ _
    rw[R4]
    exact yK.out.agV fun j h1 h2=>Zan _ _ _ j (by simp;omega)
   have yF:Hid (aT wo pb k d (.slice (some ⟨g9,0,none⟩) (l.length+1) Ly) (.slice A2 m.length c2)):=by
    show aT _ _ _ _ _ _
    rw[R4];exact uZ.aho _
   have FQ:Hid (ab w0 wo):=by
    show ab _ _
    rw[R4]
    exact(Hs.below.trans (vC.mono (by rw[<- dG.out];omega))).setCell (by rw[dG.out];exact Zaj _) _
   have Hzo:Hid (pb+1<=wo.heap.size):=by show _<=_;rw[R4,iC];exact vW
   rw[<- R4];clear R4 d0 d1 d2 d3 f2 wq
   go_loopw [8] (fun i wr=>∃(s:Nat) (b:Value) (m2:List (List Int)),q+1<=s/\s<=k/\i=.int .i64 s/\nw wr (pb+1) (.slice (some ⟨g9,0,none⟩) (l.length+1) Ly) b (l++[kM d q q]) m2/\m2.length+1<=4*q+s/\(∀y∈m2,lj 2 y)/\aT wr pb k d (.slice (some ⟨g9,0,none⟩) (l.length+1) Ly) b/\ab w0 wr/\pb+1<=wr.heap.size) (fun i _=>k-(intOf i).toNat)
   case atStart=>exact⟨q+1,_,m,Zaj _,zO,zM,Hqo.out,zX Hm.out,Hz.out,yF.out,FQ.out,Hzo.out⟩
   case round=>
    obtain⟨s,b,m2,dw,fH,rfl,ho,UY,hmy,dK,YK,D9⟩:=hrel
    obtain⟨A3,c3,rfl⟩:∃A c,b=.slice A m2.length c:=by obtain⟨TN,TE,-,h1,-⟩:=ho;obtain⟨A,c,e,-⟩:=h1.form;exact⟨A,c,e⟩
    obtain⟨Ho,Hml,Hmy,aax,Hss,Hzz⟩:=E_ ho.swap UY hmy dK YK D9
    have aeK:Hid (m2.length+1<=1000000):=by show _<=_;omega
    clear ho UY hmy dK YK D9;obtain⟨d0,d1,d2,d3⟩:=aax.cells
    by_cases hsk:s<k
    ·have vZ:Hid (Own ((wr.alloc (.cells #[.int .i64 q,.int .i64 s] 3)).alloc (.cells #[.slice (some ⟨wr.heap.size,0,none⟩) 2 2] 28)) wr.heap.size (.slice (some ⟨wr.heap.size,0,none⟩) 2 2) [(q:Int),(s:Int)]):=(dS wr [(q:Int),(s:Int)] (by simp[maxLen])).since (ad _ (aa _))
     go_wp2_with (at_builtin;refine Iz rfl _ _ rfl rfl Ho (ad _ (ad _ (aa _))) (wr.heap.size+1) _ _ rfl (by simp[go_sem]) vZ aeK Hzz ?_;intro g5 agw w5 qy k8 hz5;have vR:=zh qy.swap;have Ct:Hid (Below (pb+1) wr w5):=Zbw ((ad _ (ad _ (aa wr))).below.mono Hzz) k8;have JC:Hid (pb+1<=w5.heap.size):=Zak (Zak Hzz (ad _ (ad _ (aa wr))).below.size) hz5;clear qy k8 hz5;have aay:=zh (aax.out.below Ct.out);obtain⟨e0,e1,e2,e3⟩:=aay.cells;have f3:=frozen_of_row w5 pb 3 _ _ aay)
     go_roundw
     exact⟨s+1,_,m2++[[(q:Int),(s:Int)]],zO,zO,zM,vR.out.agV (fun j h1 h2=>Zan _ _ _ j (by simp;omega)),by have:=Hml.out;simp;omega,fun y hy=>by rcases Zar.1 hy with h | h;exact Hmy y h;rw[Zbm]at h;rw[h];exact sJ zO zO,aay.agX _,(Hss.below.trans (Ct.mono (by rw[<- dG.out];omega))).setCell (by rw[dG.out];exact Zaj _) _,by rw[iC];exact JC⟩
     simp[intOf];omega
    ·obtain rfl:s=k:=zO
     go_wp2;go_roundw
     exact⟨q+1,_,_,l++[kM d q q],m2,zO,zM,Ho.out.swap,by have:=Hl.out;simp;omega,zX Hml.out,fun y hy=>by rcases Zar.1 hy with h | h;exact Hy y h;rw[Zbm]at h;rw[h];exact yU hd.1 zO zO,Hmy,aax,Hss,Hzz⟩
     simp[intOf];omega
  ·have hkd:((q:Int)<k)=False:=by simp;omega
   have Cx:=zh Hs.out;have Te:=zh (Ap.out wr Cx.out);obtain⟨d0,d1,d2,d3⟩:=Te.cells;obtain⟨e0,e1,e2,e3⟩:=Hb.cells;have f0:=frozen_of_row wr _ 0 _ _ Te;have f1:=frozen_of_row wr _ 1 _ _ Te;have f2:=frozen_of_row wr _ 2 _ _ Te;have f3:=frozen_of_row wr _ 3 _ _ Te;have Hk:Hid (Below w.heap.size w wr):=ab.after ic.below Cx
   have HP:Hid (fY wr w0.heap.size (.slice A l.length c) (.slice A2 m.length c2) ⟨k,d,l,m⟩):=by
    obtain⟨TN,TE,p1,p2,p3⟩:=Hr.out
    exact⟨TN,TE,p1.mono (by rw[<- dG.out];omega) (fun _ h=>h),p2.mono (by rw[<- dG.out];omega) (fun _ h=>h),p3⟩
   go_wp2;refine bodyPost_ret (v:=.tuple #[.agg #[.int .i64 k,.int .i64 d,.slice A l.length c,.slice A2 m.length c2],.bool true]) (by simp[results,Tryz.results162,go_sem, *]) rfl ?_
   refine⟨_,_,⟨k,d,l,m⟩,rfl,(fY.agV HP fun j q1 q2=>?_).mono (Zcd kR),⟨⟨by show(1:Int)<=k;omega,by show(k:Int)<=4;omega⟩,rfl,⟨by have:=Hl.out;show l.length<=20;omega,Hy.out⟩,⟨by have:=Hm.out;show m.length<=20;omega,Hz.out⟩⟩,(((Hk.out.setCell zS _).setCell zS _).setCell zS _).setCell zS _⟩
   ·have q3:=kR.out;rw[Zan _ _ _ j (by simp;omega),Zan _ _ _ j (by simp;omega),Zan _ _ _ j (by simp;omega),Zan _ _ _ j (by simp;omega)]
def acE (cb B:Nat) (A:Option Addr) (L c P d:Nat) (w:World) (e:Ending) (w':World):Prop:=∃a b p,e=.returned (.agg #[.int .i64 p.labels,.int .i64 p.degree,a,b])/\fY w' B a b p/\WP d p/\dj w' cb A L c P/\CB cb B w w'
theorem aT.lt {W:World} {pb:Nat} {L D:Int} {a b:Value} (h:aT W pb L D a b):pb<W.heap.size:=by
 by_cases aA:pb<W.heap.size
 ·exact aA
 ·unfold aT at h;rw[Array.getElem?_eq_none zO]at h;cases h
theorem aT.seen {W W':World} {cb pb:Nat} {L D:Int} {a b:Value} (h:aT W pb L D a b) (hs:bO cb W W') (hn:pb≠cb):aT W' pb L D a b:=by
 have:=h.lt
 unfold aT;rw[hs.block pb h.lt hn];exact h
theorem Lz (cb:Nat) (A:Option Addr) (L c P d:Nat) (w:World) (hc:dj w cb A L c P) (hP:P<=4611686018427000000) (hd:1<=d/\d<=4):
  Calls Tryz.prog 119 #[.pointer (some ⟨cb,0,none⟩),.int .i64 d] w (acE cb w.heap.size A L c (P+4) d w):=by
 have jW:=hc.lt;obtain⟨rb,gh⟩:=J_ w.heap.size
 obtain⟨w0,bj⟩:=J_ ((w.alloc (.cells #[.int .i64 0,.int .i64 0,.slice none 0 0,.slice none 0 0] 26)).alloc (.cells #[.int .i64 0,.int .i64 0,.slice none 0 0,.slice none 0 0] 26))
 have aK:ab w w0:=by rw[bj];exact ad _ (ad _ (aa _))
 have ks:aT w0 rb 0 0 (.slice none 0 0) (.slice none 0 0):=by
  have h1:aT (w.alloc (.cells #[.int .i64 0,.int .i64 0,.slice none 0 0,.slice none 0 0] 26)) rb 0 0 (.slice none 0 0) (.slice none 0 0):=by
   unfold aT;rw[gh];show(w.heap.push _)[w.heap.size]?=_
   rw[Zbc]
  rw[bj];exact h1.agU (ad _ (aa _))
 have aP:aT w0 (rb+1) 0 0 (.slice none 0 0) (.slice none 0 0):=by
  unfold aT;rw[bj,gh,show w.heap.size+1=(w.alloc (.cells #[.int .i64 0,.int .i64 0,.slice none 0 0,.slice none 0 0] 26)).heap.size by simp]
  show((w.alloc _).heap.push _)[(w.alloc _).heap.size]?=_
  rw[Zbc]
 have e_:w0.heap.size=rb+1+1:=by rw[bj,gh];simp
 obtain⟨cD,ic,fX,aY,jR,iS,C6⟩:=F_ bj aK gh ks aP e_ (hc.since aK);have pd:cb<rb:=zO
 clear bj aK ks aP e_ hc jW
 go_enter Tryz.func119,Tryz.ntmps119
 go_upto_region 2 with(fail);rw[<- cD.out,<- fX.out];clear gh;go_wp2_with fail;refine(dF cb A L c P 5 w0 C6 zO zO).mono ?_;rintro e w1 ⟨x,rfl,hx,j_,mc⟩;have hx5:x=0\/x=1\/x=2\/x=3\/x=4:=zO
 clear hx;obtain⟨jw,oz⟩:=A_ j_ mc;clear j_ mc;rcases hx5 with rfl | rfl | rfl | rfl | rfl
 ·go_wp2_with fail;refine(dF cb A L c (P+2) 4 w1 jw zO zO).mono ?_;rintro e w2 ⟨y,rfl,hy,lh,sY⟩;obtain⟨k,hk⟩:=J_ (1+y:Nat)
  have m1:IntKind.i64.wrap (1+(y:Int))=(k:Int):=by rw[bU _ zO zO];omega
  have hk4:1<=k/\k<=4:=zO
  obtain⟨Im,Qa⟩:=A_ lh (bO.trans oz.out sY);clear lh sY hy hk;go_wp2_with fail;refine(Lw d k w2 hd hk4).mono ?_;rintro e w3 ⟨a,b,p,rfl,aI,vj,er⟩
  obtain⟨A1,c1,rfl⟩:∃A c,a=.slice A p.nodes.length c:=by obtain⟨TN,TE,q1,-⟩:=aI;obtain⟨A,c,e,-⟩:=q1.form;exact⟨A,c,e⟩
  obtain⟨A2,c2,rfl⟩:∃A c,b=.slice A p.agW.length c:=by obtain⟨TN,TE,-,q1,-⟩:=aI;obtain⟨A,c,e,-⟩:=q1.form;exact⟨A,c,e⟩
  obtain⟨tS,Tg⟩:=A_ aI vj;have HS:Hid (bO cb w0 w3):=bO.after (Qa) (show ab w2 w3 from er);have kn:Hid (dj w3 cb A L c (P+4)):=(Im.since (show ab w2 w3 from er)).mono zO
  have qU:Hid (rb+1+1<=w2.heap.size):=by show _<=_;rw[<- iS.out];exact(Qa).size
  obtain⟨lb,eK⟩:=K_ p.labels
  obtain⟨dg,lP⟩:=K_ p.degree
  rw[eK,lP];obtain⟨ka,uz⟩:=A_ eK lP;clear aI vj er eK lP;have jp:=aY.seen HS zO;have fG:=jR.seen HS zO;obtain⟨d0,d1,d2,d3⟩:=jp.cells;obtain⟨e0,e1,e2,e3⟩:=fG.cells;have f0:=frozen_of_row w3 _ 0 _ _ jp;have f1:=frozen_of_row w3 _ 1 _ _ jp;have f2:=frozen_of_row w3 _ 2 _ _ jp;have f3:=frozen_of_row w3 _ 3 _ _ jp;have g0:=frozen_of_row w3 _ 0 _ _ fG;have g1:=frozen_of_row w3 _ 1 _ _ fG;have g2:=frozen_of_row w3 _ 2 _ _ fG;have g3:=frozen_of_row w3 _ 3 _ _ fG;clear jp fG;go_wp2;refine bodyPost_ret (v:=.agg #[.int .i64 lb,.int .i64 dg,.slice A1 p.nodes.length c1,.slice A2 p.agW.length c2]) (by simp[results,Tryz.results119,go_sem, *]) rfl ?_
  have hst:∀j,j≠rb->j≠rb+1->((((((((w3.setCell ⟨rb+1,0,none⟩ (.int .i64 lb)).setCell ⟨rb+1,1,none⟩ (.int .i64 dg)).setCell ⟨rb+1,2,none⟩ (.slice A1 p.nodes.length c1)).setCell ⟨rb+1,3,none⟩ (.slice A2 p.agW.length c2)).setCell ⟨rb,0,none⟩ (.int .i64 lb)).setCell ⟨rb,1,none⟩ (.int .i64 dg)).setCell ⟨rb,2,none⟩ (.slice A1 p.nodes.length c1)).setCell ⟨rb,3,none⟩ (.slice A2 p.agW.length c2)).heap[j]?=w3.heap[j]?:=fun j h1 h2=>by
   repeat rw[Zan _ _ _ j (by simp;omega)]
  refine⟨_,_,p,by rw[ka.out,uz.out],(fY.agV tS.out fun j q1 q2=>hst j (zX qU.out) (zX qU.out)).mono (by have:=qU.out;rw[<- fX.out];omega),Tg.out,kn.out.agU (fun j hj=>hst j zO zO),?_⟩
  rw[<- fX.out]
  exact(((((((((CB.of (ic.below.mono (by rw[fX.out];exact Zaj _))).trans (HS.mono (by rw[iS.out];omega))).setCell (.inl zS) _).setCell (.inl zS) _).setCell (.inl zS) _).setCell (.inl zS) _).setCell (.inl zS) _).setCell (.inl zS) _).setCell (.inl zS) _).setCell (.inl zS) _
 ·go_wp2_with fail;refine(Lv d w1 hd).mono ?_;rintro e w3 ⟨a,b,p,rfl,aI,vj,er⟩
  obtain⟨A1,c1,rfl⟩:∃A c,a=.slice A p.nodes.length c:=by obtain⟨TN,TE,q1,-⟩:=aI;obtain⟨A,c,e,-⟩:=q1.form;exact⟨A,c,e⟩
  obtain⟨A2,c2,rfl⟩:∃A c,b=.slice A p.agW.length c:=by obtain⟨TN,TE,-,q1,-⟩:=aI;obtain⟨A,c,e,-⟩:=q1.form;exact⟨A,c,e⟩
  obtain⟨tS,Tg⟩:=A_ aI vj;have HS:Hid (bO cb w0 w3):=bO.after (oz) (show ab w1 w3 from er);have kn:Hid (dj w3 cb A L c (P+4)):=(jw.since (show ab w1 w3 from er)).mono zO
  have qU:Hid (rb+1+1<=w1.heap.size):=by show _<=_;rw[<- iS.out];exact(oz).size
  obtain⟨lb,eK⟩:=K_ p.labels
  obtain⟨dg,lP⟩:=K_ p.degree
  rw[eK,lP];obtain⟨ka,uz⟩:=A_ eK lP;clear aI vj er eK lP;have jp:=aY.seen HS zO;have fG:=jR.seen HS zO;obtain⟨d0,d1,d2,d3⟩:=jp.cells;obtain⟨e0,e1,e2,e3⟩:=fG.cells;have f0:=frozen_of_row w3 _ 0 _ _ jp;have f1:=frozen_of_row w3 _ 1 _ _ jp;have f2:=frozen_of_row w3 _ 2 _ _ jp;have f3:=frozen_of_row w3 _ 3 _ _ jp;have g0:=frozen_of_row w3 _ 0 _ _ fG;have g1:=frozen_of_row w3 _ 1 _ _ fG;have g2:=frozen_of_row w3 _ 2 _ _ fG;have g3:=frozen_of_row w3 _ 3 _ _ fG;clear jp fG;go_wp2;refine bodyPost_ret (v:=.agg #[.int .i64 lb,.int .i64 dg,.slice A1 p.nodes.length c1,.slice A2 p.agW.length c2]) (by simp[results,Tryz.results119,go_sem, *]) rfl ?_
  have hst:∀j,j≠rb->j≠rb+1->((((((((w3.setCell ⟨rb+1,0,none⟩ (.int .i64 lb)).setCell ⟨rb+1,1,none⟩ (.int .i64 dg)).setCell ⟨rb+1,2,none⟩ (.slice A1 p.nodes.length c1)).setCell ⟨rb+1,3,none⟩ (.slice A2 p.agW.length c2)).setCell ⟨rb,0,none⟩ (.int .i64 lb)).setCell ⟨rb,1,none⟩ (.int .i64 dg)).setCell ⟨rb,2,none⟩ (.slice A1 p.nodes.length c1)).setCell ⟨rb,3,none⟩ (.slice A2 p.agW.length c2)).heap[j]?=w3.heap[j]?:=fun j h1 h2=>by
   repeat rw[Zan _ _ _ j (by simp;omega)]
  refine⟨_,_,p,by rw[ka.out,uz.out],(fY.agV tS.out fun j q1 q2=>hst j (zX qU.out) (zX qU.out)).mono (by have:=qU.out;rw[<- fX.out];omega),Tg.out,kn.out.agU (fun j hj=>hst j zO zO),?_⟩
  rw[<- fX.out]
  exact(((((((((CB.of (ic.below.mono (by rw[fX.out];exact Zaj _))).trans (HS.mono (by rw[iS.out];omega))).setCell (.inl zS) _).setCell (.inl zS) _).setCell (.inl zS) _).setCell (.inl zS) _).setCell (.inl zS) _).setCell (.inl zS) _).setCell (.inl zS) _).setCell (.inl zS) _
 ·go_wp2_with fail;refine(Lr d w1 hd).mono ?_;rintro e w3 ⟨a,b,p,rfl,aI,vj,er⟩
  obtain⟨A1,c1,rfl⟩:∃A c,a=.slice A p.nodes.length c:=by obtain⟨TN,TE,q1,-⟩:=aI;obtain⟨A,c,e,-⟩:=q1.form;exact⟨A,c,e⟩
  obtain⟨A2,c2,rfl⟩:∃A c,b=.slice A p.agW.length c:=by obtain⟨TN,TE,-,q1,-⟩:=aI;obtain⟨A,c,e,-⟩:=q1.form;exact⟨A,c,e⟩
  obtain⟨tS,Tg⟩:=A_ aI vj;have HS:Hid (bO cb w0 w3):=bO.after (oz) (show ab w1 w3 from er);have kn:Hid (dj w3 cb A L c (P+4)):=(jw.since (show ab w1 w3 from er)).mono zO
  have qU:Hid (rb+1+1<=w1.heap.size):=by show _<=_;rw[<- iS.out];exact(oz).size
  obtain⟨lb,eK⟩:=K_ p.labels
  obtain⟨dg,lP⟩:=K_ p.degree
  rw[eK,lP];obtain⟨ka,uz⟩:=A_ eK lP;clear aI vj er eK lP;have jp:=aY.seen HS zO;have fG:=jR.seen HS zO;obtain⟨d0,d1,d2,d3⟩:=jp.cells;obtain⟨e0,e1,e2,e3⟩:=fG.cells;have f0:=frozen_of_row w3 _ 0 _ _ jp;have f1:=frozen_of_row w3 _ 1 _ _ jp;have f2:=frozen_of_row w3 _ 2 _ _ jp;have f3:=frozen_of_row w3 _ 3 _ _ jp;have g0:=frozen_of_row w3 _ 0 _ _ fG;have g1:=frozen_of_row w3 _ 1 _ _ fG;have g2:=frozen_of_row w3 _ 2 _ _ fG;have g3:=frozen_of_row w3 _ 3 _ _ fG;clear jp fG;go_wp2;refine bodyPost_ret (v:=.agg #[.int .i64 lb,.int .i64 dg,.slice A1 p.nodes.length c1,.slice A2 p.agW.length c2]) (by simp[results,Tryz.results119,go_sem, *]) rfl ?_
  have hst:∀j,j≠rb->j≠rb+1->((((((((w3.setCell ⟨rb+1,0,none⟩ (.int .i64 lb)).setCell ⟨rb+1,1,none⟩ (.int .i64 dg)).setCell ⟨rb+1,2,none⟩ (.slice A1 p.nodes.length c1)).setCell ⟨rb+1,3,none⟩ (.slice A2 p.agW.length c2)).setCell ⟨rb,0,none⟩ (.int .i64 lb)).setCell ⟨rb,1,none⟩ (.int .i64 dg)).setCell ⟨rb,2,none⟩ (.slice A1 p.nodes.length c1)).setCell ⟨rb,3,none⟩ (.slice A2 p.agW.length c2)).heap[j]?=w3.heap[j]?:=fun j h1 h2=>by
   repeat rw[Zan _ _ _ j (by simp;omega)]
  refine⟨_,_,p,by rw[ka.out,uz.out],(fY.agV tS.out fun j q1 q2=>hst j (zX qU.out) (zX qU.out)).mono (by have:=qU.out;rw[<- fX.out];omega),Tg.out,kn.out.agU (fun j hj=>hst j zO zO),?_⟩
  rw[<- fX.out]
  exact(((((((((CB.of (ic.below.mono (by rw[fX.out];exact Zaj _))).trans (HS.mono (by rw[iS.out];omega))).setCell (.inl zS) _).setCell (.inl zS) _).setCell (.inl zS) _).setCell (.inl zS) _).setCell (.inl zS) _).setCell (.inl zS) _).setCell (.inl zS) _).setCell (.inl zS) _
 ·go_wp2_with fail;refine(Ls d w1 hd).mono ?_;rintro e w3 ⟨a,b,p,rfl,aI,vj,er⟩
  obtain⟨A1,c1,rfl⟩:∃A c,a=.slice A p.nodes.length c:=by obtain⟨TN,TE,q1,-⟩:=aI;obtain⟨A,c,e,-⟩:=q1.form;exact⟨A,c,e⟩
  obtain⟨A2,c2,rfl⟩:∃A c,b=.slice A p.agW.length c:=by obtain⟨TN,TE,-,q1,-⟩:=aI;obtain⟨A,c,e,-⟩:=q1.form;exact⟨A,c,e⟩
  obtain⟨tS,Tg⟩:=A_ aI vj;have HS:Hid (bO cb w0 w3):=bO.after (oz) (show ab w1 w3 from er);have kn:Hid (dj w3 cb A L c (P+4)):=(jw.since (show ab w1 w3 from er)).mono zO
  have qU:Hid (rb+1+1<=w1.heap.size):=by show _<=_;rw[<- iS.out];exact(oz).size
  obtain⟨lb,eK⟩:=K_ p.labels
  obtain⟨dg,lP⟩:=K_ p.degree
  rw[eK,lP];obtain⟨ka,uz⟩:=A_ eK lP;clear aI vj er eK lP;have jp:=aY.seen HS zO;have fG:=jR.seen HS zO;obtain⟨d0,d1,d2,d3⟩:=jp.cells;obtain⟨e0,e1,e2,e3⟩:=fG.cells;have f0:=frozen_of_row w3 _ 0 _ _ jp;have f1:=frozen_of_row w3 _ 1 _ _ jp;have f2:=frozen_of_row w3 _ 2 _ _ jp;have f3:=frozen_of_row w3 _ 3 _ _ jp;have g0:=frozen_of_row w3 _ 0 _ _ fG;have g1:=frozen_of_row w3 _ 1 _ _ fG;have g2:=frozen_of_row w3 _ 2 _ _ fG;have g3:=frozen_of_row w3 _ 3 _ _ fG;clear jp fG;go_wp2;refine bodyPost_ret (v:=.agg #[.int .i64 lb,.int .i64 dg,.slice A1 p.nodes.length c1,.slice A2 p.agW.length c2]) (by simp[results,Tryz.results119,go_sem, *]) rfl ?_
  have hst:∀j,j≠rb->j≠rb+1->((((((((w3.setCell ⟨rb+1,0,none⟩ (.int .i64 lb)).setCell ⟨rb+1,1,none⟩ (.int .i64 dg)).setCell ⟨rb+1,2,none⟩ (.slice A1 p.nodes.length c1)).setCell ⟨rb+1,3,none⟩ (.slice A2 p.agW.length c2)).setCell ⟨rb,0,none⟩ (.int .i64 lb)).setCell ⟨rb,1,none⟩ (.int .i64 dg)).setCell ⟨rb,2,none⟩ (.slice A1 p.nodes.length c1)).setCell ⟨rb,3,none⟩ (.slice A2 p.agW.length c2)).heap[j]?=w3.heap[j]?:=fun j h1 h2=>by
   repeat rw[Zan _ _ _ j (by simp;omega)]
  refine⟨_,_,p,by rw[ka.out,uz.out],(fY.agV tS.out fun j q1 q2=>hst j (zX qU.out) (zX qU.out)).mono (by have:=qU.out;rw[<- fX.out];omega),Tg.out,kn.out.agU (fun j hj=>hst j zO zO),?_⟩
  rw[<- fX.out]
  exact(((((((((CB.of (ic.below.mono (by rw[fX.out];exact Zaj _))).trans (HS.mono (by rw[iS.out];omega))).setCell (.inl zS) _).setCell (.inl zS) _).setCell (.inl zS) _).setCell (.inl zS) _).setCell (.inl zS) _).setCell (.inl zS) _).setCell (.inl zS) _).setCell (.inl zS) _
 ·go_wp2_with fail;refine(Lu d w1 hd).mono ?_;rintro e w3 ⟨a,b,p,rfl,aI,vj,er⟩
  obtain⟨A1,c1,rfl⟩:∃A c,a=.slice A p.nodes.length c:=by obtain⟨TN,TE,q1,-⟩:=aI;obtain⟨A,c,e,-⟩:=q1.form;exact⟨A,c,e⟩
  obtain⟨A2,c2,rfl⟩:∃A c,b=.slice A p.agW.length c:=by obtain⟨TN,TE,-,q1,-⟩:=aI;obtain⟨A,c,e,-⟩:=q1.form;exact⟨A,c,e⟩
  obtain⟨tS,Tg⟩:=A_ aI vj;have HS:Hid (bO cb w0 w3):=bO.after (oz) (show ab w1 w3 from er);have kn:Hid (dj w3 cb A L c (P+4)):=(jw.since (show ab w1 w3 from er)).mono zO
  have qU:Hid (rb+1+1<=w1.heap.size):=by show _<=_;rw[<- iS.out];exact(oz).size
  obtain⟨lb,eK⟩:=K_ p.labels
  obtain⟨dg,lP⟩:=K_ p.degree
  rw[eK,lP];obtain⟨ka,uz⟩:=A_ eK lP;clear aI vj er eK lP;have jp:=aY.seen HS zO;have fG:=jR.seen HS zO;obtain⟨d0,d1,d2,d3⟩:=jp.cells;obtain⟨e0,e1,e2,e3⟩:=fG.cells;have f0:=frozen_of_row w3 _ 0 _ _ jp;have f1:=frozen_of_row w3 _ 1 _ _ jp;have f2:=frozen_of_row w3 _ 2 _ _ jp;have f3:=frozen_of_row w3 _ 3 _ _ jp;have g0:=frozen_of_row w3 _ 0 _ _ fG;have g1:=frozen_of_row w3 _ 1 _ _ fG;have g2:=frozen_of_row w3 _ 2 _ _ fG;have g3:=frozen_of_row w3 _ 3 _ _ fG;clear jp fG;go_wp2;refine bodyPost_ret (v:=.agg #[.int .i64 lb,.int .i64 dg,.slice A1 p.nodes.length c1,.slice A2 p.agW.length c2]) (by simp[results,Tryz.results119,go_sem, *]) rfl ?_
  have hst:∀j,j≠rb->j≠rb+1->((((((((w3.setCell ⟨rb+1,0,none⟩ (.int .i64 lb)).setCell ⟨rb+1,1,none⟩ (.int .i64 dg)).setCell ⟨rb+1,2,none⟩ (.slice A1 p.nodes.length c1)).setCell ⟨rb+1,3,none⟩ (.slice A2 p.agW.length c2)).setCell ⟨rb,0,none⟩ (.int .i64 lb)).setCell ⟨rb,1,none⟩ (.int .i64 dg)).setCell ⟨rb,2,none⟩ (.slice A1 p.nodes.length c1)).setCell ⟨rb,3,none⟩ (.slice A2 p.agW.length c2)).heap[j]?=w3.heap[j]?:=fun j h1 h2=>by
   repeat rw[Zan _ _ _ j (by simp;omega)]
  refine⟨_,_,p,by rw[ka.out,uz.out],(fY.agV tS.out fun j q1 q2=>hst j (zX qU.out) (zX qU.out)).mono (by have:=qU.out;rw[<- fX.out];omega),Tg.out,kn.out.agU (fun j hj=>hst j zO zO),?_⟩
  rw[<- fX.out]
  exact(((((((((CB.of (ic.below.mono (by rw[fX.out];exact Zaj _))).trans (HS.mono (by rw[iS.out];omega))).setCell (.inl zS) _).setCell (.inl zS) _).setCell (.inl zS) _).setCell (.inl zS) _).setCell (.inl zS) _).setCell (.inl zS) _).setCell (.inl zS) _).setCell (.inl zS) _
theorem WR (cb:Nat) (A:Option Addr) (L c P:Nat) (w:World) (hc:dj w cb A L c P) (hP:P<=4611686018427000000):
  Calls Tryz.prog 70 #[.pointer (some ⟨cb,0,none⟩)] w fun e w'=>∃d:Nat,e=.returned (.int .i64 d)/\(1<=d/\d<=4)/\dj w' cb A L c (P+2)/\CB cb w.heap.size w w':=by
 have jW:=hc.lt;have ho:=dS w [1,2,2,2,3,3,3,4] (by simp[maxLen]);obtain⟨w0,bj⟩:=J_ (w.alloc (.cells #[.int .i64 1,.int .i64 2,.int .i64 2,.int .i64 2,.int .i64 3,.int .i64 3,.int .i64 3,.int .i64 4] 3))
 have aK:ab w w0:=by rw[bj];exact ad _ (aa _)
 obtain⟨Ho,cD,ic,C6⟩:=C_ (show Own w0 w.heap.size (.slice (some ⟨w.heap.size,0,none⟩) 8 8) [1,2,2,2,3,3,3,4]by rw[bj];exact ho) bj aK (hc.since aK);have aeL:=zh (sA cb A L c P w.heap.size w.heap.size 8 [1,2,2,2,3,3,3,4] w0 C6.out zO Ho.out jW zS zS);clear bj aK hc ho
 go_enter Tryz.func70,Tryz.ntmps70
 go_wp2_with fail;rw[<- cD.out];refine aeL.mono ?_;rintro e w2 ⟨x,rfl,hx,f8,hC⟩
 obtain⟨d,hd,rfl⟩:∃d:Nat,(1<=d/\d<=4)/\x=(d:Int):=by
  refine⟨x.toNat,?_,?_⟩ <;> (simp at hx;omega)
 obtain⟨Jw,HC⟩:=A_ f8 hC;clear f8 hC hx;go_wp2;go_ret;exact⟨d,rfl,hd,Jw,(CB.of ic.below).trans (HC.mono ic.below.size)⟩
theorem aT.fresh (w:World) (L D:Int) (a b:Value):aT (w.alloc (.cells #[.int .i64 L,.int .i64 D,a,b] 26)) w.heap.size L D a b:=by
 unfold aT;show(w.heap.push _)[w.heap.size]?=_
 rw[Zbc]
theorem Bv {w0 w:World} {B d:Nat} {a b u:Value} {l m:List (List Int)} {x:List Int} (h:nw w0 B a b l m) (hs:ab w0 w) (hu:Own w w0.heap.size u x) (hB:B<=w0.heap.size) (hl:l.length<=1000) (hx:lj d x) (hy:∀y∈l,lj d y):
  Calls Tryz.prog 120 #[a,u] w fun e w'=>∃r l',e=.returned r/\nw w' B r b l' m/\l'.length<=l.length+1/\(∀y∈l',lj d y)/\Below w.heap.size w w':=by
 obtain⟨TN,TE,h1,h2,h3⟩:=h;have hz:=hs.below.size;have QD:=(h1.bound.since hs).mono (T':=fun j=>(TN j/\j<w0.heap.size)\/w0.heap.size<=j) (Zaj _) (fun j h=>.inl ⟨h.1,h.2.2⟩)
 have Zq:=h2.bound.since hs
 refine(vD a u l x B _ w QD (Own.mono hu hB) hl zO (fun j hj=>.inr zO) (fun j hj=>.inr (Zad hu j (by simpa using hj)).1) (fun z hz=>zX (hx.2 z hz)) (fun y Sj=>⟨by rw[(hy y Sj).1,hx.1],fun z hz=>zX ((hy y Sj).2 z hz)⟩)).mono ?_
 rintro e w' ⟨r,rfl,q1,q2⟩;refine⟨r,tT l x,rfl,⟨_,_,q1,Zq.since q2,fun j q5 q6=>?_⟩,Iv l x,fun y Sj=>?_,q2⟩
 ·rcases q5 with q5 | q5
  ·exact h3 j q5.1 q6.1
  ·omega
 ·rcases Iu Sj with h | rfl
  ·exact hy y h
  ·exact hx
theorem Bw {d:Nat} {x:List Int} (h:lj d x):lj d (dz x):=⟨by rw[(ft x).length_eq];exact h.1,fun z hz=>h.2 z (Nq.1 hz)⟩
theorem Ea (cb:Nat) (A:Option Addr) (L c P d:Nat) (w:World) (hc:dj w cb A L c P) (hP:P<=4611686018426000000) (hd:1<=d/\d<=4):
  Calls Tryz.prog 71 #[.pointer (some ⟨cb,0,none⟩),.int .i64 d] w (acE cb w.heap.size A L c (P+1000) d w):=by
 have jW:=hc.lt;obtain⟨rb,gh⟩:=J_ w.heap.size
 obtain⟨w0,bj⟩:=J_ (w.alloc (.cells #[.int .i64 0,.int .i64 0,.slice none 0 0,.slice none 0 0] 26))
 have aK:ab w w0:=by rw[bj];exact ad _ (aa _)
 have ks:aT w0 rb 0 0 (.slice none 0 0) (.slice none 0 0):=by rw[bj,gh];exact aT.fresh _ _ _ _ _
 have e_:w0.heap.size=rb+1:=by rw[bj,gh];simp
 obtain⟨cD,ic,fX,aY,iS,C6⟩:=E_ bj aK gh ks e_ (hc.since aK);have pd:cb<rb:=zO
 clear bj aK ks e_ hc jW
 go_enter Tryz.func71,Tryz.ntmps71
 go_upto_region 1 with(fail);rw[<- cD.out,<- fX.out];clear gh;go_wp2_with fail;refine(xV cb A L c P 2 w0 C6 zO zO).mono ?_;rintro e w1 ⟨b,rfl,j_,mc⟩;obtain⟨jw,oz⟩:=A_ j_ mc;clear j_ mc;cases b
 ·go_wp2_with fail;refine(dF cb A L c (P+2) 4 w1 jw zO zO).mono ?_;rintro e w2 ⟨x,rfl,hx,lh,sY⟩;obtain⟨nl,iM⟩:=J_ (1+x:Nat)
  have m1:IntKind.i64.wrap (1+(x:Int))=(nl:Int):=by rw[bU _ zO zO];omega
  have hn4:1<=nl/\nl<=4:=zO
  obtain⟨Im,Qa⟩:=A_ lh (bO.trans oz.out sY);clear lh sY hx iM;obtain⟨pb,dV⟩:=J_ w2.heap.size
  obtain⟨w3,ib⟩:=J_ (w2.alloc (.cells #[.int .i64 nl,.int .i64 d,.slice none 0 0,.slice none 0 0] 26))
  have tF:Hid (aT w3 pb nl d (.slice none 0 0) (.slice none 0 0)):=by show aT _ _ _ _ _ _;rw[ib,dV];exact aT.fresh _ _ _ _ _
  have lM:Hid (ab w2 w3):=by show ab _ _;rw[ib];exact ad _ (aa _)
  have yT:Hid (w3.heap.size=pb+1):=by show _=_;rw[ib,dV];simp
  have dG:Hid (rb+1<=pb):=by show _<=_;rw[dV,<- iS.out];exact Qa.size
  obtain⟨yI,wU⟩:=A_ ib dV;clear ib dV;go_wp2_with fail;rw[<- yI.out,<- wU.out];refine(dF cb A L c (P+4) 6 w3 (Im.since lM) zO zO).mono ?_;rintro e w4 ⟨y,rfl,hy,mO,oa⟩;obtain⟨kk,G7⟩:=J_ (1+y:Nat)
  have m2:IntKind.i64.wrap (1+(y:Int))=(kk:Int):=by rw[bU _ zO zO];omega
  have hk6:kk<=6:=zO
  obtain⟨Fp,HC4,j5⟩:=B_ mO ((bO.after Qa.out lM.out).trans oa) (tF.out.seen oa (zX dG.out))
  have SH:Hid (pb+1<=w4.heap.size):=by show _<=_;rw[<- yT.out];exact oa.size
  clear mO oa hy G7;go_upto_region 5 with(fail)
  go_loopw [6] (fun i wr=>∃(r:Nat) (a b:Value) (l m:List (List Int)),r<=6/\i=.int .i64 r/\nw wr (pb+1) a b l m/\l.length+r<=6/\m.length+r<=6/\(∀y∈l,lj d y)/\(∀y∈m,lj 2 y)/\aT wr pb nl d a b/\bO cb w0 wr/\dj wr cb A L c (P+6+(6-r)*20)/\pb+1<=wr.heap.size) (fun i _=>(intOf i).toNat)
  case atStart=>exact⟨kk,_,_,[],[],hk6,rfl,⟨fun _=>False,fun _=>False,mm _ _ _,mm _ _ _,fun _ h=>h.elim⟩,by simp;omega,by simp;omega,zS,zS,j5.out,HC4.out,Fp.out.mono zO,SH.out⟩
  case round=>
   obtain⟨r,a,b,l,m,hr,rfl,hq,hl,hm,hy,hz,hb,hs,f8,fD⟩:=hrel
   obtain⟨A1,c1,rfl⟩:∃A c,a=.slice A l.length c:=by obtain⟨TN,TE,h1,-⟩:=hq;obtain⟨A,c,e,-⟩:=h1.form;exact⟨A,c,e⟩
   obtain⟨A2,c2,rfl⟩:∃A c,b=.slice A m.length c:=by obtain⟨TN,TE,-,h1,-⟩:=hq;obtain⟨A,c,e,-⟩:=h1.form;exact⟨A,c,e⟩
   obtain⟨Hq,Hl,Hm,Hy,Hz,Hb,Hs,Jw,kR⟩:=H_ hq hl hm hy hz hb hs f8 fD;clear hq hl hm hy hz hb hs f8 fD
   by_cases EW:0<r
   ·obtain⟨wo,rfl⟩:=J_ wr
    go_upto_region 8 with(fail)
    go_loopw [7] (fun x wr=>∃xs:List Int,xs.length<=d/\(∀z∈xs,0<=z/\z<=7)/\Own wr wo.heap.size x xs/\bO cb wo wr/\dj wr cb A L c (P+6+(6-r)*20+2*xs.length)) (fun x _=>d-MM x)
    case atStart=>exact⟨[],Zac _,zS,fA _ _,bO.refl _ _,by simpa using Jw.out⟩
    case round=>
     obtain⟨xs,ou,CS,ho,z6,f8⟩:=hrel;obtain⟨AX,cX,rfl,-,-,-⟩:=id ho.ints;obtain⟨md,QO,Ho,FQ,acF⟩:=D_ ou CS ho z6 f8
     have dK:=Hb.out.seen z6 (zX dG.out)
     have uZ:=zh dK;obtain⟨e0,e1,e2,e3⟩:=dK.cells
     have jb:Hid (xs.length+1<=17592186044416):=by show _<=_;omega
     clear ou CS ho z6 f8 dK
     by_cases hxd:xs.length<d
     ·go_wp2_with fail
      refine(dF cb A L c _ nl wr acF.out (zX md.out) zO).mono ?_
      rintro e w5 ⟨z,rfl,hz5,qL,Bp⟩
      have O2:cb<wo.heap.size:=zY kR.out dG.out
      have vR:=zh (Own.since (Ho.out.seen Bp O2) (ad (.cells #[.int .i64 (z:Int)] 3) (aa w5)));obtain⟨jF,WS⟩:=A_ (FQ.out.trans Bp) qL
      have JC:Hid ((0:Int)<=(z:Int)/\(z:Int)<=7):=by show _/\_;omega
      have wW:Hid (wo.heap.size<=(w5.alloc (.cells #[.int .i64 (z:Int)] 3)).heap.size):=Zak jF.size (ad _ (aa w5)).below.size;clear Bp qL hz5
      go_wp2_with (at_builtin;refine sa rfl _ _ rfl rfl vR w5.heap.size z rfl (by simp[go_sem]) jb wW ?_;intro g6 c6 w6 dJ ml iz WD;have MJ:=zh dJ;have C9:Hid (Below wo.heap.size w5 w6):=Below.grown ((ad _ (aa w5)).below.mono jF.size) ml wW (fun q hq=>(Zad vR q hq).1);clear dJ ml iz WD)
      go_roundw
      exact⟨xs++[(z:Int)],by simp;omega,fun z1 h1=>by rcases Zar.1 h1 with h | h;exact QO z1 h;rw[Zbm]at h;rw[h];exact JC,by simpa using MJ.out,CB.trans jF.out (CB.of C9.out),(WS.out.agU (fun j hj=>C9.out.block j zO)).mono (by simp;omega)⟩
      case measure=>simp[MM];omega
     ·have Hqr:Hid (nw wr (pb+1) (.slice A1 l.length c1) (.slice A2 m.length c2) l m):=by
       show nw _ _ _ _ _ _
       exact Hq.out.agV fun j h1 h2=>FQ.out.block j h2 (zX dG.out)
      have OP:Hid (pb+1<=wr.heap.size):=Zak kR FQ.size
      have Hxd:Hid (lj d xs):=⟨zX md.out,QO.out⟩
      have Hix:Hid (bs wr (.slice AX xs.length cX) xs):=Ho.ints;have lF:Hid (bO cb w0 wr):=bO.trans Hs (FQ.mono (Zaj _))
      have Hld:Hid (xs.length<=1000000):=by show _<=_;have:=md.out;omega
      have xC:Hid (l.length<=1000):=by show _<=_;have:=Hl.out;omega
      have ou:=md.out
      have WT:Hid (pb≠cb):=by show _≠_;have:=dG.out;omega
      clear e0 e1 e2 e3;go_upto_region 10 with(fail);have K4:aT wr pb nl d (.slice A1 l.length c1) (.slice A2 m.length c2):=uZ;refine az (fun W=>aT W pb nl d (.slice A1 l.length c1) (.slice A2 m.length c2)) 5 [false,false,false,true,true] zK zK (show aT (World.drew wr) pb nl d (.slice A1 l.length c1) (.slice A2 m.length c2)from K4.agU (aj (aa _))) ?_
      simp only[ew,dM,zT]
      iterate 3 (apply bC rfl;(intro W hW;(have k0:=hW.cells.2.2.1);go_simp;with_reducible rfl);simp only[zA])
      obtain⟨W,dh⟩:=J_ (World.drew wr)
      rw[<- dh];have hW:=(show aT (World.drew wr) pb nl d (.slice A1 l.length c1) (.slice A2 m.length c2)from K4.agU (aj (aa _)));rw[<- dh]at hW;have fK:=zh dh;clear dh;refine Or.inl ⟨rfl,?_⟩
      go_simp
      (with_reducible refine(pK (.slice AX xs.length cX) xs W (by rw[fK.out];exact Hix.out.agU (aj (aa _)).below) Hld.out).mono ?_)
      rintro e W' ⟨u5,rfl,qy,k8⟩;refine⟨_,rfl,(hW.agU (show ab W W' from k8)),?_⟩
      replace hW:=(hW.agU (show ab W W' from k8))
      obtain⟨A5,c5,rfl,-,-,-⟩:=id qy.ints
      have vR:Hid (Own W' wr.heap.size (.slice A5 (dz xs).length c5) (dz xs)):=(by show Own _ _ _ _;rw[fK.out]at qy;exact qy)
      have jF:Hid (ab wr W'):=(by show ab _ _;rw[fK.out]at k8;exact(aj (aa wr)).after k8)
      clear qy k8;obtain⟨wp,rfl⟩:=J_ W'
      (try simp only[zA])
      refine Or.inl ⟨rfl,?_⟩
      go_simp
      (with_reducible refine(Bv Hqr.out jF.out vR.out OP.out xC.out (Bw Hxd.out) Hy.out).mono ?_)
      rintro e W' ⟨u6,l6,rfl,dJ,WD,hy6,tw⟩;refine⟨_,rfl,(hW.agU (show ab _ W' from tw)),?_⟩
      replace hW:=(hW.agU (show ab _ W' from tw))
      obtain⟨MJ,Hl6,Hy6⟩:=B_ dJ WD hy6;have C1:Hid (ab wr W'):=jF.after tw;clear dJ WD hy6 tw
      (try simp only[zA])
      simp only[bP]
      obtain⟨A6,c6,rfl⟩:∃A c,u6=.slice A l6.length c:=by obtain⟨TN,TE,q1,-⟩:=MJ.out;obtain⟨A,c,e,-⟩:=q1.form;exact⟨A,c,e⟩
      obtain⟨w6,rfl⟩:=J_ W'
      have C9:=zh hW;obtain⟨d0,d1,d2,d3⟩:=hW.cells;have f2:=frozen_of_row w6 pb 2 _ _ hW;clear hW K4;go_upto_region 11 with(fail);obtain⟨w7,sE⟩:=J_ (w6.setCell ⟨pb,2,none⟩ (.slice A6 l6.length c6))
      have Hq7:Hid (nw w7 (pb+1) (.slice A6 l6.length c6) (.slice A2 m.length c2) l6 m):=by
       show nw _ _ _ _ _ _
       rw[sE]
       exact MJ.out.agV fun j h1 h2=>Zan _ _ _ j (by simp;omega)
      have hS7:aT w7 pb nl d (.slice A6 l6.length c6) (.slice A2 m.length c2):=by
       rw[sE];exact C9.aho _
      have yJ:Hid (bO cb w0 w7):=by
       show bO _ _ _
       rw[sE]
       exact CB.setCell (bO.after lF.out C1.out) (.inl (by have:=dG.out;rw[iS.out];exact this)) _
      have SN:Hid (∃Q,dj w7 cb A L c Q/\Q=P+6+(6-r)*20+2*xs.length):=by
       refine⟨_,?_,rfl⟩;rw[sE]
       exact(acF.out.since C1.out).agU fun j hj=>Zan _ _ _ j (by simp;have:=dG.out;omega)
      have Hz7:Hid (pb+1<=w7.heap.size):=by show _<=_;rw[sE,iC];exact Zak OP C1.below.size
      rw[<- sE];obtain⟨Q,hQc,hQe⟩:=SN.out;obtain⟨HQc,HQe⟩:=A_ hQc hQe
      have HQb:Hid (Q<=4611686018426900000):=by show _<=_;omega
      have Hlm:Hid (m.length<=1000):=by show _<=_;have:=Hm.out;omega
      clear sE d0 d1 d2 d3 f2 hQc hQe;refine az (fun W=>aT W pb nl d (.slice A6 l6.length c6) (.slice A2 m.length c2)) 13 [false,false,false,false,false,true,false,false,false,true,true,true,true] zK zK (show aT (World.drew w7) pb nl d (.slice A6 l6.length c6) (.slice A2 m.length c2)from hS7.agU (aj (aa _))) ?_
      simp only[ew,dM,zT]
      iterate 8 (apply bC rfl;(intro W hW;(have k0:=hW.cells.1;have k3:=hW.cells.2.2.2);go_simp;with_reducible rfl);simp only[zA])
      obtain⟨W,dh⟩:=J_ (World.drew w7)
      rw[<- dh];have hW:=(show aT (World.drew w7) pb nl d (.slice A6 l6.length c6) (.slice A2 m.length c2)from hS7.agU (aj (aa _)));rw[<- dh]at hW;have fK:=zh dh;clear dh;refine Or.inl ⟨rfl,?_⟩
      go_simp
      (with_reducible refine(dF cb A L c Q (nl:Int) W (by rw[fK.out];exact HQc.out.since (aj (aa _))) (zX HQb.out) zO).mono ?_)
      rintro e W' ⟨za,rfl,hza,f8,hC⟩;refine⟨_,rfl,(hW.seen hC WT),?_⟩
      replace hW:=(hW.seen hC WT)
      have HC8:Hid (bO cb w7 W'):=(by show bO _ _ _;rw[fK.out]at hC;exact((bO.refl cb w7).after (aj (aa _))).trans hC)
      have Lp:=zh f8
      have GR:Hid ((0:Int)<=(za:Int)/\(za:Int)<=7):=(by show _/\_;omega)
      clear hC f8 hza;obtain⟨wp,rfl⟩:=J_ W'
      (try simp only[zA])
      refine Or.inl ⟨rfl,?_⟩
      go_simp
      (with_reducible refine(dF cb A L c (Q+2) (nl:Int) _ Lp.out (zX HQb.out) zO).mono ?_)
      rintro e W' ⟨zb,rfl,Qj,f8,hC⟩;refine⟨_,rfl,(hW.seen hC WT),?_⟩
      replace hW:=(hW.seen hC WT)
      have HC9:Hid (bO cb w7 W'):=HC8.trans hC;have aaz:=zh f8
      have Hzb:Hid ((0:Int)<=(zb:Int)/\(zb:Int)<=7):=(by show _/\_;omega)
      have Hq9:Hid (nw W' (pb+1) (.slice A6 l6.length c6) (.slice A2 m.length c2) l6 m):=(by show nw _ _ _ _ _ _;exact Hq7.out.agV fun j h1 h2=>HC9.out.block j h2 (zX dG.out))
      have vW:Hid (pb+1<=W'.heap.size):=Zak Hz7 HC9.size;clear hC f8 Qj;obtain⟨w9,rfl⟩:=J_ W'
      (try simp only[zA])
      refine ca (v:=?_) (ob:=?_) rfl ?_ ?_ ?_;rotate_left 2
      (go_simp;first | with_reducible rfl | (refine⟨?_,?_⟩ <;> with_reducible rfl))
      exact(hW.agU (ad _ (aa _)));intro Mz Th YL
      replace hW:=YL
      clear YL
      have OO:Hid (Own Mz w9.heap.size (.slice (some ⟨w9.heap.size,0,none⟩) 2 2) [(za:Int),(zb:Int)]):=(by show Own _ _ _ _;rw[Th];exact dS w9 [(za:Int),(zb:Int)] (by simp[maxLen]))
      have Wo:Hid (ab w9 Mz):=(by show ab _ _;rw[Th];exact ad _ (aa _))
      clear Th
      (try simp only[zA])
      refine Or.inl ⟨rfl,?_⟩
      go_simp
      (with_reducible refine(pK (.slice (some ⟨w9.heap.size,0,none⟩) 2 2) [(za:Int),(zb:Int)] _ OO.out.ints zS).mono ?_)
      rintro e W' ⟨u11,rfl,aaA,IA⟩;refine⟨_,rfl,(hW.agU (show ab _ W' from IA)),?_⟩
      replace hW:=(hW.agU (show ab _ W' from IA))
      obtain⟨A11,c11,rfl,-,-,-⟩:=id aaA.ints;have aaB:Hid (Own W' w9.heap.size (.slice A11 (dz [(za:Int),(zb:Int)]).length c11) (dz [(za:Int),(zb:Int)])):=Own.mono aaA Wo.below.size;have Fq:Hid (ab w9 W'):=Wo.after IA;have Co:Hid (lj 2 (dz [(za:Int),(zb:Int)])):=Bw (sJ GR Hzb);clear aaA IA;obtain⟨w11,rfl⟩:=J_ W'
      (try simp only[zA])
      refine Or.inl ⟨rfl,?_⟩
      go_simp
      (with_reducible refine(Bv Hq9.out.swap Fq.out aaB.out vW.out Hlm.out Co.out Hz.out).mono ?_)
      rintro e W' ⟨u12,m12,rfl,acG,acH,acI,WU⟩;refine⟨_,rfl,(hW.agU (show ab _ W' from WU)),?_⟩
      replace hW:=(hW.agU (show ab _ W' from WU))
      obtain⟨acJ,aeM,aeN⟩:=B_ acG.swap acH acI;have qF:Hid (ab w9 W'):=Fq.after WU;clear acG acH acI WU
      (try simp only[zA])
      simp only[bP]
      obtain⟨A12,c12,rfl⟩:∃A c,u12=.slice A m12.length c:=by obtain⟨TN,TE,-,q1,-⟩:=acJ.out;obtain⟨A,c,e,-⟩:=q1.form;exact⟨A,c,e⟩
      obtain⟨YM,rfl⟩:=J_ W'
      have LA:=zh hW;obtain⟨d0,d1,d2,d3⟩:=hW.cells;have f3:=frozen_of_row YM pb 3 _ _ hW
      have wk:IntKind.i64.wrap ((r:Int)-1)=((r-1:Nat):Int):=by rw[bU _ zO zO];omega
      clear hW hS7;go_wp2;go_roundw
      case rel=>
       have aeO:Hid (bO cb w7 YM):=bO.after HC9 qF
       have ki:∀j,j≠pb->(YM.setCell ⟨pb,3,none⟩ (.slice A12 m12.length c12)).heap[j]?=YM.heap[j]?:=fun j h1=>Zan _ _ _ j (by simp;omega)
       refine⟨r-1,_,_,l6,m12,zO,rfl,nw.agV acJ.out fun j h1 h2=>ki j zO,zY Hl.out Hl6.out,zY Hm.out aeM.out,Hy6.out,aeN.out,LA.out.agX _,?_,?_,?_⟩
       ·exact CB.setCell (CB.trans yJ.out (aeO.out.mono yJ.out.size)) (.inl (by have:=dG.out;rw[iS.out];exact this)) _
       ·exact((aaz.out.since qF.out).mono (zY HQe.out md.out)).agU fun j hj=>ki j (zX dG.out)
       ·rw[iC];exact Zak vW qF.below.size
      simp[intOf];omega
   ·obtain rfl:r=0:=zO
    have jp:=aY.seen Hs zO;obtain⟨d0,d1,d2,d3⟩:=jp.cells;obtain⟨e0,e1,e2,e3⟩:=Hb.cells;have f0:=frozen_of_row wr _ 0 _ _ jp;have f1:=frozen_of_row wr _ 1 _ _ jp;have f2:=frozen_of_row wr _ 2 _ _ jp;have f3:=frozen_of_row wr _ 3 _ _ jp;clear jp;go_wp2;refine bodyPost_ret (v:=.agg #[.int .i64 nl,.int .i64 d,.slice A1 l.length c1,.slice A2 m.length c2]) (by simp[results,Tryz.results71,go_sem, *]) rfl ?_
    have hst:∀j,j≠rb->((((wr.setCell ⟨rb,0,none⟩ (.int .i64 nl)).setCell ⟨rb,1,none⟩ (.int .i64 d)).setCell ⟨rb,2,none⟩ (.slice A1 l.length c1)).setCell ⟨rb,3,none⟩ (.slice A2 m.length c2)).heap[j]?=wr.heap[j]?:=fun j h1=>by
     repeat rw[Zan _ _ _ j (by simp;omega)]
    have HP:Hid (fY wr (pb+1) (.slice A1 l.length c1) (.slice A2 m.length c2) ⟨nl,d,l,m⟩):=Hq
    refine⟨_,_,⟨nl,d,l,m⟩,rfl,(fY.agV HP.out fun j q1 q2=>hst j (zX dG.out)).mono (by have:=dG.out;rw[<- fX.out];omega),⟨⟨by show(1:Int)<=nl;omega,by show(nl:Int)<=4;omega⟩,rfl,⟨by have:=Hl.out;show l.length<=20;omega,Hy.out⟩,⟨by have:=Hm.out;show m.length<=20;omega,Hz.out⟩⟩,(Jw.out.mono zO).agU (fun j hj=>hst j zO),?_⟩
    rw[<- fX.out]
    exact(((((CB.of (ic.below.mono (by rw[fX.out];exact Zaj _))).trans (Hs.mono (by rw[iS.out];omega))).setCell (.inl zS) _).setCell (.inl zS) _).setCell (.inl zS) _).setCell (.inl zS) _
 ·go_wp2_with fail;refine(Lz cb A L c (P+2) d w1 jw zO hd).mono ?_;rintro e w3 ⟨a,b,p,rfl,aI,vj,Bx,pz⟩
  obtain⟨A1,c1,rfl⟩:∃A c,a=.slice A p.nodes.length c:=by obtain⟨TN,TE,q1,-⟩:=aI;obtain⟨A,c,e,-⟩:=q1.form;exact⟨A,c,e⟩
  obtain⟨A2,c2,rfl⟩:∃A c,b=.slice A p.agW.length c:=by obtain⟨TN,TE,-,q1,-⟩:=aI;obtain⟨A,c,e,-⟩:=q1.form;exact⟨A,c,e⟩
  obtain⟨tS,Tg,kn⟩:=B_ aI vj Bx;have HS:Hid (bO cb w0 w3):=bO.trans oz pz
  have qU:Hid (rb+1<=w1.heap.size):=by show _<=_;rw[<- iS.out];exact oz.size
  obtain⟨lb,eK⟩:=K_ p.labels
  obtain⟨dg,lP⟩:=K_ p.degree
  rw[eK,lP];obtain⟨ka,uz⟩:=A_ eK lP;clear aI vj Bx pz eK lP;have jp:=aY.seen HS zO;obtain⟨d0,d1,d2,d3⟩:=jp.cells;have f0:=frozen_of_row w3 _ 0 _ _ jp;have f1:=frozen_of_row w3 _ 1 _ _ jp;have f2:=frozen_of_row w3 _ 2 _ _ jp;have f3:=frozen_of_row w3 _ 3 _ _ jp;clear jp;go_wp2;refine bodyPost_ret (v:=.agg #[.int .i64 lb,.int .i64 dg,.slice A1 p.nodes.length c1,.slice A2 p.agW.length c2]) (by simp[results,Tryz.results71,go_sem, *]) rfl ?_
  have hst:∀j,j≠rb->((((w3.setCell ⟨rb,0,none⟩ (.int .i64 lb)).setCell ⟨rb,1,none⟩ (.int .i64 dg)).setCell ⟨rb,2,none⟩ (.slice A1 p.nodes.length c1)).setCell ⟨rb,3,none⟩ (.slice A2 p.agW.length c2)).heap[j]?=w3.heap[j]?:=fun j h1=>by
   repeat rw[Zan _ _ _ j (by simp;omega)]
  refine⟨_,_,p,by rw[ka.out,uz.out],(fY.agV tS.out fun j q1 q2=>hst j (zX qU.out)).mono (by have:=qU.out;rw[<- fX.out];omega),Tg.out,(kn.out.mono zO).agU (fun j hj=>hst j zO),?_⟩
  rw[<- fX.out]
  exact(((((CB.of (ic.below.mono (by rw[fX.out];exact Zaj _))).trans (HS.mono (by rw[iS.out];omega))).setCell (.inl zS) _).setCell (.inl zS) _).setCell (.inl zS) _).setCell (.inl zS) _
end Go.Proofs.YtnioemnkfojmkaaGreat
