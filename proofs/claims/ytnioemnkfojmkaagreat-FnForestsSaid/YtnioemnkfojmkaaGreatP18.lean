/- Parts of the proof: walks of functions and plain laws. -/
import Derived.Test.YtnioemnkfojmkaaGreatP17
import Derived.Deep.CutBlock
set_option maxRecDepth 100000
set_option maxHeartbeats 16000000
namespace Go.Proofs.YtnioemnkfojmkaaGreat
open Go Go.RowKit
structure wZ (p:aq):Prop where
 lab:0<=p.labels/\p.labels<=9
 deg:0<=p.degree/\p.degree<=5
 nod:p.nodes.length<=21/\∀y∈p.nodes,y.length<=5/\∀z∈y,-1<=z/\z<=8
 edg:p.agW.length<=21/\∀y∈p.agW,y.length<=5/\∀z∈y,-1<=z/\z<=8
theorem WP.any {d:Nat} {p:aq} (h:WP d p) (hd:d<=4):wZ p:=
 ⟨zX h.lab,zX h.deg,⟨zX h.nod.1,fun y hy=>by have q:=h.nod.2 y hy;exact⟨by rw[q.1];omega,fun z hz=>zX (q.2 z hz)⟩⟩,⟨zX h.edg.1,fun y hy=>by have q:=h.edg.2 y hy;exact⟨by rw[q.1];omega,fun z hz=>zX (q.2 z hz)⟩⟩⟩
def AnP (cb B:Nat) (A:Option Addr) (L c P:Nat) (w:World) (e:Ending) (w':World):Prop:=∃a b p,e=.returned (.agg #[.int .i64 p.labels,.int .i64 p.degree,a,b])/\fY w' B a b p/\wZ p/\dj w' cb A L c P/\CB cb B w w'
def ia (W:World) (B x:Nat) (a b:Value) (l m:List (List Int)):Prop:=∃TN TE:Nat->Prop,cS W B TN a l/\cS W B TE b m/\(∀j,TN j->¬TE j)/\(∀j,TN j->j≠x)/\∀j,TE j->j≠x
theorem ia.of {W:World} {B x:Nat} {a b:Value} {p:aq} (h:fY W B a b p) (hx:W.heap.size<=x):ia W B x a b p.nodes p.agW:=by
 obtain⟨TN,TE,h1,h2,h3⟩:=h;exact⟨_,_,h1.bound,h2.bound,fun j q1 q2=>h3 j q1.1 q2.1,fun j q=>zO,fun j q=>zO⟩
theorem ia.own {W:World} {B x:Nat} {a b:Value} {l m:List (List Int)} (h:ia W B x a b l m) (L D:Int):fY W B a b ⟨L,D,l,m⟩:=by
 obtain⟨TN,TE,h1,h2,h3,-⟩:=h;exact⟨TN,TE,h1,h2,h3⟩
theorem ia.swap {W:World} {B x:Nat} {a b:Value} {l m:List (List Int)} (h:ia W B x a b l m):ia W B x b a m l:=by
 obtain⟨TN,TE,h1,h2,h3,h4,h5⟩:=h;exact⟨TE,TN,h2,h1,fun j x y=>h3 j y x,h5,h4⟩
theorem ia.agV {W W':World} {B x:Nat} {a b:Value} {l m:List (List Int)} (h:ia W B x a b l m) (hk:∀j,j≠x->B<=j->j<W.heap.size->W'.heap[j]?=W.heap[j]?):ia W' B x a b l m:=by
 obtain⟨TN,TE,h1,h2,h3,h4,h5⟩:=h;exact⟨TN,TE,h1.agV fun j q=>hk j (h4 j q),h2.agV fun j q=>hk j (h5 j q),h3,h4,h5⟩
theorem ia.set {W:World} {B x:Nat} {a b:Value} {l m:List (List Int)} (h:ia W B x a b l m) (k:Nat) (u:Value):ia (W.setCell ⟨x,k,none⟩ u) B x a b l m:=
 h.agV fun j q _ _=>Zan _ _ _ j (by simpa using q)
theorem ia.seen {W W':World} {cb B x:Nat} {a b:Value} {l m:List (List Int)} (h:ia W B x a b l m) (hs:bO cb W W') (hb:cb<B):ia W' B x a b l m:=
 h.agV fun j _ q1 q2=>hs.block j q2 zO
theorem ia.since {W W':World} {B x:Nat} {a b:Value} {l m:List (List Int)} (h:ia W B x a b l m) (hs:ab W W'):ia W' B x a b l m:=
 h.agV fun j _ q1 q2=>hs.below.block j q2
theorem ia.ahG {W W':World} {B x:Nat} {a b b':Value} {l m m':List (List Int)} {T:Nat->Prop} (h:ia W B x a b l m) (hs:ab W W') (h':cS W' W.heap.size T b' m') (hB:B<=W.heap.size) (hx:x<W.heap.size):ia W' B x a b' l m':=by
 obtain⟨TN,TE,h1,h2,h3,h4,h5⟩:=h;exact⟨_,_,h1.bound.since hs,h'.bound.mono hB fun _ h=>h,fun j q1 q2=>zO,fun j q=>h4 j q.1,fun j q=>zO⟩
theorem ia.ahH {W:World} {B x:Nat} {a b:Value} {l m:List (List Int)} (h:ia W B x a b l m):ia W B x (.slice none 0 0) b [] m:=by
 obtain⟨TN,TE,h1,h2,h3,h4,h5⟩:=h;exact⟨fun _=>False,TE,mm _ _ _,h2,fun _ h=>h.elim,fun _ h=>h.elim,h5⟩
theorem IB {w:World} {ops:Array Oper} {rest:List Oper} {o:Oper} {a:Act} {Q:Exit->Act->World->Prop} (gT:o.guard=none) (s x:Operand)
  (ho:o.op=.call { callee:=.builtin .append,args:=#[s,x],argTypes:=#[24,24] }) {w0:World} {B pb:Nat} {v v2:Value} {l m:List (List Int)} (hs:a.eval s=v) (h:ia w0 B pb v v2 l m) (kj:ab w0 w)
  (b:Nat) (u:Value) (y:List Int) (hx:a.eval x=.slice (some ⟨b,0,none⟩) 1 1) (hc:w.cell? ⟨b,0,none⟩=some u) (hu:Own w w0.heap.size u y) (hl:l.length+1<=1000000) (Aa:B<=w0.heap.size) (dV:pb<w0.heap.size)
  (k:∀g cap w',ia w' B pb (.slice (some ⟨g,0,none⟩) (l.length+1) cap) v2 (l++[y]) m->Below B w w'->w.heap.size<=w'.heap.size->w'.heap[pb]?=w.heap[pb]?->wpList Tryz.prog ops Q rest (a.put o.dst (.slice (some ⟨g,0,none⟩) (l.length+1) cap)) w'):wpList Tryz.prog ops Q (o::rest) a w:=by
 obtain⟨TN,TE,h1,h2,h3,h4,h5⟩:=h;have hz:w0.heap.size<=w.heap.size:=kj.below.size;have QD:=(h1.bound.since kj).mono (T':=fun j=>(TN j/\j<w0.heap.size)\/w0.heap.size<=j) (Zaj _) (fun j h=>.inl ⟨h.1,h.2.2⟩)
 have Zq:=h2.bound.since kj
 have aI:∀j,v.ownBlock=some j->TN j/\B<=j/\j<w0.heap.size:=fun j hj=>by
  refine⟨?_,h1.lt hj⟩;obtain⟨vs,-,-,r4,-⟩:=h1;exact r4 j hj
 refine sF gT s x ho hs QD b u y hx hc ⟨Own.mono hu Aa,fun j hj=>⟨fun e=>?_,.inr (Zad hu j hj).1⟩⟩ hl zO (fun j hj=>.inr zO) ?_
 ·have:=(aI j e).2.2
  have:=(Zad hu j hj).1
  omega
 intro g cap w' q1 q2 q3 q4;refine k g cap w' ⟨_,_,q1,Zq.agV (fun j q5 q6 q7=>?_),fun j q5 q6=>?_,fun j q5=>?_,fun j q5=>h5 j q5.1⟩ q4 q2.size (q2.block pb zO fun e=>h4 pb (aI pb e.symm).1 rfl)
 ·exact q2.block j q7 fun e=>h3 j (aI j e.symm).1 q5.1
 ·rcases q5 with q5 | q5
  ·exact h3 j q5.1 q6.1
  ·omega
 ·rcases q5 with q5 | q5
  ·exact h4 j q5.1
  ·omega
theorem aT.ahA {W:World} {pb:Nat} {L D:Int} {a b:Value} (h:aT W pb L D a b) (u:Int):aT (W.setCell ⟨pb,0,none⟩ (.int .i64 u)) pb u D a b:=by
 unfold aT at h ⊢
 simp[World.setCell,Zbf,h]
theorem aT.ahB {W:World} {pb:Nat} {L D:Int} {a b:Value} (h:aT W pb L D a b) (u:Int):aT (W.setCell ⟨pb,1,none⟩ (.int .i64 u)) pb L u a b:=by
 unfold aT at h ⊢
 simp[World.setCell,Zbf,h]
theorem aT.blk {W W':World} {pb:Nat} {L D:Int} {a b:Value} (h:aT W pb L D a b) (hs:W'.heap[pb]?=W.heap[pb]?):aT W' pb L D a b:=by
 unfold aT;rw[hs];exact h
theorem WV (cb:Nat) (A:Option Addr) (L c P:Nat) (B g:Nat) (a1 a2 a3:Int) (w:World) (h:dj w cb A L c P) (hP:P<=4611686018427387000) (ho:Own w B (.slice (some ⟨g,0,none⟩) 3 3) [a1,a2,a3]) (hB:cb<B):
  Calls Tryz.prog 46 #[.pointer (some ⟨cb,0,none⟩),.slice (some ⟨g,0,none⟩) 3 3] w fun e w'=>∃x,e=.returned (.int .i64 x)/\x∈[a1,a2,a3]/\dj w' cb A L c (P+2)/\CB cb w.heap.size w w':=
 sA cb A L c P B g 3 [a1,a2,a3] w h hP ho hB zS zS
def aeP (cb rb pb:Nat) (A:Option Addr) (L c Q:Nat) (w0 W:World):Prop:=∃(lb dg:Int) (a b:Value) (l m:List (List Int)),aT W pb lb dg a b/\ia W (rb+1) pb a b l m/\wZ ⟨lb,dg,l,m⟩/\dj W cb A L c Q/\bO cb w0 W
theorem Fr (cb:Nat) (A:Option Addr) (L c P d:Nat) (w:World) (hc:dj w cb A L c P) (hP:P<=4611686018425000000) (hd:1<=d/\d<=4):
  Calls Tryz.prog 72 #[.pointer (some ⟨cb,0,none⟩),.int .i64 d] w (AnP cb w.heap.size A L c (P+2000) w):=by
 have jW:=hc.lt;obtain⟨rb,gh⟩:=J_ w.heap.size
 obtain⟨w0,bj⟩:=J_ (w.alloc (.cells #[.int .i64 0,.int .i64 0,.slice none 0 0,.slice none 0 0] 26))
 have aK:ab w w0:=by rw[bj];exact ad _ (aa _)
 have ks:aT w0 rb 0 0 (.slice none 0 0) (.slice none 0 0):=by rw[bj,gh];exact aT.fresh _ _ _ _ _
 have e_:w0.heap.size=rb+1:=by rw[bj,gh];simp
 obtain⟨cD,ic,fX,aY,iS,C6⟩:=E_ bj aK gh ks e_ (hc.since aK);have pd:cb<rb:=zO
 clear bj aK ks e_ hc jW
 go_enter Tryz.func72,Tryz.ntmps72
 go_upto_region 1 with(fail);rw[<- cD.out,<- fX.out];clear gh;go_wp2_with fail;refine(Ea cb A L c P d w0 C6 zO hd).mono ?_;rintro e w1 ⟨a,b,p,rfl,aI,vj,j_,mc⟩
 obtain⟨A1,c1,rfl⟩:∃A c,a=.slice A p.nodes.length c:=by obtain⟨TN,TE,q1,-⟩:=aI;obtain⟨A,c,e,-⟩:=q1.form;exact⟨A,c,e⟩
 obtain⟨A2,c2,rfl⟩:∃A c,b=.slice A p.agW.length c:=by obtain⟨TN,TE,-,q1,-⟩:=aI;obtain⟨A,c,e,-⟩:=q1.form;exact⟨A,c,e⟩
 rw[iS.out]at aI;obtain⟨lb,eK⟩:=K_ p.labels
 obtain⟨dg,lP⟩:=K_ p.degree
 rw[eK,lP]
 have IC:Hid (wZ ⟨lb,dg,p.nodes,p.agW⟩):=by
  have q:wZ p:=vj.any hd.2;rw[<- eK,<- lP];exact q
 have H20:Hid (p.nodes.length<=20/\p.agW.length<=20):=⟨vj.nod.1,vj.edg.1⟩
 have ka:Hid ((1:Int)<=lb/\lb<=4):=by rw[<- eK];exact vj.lab
 have uz:Hid ((1:Int)<=dg/\dg<=4):=by show _/\_;rw[<- lP,vj.deg];omega
 obtain⟨tS,jw,oz⟩:=B_ aI j_ mc;clear aI vj j_ mc eK lP;obtain⟨ns,XM⟩:=J_ p.nodes
 obtain⟨es,aU⟩:=J_ p.agW
 rw[<- XM,<- aU]at IC H20;obtain⟨pb,dV⟩:=J_ w1.heap.size
 obtain⟨w2,ip⟩:=J_ (w1.alloc (.cells #[.int .i64 lb,.int .i64 dg,.slice A1 ns.length c1,.slice A2 es.length c2] 26))
 have oN:Hid (aT w2 pb lb dg (.slice A1 ns.length c1) (.slice A2 es.length c2)):=by show aT _ _ _ _ _ _;rw[ip,dV];exact aT.fresh _ _ _ _ _
 have eU:Hid (ab w1 w2):=by show ab _ _;rw[ip];exact ad _ (aa _)
 have qU:Hid (w2.heap.size=pb+1):=by show _=_;rw[ip,dV];simp
 have dG:Hid (rb+1<=pb):=by show _<=_;rw[dV,<- iS.out];exact oz.size
 have Hx2:Hid (ia w2 (rb+1) pb (.slice A1 ns.length c1) (.slice A2 es.length c2) ns es):=by
  show ia _ _ _ _ _ _ _
  rw[XM,aU]
  exact(ia.of tS (by rw[dV];exact Zaj _)).since eU
 have Cm:Hid (bO cb w0 w2):=bO.after (bO.trans (bO.refl _ _) oz) eU;obtain⟨yH,wU⟩:=A_ ip dV;rw[<- XM,<- aU];clear ip dV XM aU;go_wp2_with fail;rw[<- yH.out,<- wU.out];refine(dF cb A L c (P+1000) 40 w2 (jw.since eU) zO zO).mono ?_;rintro e w3 ⟨x,rfl,hx,Bx,pz⟩;obtain⟨kn,Vi,tF,Vm⟩:=C_ Bx (bO.trans Cm.out pz) (oN.out.seen pz (zX dG.out)) (Hx2.out.seen pz zO)
 have yT:Hid (pb+1<=w3.heap.size):=by show _<=_;rw[<- qU.out];exact pz.size
 have hx6:x=0\/x=1\/x=2\/x=3\/x=4\/x=5\/6<=x:=zO
 clear Bx pz hx
 go_upto_block 0 with(fail)
 go_cut []from 11 to 55 (fun wx=>aeP cb rb pb A L c (P+1010) w0 wx)
 case first=>
  obtain⟨d0,d1,d2,d3⟩:=tF.cells
  have Fj:pb≠cb:=zX dG.out
  have Ga:Hid (rb+1<=w3.heap.size):=by show _<=_;have:=dG.out;have:=yT.out;omega
  rcases hx6 with rfl | rfl | rfl | rfl | rfl | rfl | hx6
  ·have wl:IntKind.i64.wrap (lb-1)=lb-1:=bU _ (zX ka.out) (zX ka.out)
   have ho:=dS w3 [0,8,9,lb-1] (by simp[maxLen]);have Ho:Hid (Own (w3.alloc (.cells #[.int .i64 0,.int .i64 8,.int .i64 9,.int .i64 (lb-1)] 3)) w3.heap.size (.slice (some ⟨w3.heap.size,0,none⟩) 4 4) [0,8,9,lb-1]):=ho;clear ho;go_wp2_with fail
   refine(sA cb A L c (P+1000+2) w3.heap.size w3.heap.size 4 [0,8,9,lb-1] _ (kn.out.since (ad _ (aa _))) zO Ho.out (zX Ga.out) zS zS).mono ?_
   rintro e w4 ⟨x,rfl,hx,mO,oa⟩;have oh:bO cb w3 w4:=((bO.refl cb w3).after (ad _ (aa _))).trans oa;obtain⟨kD,Fp⟩:=A_ oh mO
   have md:Hid (0<=x/\x<=9):=by have:=ka.out;show _/\_;simp at hx;omega
   have Qg:=tF.seen oh Fj;have j5:=zh Qg;clear oh oa mO hx d0 d1 d2 d3;obtain⟨d0,d1,d2,d3⟩:=Qg.cells;have f0:=frozen_of_row w4 _ 0 _ _ Qg;clear Qg;go_wp2;go_meet
   case rel=>
    have qM:=IC.out
    exact⟨x,dg,_,_,ns,es,j5.out.ahA x,(Vm.out.seen kD.out zO).set 0 _,⟨md.out,qM.deg,qM.nod,qM.edg⟩,(Fp.out.mono zO).agU fun j hj=>Zan _ _ _ j (by simp;have:=dG.out;omega),CB.setCell (bO.trans Vi.out kD.out) (.inl (by have:=dG.out;rw[iS.out];exact this)) _⟩
  ·have wl:IntKind.i64.wrap (dg+1)=dg+1:=bU _ (zX uz.out) (zX uz.out)
   have ho:=dS w3 [0,5,dg+1] (by simp[maxLen]);have Ho:Hid (Own (w3.alloc (.cells #[.int .i64 0,.int .i64 5,.int .i64 (dg+1)] 3)) w3.heap.size (.slice (some ⟨w3.heap.size,0,none⟩) 3 3) [0,5,dg+1]):=ho;clear ho;go_wp2_with fail
   refine(sA cb A L c (P+1000+2) w3.heap.size w3.heap.size 3 [0,5,dg+1] _ (kn.out.since (ad _ (aa _))) zO Ho.out (zX Ga.out) zS zS).mono ?_
   rintro e w4 ⟨x,rfl,hx,mO,oa⟩;have oh:bO cb w3 w4:=((bO.refl cb w3).after (ad _ (aa _))).trans oa;obtain⟨kD,Fp⟩:=A_ oh mO
   have md:Hid (0<=x/\x<=5):=by have:=uz.out;show _/\_;simp at hx;omega
   have Qg:=tF.seen oh Fj;have j5:=zh Qg;clear oh oa mO hx d0 d1 d2 d3;obtain⟨d0,d1,d2,d3⟩:=Qg.cells;have f1:=frozen_of_row w4 _ 1 _ _ Qg;clear Qg;go_wp2;go_meet
   case rel=>
    have qM:=IC.out
    exact⟨lb,x,_,_,ns,es,j5.out.ahB x,(Vm.out.seen kD.out zO).set 1 _,⟨qM.lab,md.out,qM.nod,qM.edg⟩,(Fp.out.mono zO).agU fun j hj=>Zan _ _ _ j (by simp;have:=dG.out;omega),CB.setCell (bO.trans Vi.out kD.out) (.inl (by have:=dG.out;rw[iS.out];exact this)) _⟩
  ·have ho:=dS w3 [0,0] (by simp[maxLen]);have Hu:Hid (Own ((w3.alloc (.cells #[.int .i64 0,.int .i64 0] 3)).alloc (.cells #[.slice (some ⟨w3.heap.size,0,none⟩) 2 2] 28)) w3.heap.size (.slice (some ⟨w3.heap.size,0,none⟩) 2 2) [0,0]):=Own.since ho (ad _ (aa _))
   have Hc:Hid (((w3.alloc (.cells #[.int .i64 0,.int .i64 0] 3)).alloc (.cells #[.slice (some ⟨w3.heap.size,0,none⟩) 2 2] 28)).cell? ⟨w3.heap.size+1,0,none⟩=some (.slice (some ⟨w3.heap.size,0,none⟩) 2 2)):=by show _=_;simp[go_sem]
   have Nv:Hid (es.length+1<=1000000):=by have:=IC.edg.1;show _<=_;simp at this;omega
   have Mq:Hid (pb<w3.heap.size):=yT;clear ho
   go_wp2_with (at_builtin;refine IB rfl _ _ rfl rfl Vm.swap (ad _ (ad _ (aa w3))) (w3.heap.size+1) _ _ rfl Hc Hu Nv Ga Mq ?_;intro g9 Ly w9 gj lO Qh hp9;have hB9:=tF.blk (hp9.trans ((ad _ (ad _ (aa w3))).below.block pb Mq));have HB9:=zh hB9;have yK:=zh gj;have yL:Hid (Below (rb+1) w3 w9):=Zbw ((ad _ (ad _ (aa w3))).below.mono Ga) lO;have k3:=hB9.cells.2.2.2;have f3:=frozen_of_row w9 _ 3 _ _ hB9;clear hB9 gj lO Qh hp9)
   go_meet
   case rel=>
    have qM:=IC.out
    exact⟨lb,dg,_,_,ns,es++[[0,0]],HB9.agX _,(yK.swap).set 3 _,⟨qM.lab,qM.deg,qM.nod,⟨by have:=H20.2;simp;omega,fun y hy=>by rcases Zar.1 hy with h | h;exact qM.edg.2 y h;rw[Zbm]at h;rw[h];simp⟩⟩,((kn.out.agU fun j hj=>yL.out.block j zO).mono zO).agU fun j hj=>Zan _ _ _ j (by simp;have:=dG.out;omega),CB.setCell (CB.trans Vi.out (CB.of (yL.out.mono (by rw[iS.out];omega)))) (.inl (by have:=dG.out;rw[iS.out];exact this)) _⟩
  ·have Rl:Hid (ns.length+1<=1000000):=by have:=IC.nod.1;show _<=_;simp at this;omega
   clear d0 d1 d2 d3;go_upto_region 10 with(fail);have K4:aT w3 pb lb dg (.slice A1 ns.length c1) (.slice A2 es.length c2):=tF;refine az (fun W=>aT W pb lb dg (.slice A1 ns.length c1) (.slice A2 es.length c2)) 8 [false,false,false,true,true,true,true,true] zK zK (show aT (World.drew w3) pb lb dg (.slice A1 ns.length c1) (.slice A2 es.length c2)from K4.agU (aj (aa _))) ?_
   simp only[ew,dM,zT]
   iterate 3 (apply bC rfl;(intro W hW;(have k0:=hW.cells.2.2.1);go_simp;with_reducible rfl);simp only[zA])
   obtain⟨W,dh⟩:=J_ (World.drew w3)
   rw[<- dh];have hW:=(show aT (World.drew w3) pb lb dg (.slice A1 ns.length c1) (.slice A2 es.length c2)from K4.agU (aj (aa _)));rw[<- dh]at hW;have fK:=zh dh;clear dh
   refine ca (v:=?_) (ob:=?_) rfl ?_ ?_ ?_;rotate_left 2
   (go_simp;first | with_reducible rfl | (refine⟨?_,?_⟩ <;> with_reducible rfl))
   exact(hW.agU (ad _ (aa _)));intro wa aaC acK
   replace hW:=acK
   clear acK
   have Hoa:Hid (Own wa W.heap.size (.slice (some ⟨W.heap.size,0,none⟩) 3 3) [(-1:Int),0,8]):=(by show Own _ _ _ _;rw[aaC];exact dS W [(-1:Int),0,8] (by simp[maxLen]))
   have py:Hid (ab w3 wa):=(by show ab _ _;rw[aaC,fK.out];exact ad _ (aj (aa _)))
   have HcW:Hid (cb<W.heap.size):=(by show _<_;rw[fK.out];show cb<w3.heap.size;have:=yT.out;have:=dG.out;omega)
   clear aaC
   (try simp only[zA])
   refine Or.inl ⟨rfl,?_⟩
   go_simp
   (with_reducible refine(WV cb A L c (P+1002) W.heap.size W.heap.size (-1) 0 8 _ (kn.out.since py.out) zO Hoa.out HcW.out).mono ?_)
   rintro e W' ⟨x,rfl,hx,f8,hC⟩;refine⟨_,rfl,(hW.seen hC Fj),?_⟩
   replace hW:=(hW.seen hC Fj)
   have HCx:Hid (bO cb w3 W'):=((bO.refl cb w3).after py).trans hC;have Fp:=zh f8
   have QO:Hid (-1<=x/\x<=8):=(by show _/\_;simp at hx;omega)
   have Hx4:Hid (ia W' (rb+1) pb (.slice A1 ns.length c1) (.slice A2 es.length c2) ns es):=Vm.seen HCx zO;have GK:Hid (rb+1<=W'.heap.size):=Zak Ga HCx.size;have aeQ:Hid (pb<W'.heap.size):=Zal yT HCx.size;clear hx f8 hC;obtain⟨w4,rfl⟩:=J_ W'
   (try simp only[zA])
   refine ca (v:=?_) (ob:=?_) rfl ?_ ?_ ?_;rotate_left 2
   (go_simp;first | with_reducible rfl | (refine⟨?_,?_⟩ <;> with_reducible rfl))
   exact(hW.agU (ad _ (aa _)));intro w5 o_ u_
   replace hW:=u_
   clear u_
   have vR:Hid (Own w5 w4.heap.size (.slice (some ⟨w4.heap.size,0,none⟩) 1 1) [x]):=(by show Own _ _ _ _;rw[o_];exact dS w4 [x] (by simp[maxLen]))
   have jF:Hid (ab w4 w5):=(by show ab _ _;rw[o_];exact ad _ (aa _))
   clear o_
   (try simp only[zA])
   refine ca (v:=?_) (ob:=?_) rfl ?_ ?_ ?_;rotate_left 2
   (go_simp;first | with_reducible rfl | (refine⟨?_,?_⟩ <;> with_reducible rfl))
   exact(hW.agU (ad _ (aa _)));intro w6 Fo Tf
   replace hW:=Tf
   clear Tf
   have MJ:Hid (Own w6 w4.heap.size (.slice (some ⟨w4.heap.size,0,none⟩) 1 1) [x]):=(by show Own _ _ _ _;rw[Fo];exact vR.since (ad _ (aa _)))
   have R3:Hid (w6.cell? ⟨w5.heap.size,0,none⟩=some (.slice (some ⟨w4.heap.size,0,none⟩) 1 1)):=(by show _=_;rw[Fo];simp)
   have C1:Hid (ab w4 w6):=(by show ab _ _;rw[Fo];exact ad _ jF)
   clear Fo
   (try simp only[zA])
   refine dA (fun Q' HQ=>?_)
   (refine IB rfl _ _ rfl rfl Hx4 C1 w5.heap.size _ _ rfl R3 MJ Rl GK aeQ ?_);intro g9 Ly w9 gj lO Qh hp9;refine HQ _ _ (hW.blk hp9) ?_;have yK:=zh gj;have yL:Hid (Below (rb+1) w4 w9):=Zbw (C1.below.mono GK) lO;replace hW:=hW.blk hp9;clear gj lO Qh hp9
   (try simp only[zA])
   simp only[bP];have HB9:=zh hW;have k2:=hW.cells.2.2.1;have f2:=frozen_of_row w9 _ 2 _ _ hW;clear hW K4;go_wp2;go_meet
   case rel=>
    have qM:=IC.out;have CS:=QO.out
    exact⟨lb,dg,_,_,ns++[[x]],es,HB9.aho _,(yK).set 2 _,⟨qM.lab,qM.deg,⟨by have:=H20.1;simp;omega,fun y hy=>by rcases Zar.1 hy with h | h;exact qM.nod.2 y h;rw[Zbm]at h;rw[h];simp;omega⟩,qM.edg⟩,((Fp.out.agU fun j hj=>yL.out.block j zO).mono zO).agU fun j hj=>Zan _ _ _ j (by simp;have:=dG.out;omega),CB.setCell (CB.trans (bO.trans Vi.out HCx.out) (CB.of (yL.out.mono (by rw[iS.out];omega)))) (.inl (by have:=dG.out;rw[iS.out];exact this)) _⟩
  ·have ho:=dS w3 [1,0] (by simp[maxLen]);have aG:=wY (w3.alloc (.cells #[.int .i64 1,.int .i64 0] 3)) w3.heap.size _ _ ho zS
   have dT:Hid (cS ((w3.alloc (.cells #[.int .i64 1,.int .i64 0] 3)).alloc (.cells #[.slice (some ⟨w3.heap.size,0,none⟩) 2 2] 28)) w3.heap.size (fun j=>j<=(w3.alloc (.cells #[.int .i64 1,.int .i64 0] 3)).heap.size) (.slice (some ⟨w3.heap.size+1,0,none⟩) 1 1) [[1,0]]):=(by show cS _ _ _ _ _;simpa using aG)
   have YK:ab w3 ((w3.alloc (.cells #[.int .i64 1,.int .i64 0] 3)).alloc (.cells #[.slice (some ⟨w3.heap.size,0,none⟩) 2 2] 28)):=ad _ (ad _ (aa w3));have hBB:=tF.agU YK;obtain⟨Hss,HBB⟩:=A_ YK hBB;have Mq:Hid (pb<w3.heap.size):=yT;have k3:=hBB.cells.2.2.2;have f3:=frozen_of_row _ _ 3 _ _ hBB;clear ho aG YK hBB d0 d1 d2 d3;go_wp2;go_meet
   case rel=>
    have qM:=IC.out
    exact⟨lb,dg,_,_,ns,[[1,0]],HBB.agX _,(ia.ahG Vm Hss dT Ga Mq).set 3 _,⟨qM.lab,qM.deg,qM.nod,⟨zS,fun y hy=>by rw[Zbm]at hy;rw[hy];simp⟩⟩,((kn.out.since Hss.out).mono zO).agU fun j hj=>Zan _ _ _ j (by simp;have:=dG.out;omega),CB.setCell (bO.after Vi.out Hss.out) (.inl (by have:=dG.out;rw[iS.out];exact this)) _⟩
  ·have f2:=frozen_of_row w3 _ 2 _ _ tF;go_wp2;go_meet
   case rel=>
    have qM:=IC.out
    exact⟨lb,dg,_,_,[],es,tF.out.aho _,(Vm.out.ahH).set 2 _,⟨qM.lab,qM.deg,⟨zS,zS⟩,qM.edg⟩,(kn.out.mono zO).agU fun j hj=>Zan _ _ _ j (by simp;have:=dG.out;omega),CB.setCell Vi.out (.inl (by have:=dG.out;rw[iS.out];exact this)) _⟩
  ·have g0:((x:Int)=0)=False:=by simp;omega
   have g1:((x:Int)=1)=False:=by simp;omega
   have g2:((x:Int)=2)=False:=by simp;omega
   have g3:((x:Int)=3)=False:=by simp;omega
   have g4:((x:Int)=4)=False:=by simp;omega
   have g5:((x:Int)=5)=False:=by simp;omega
   clear d0 d1 d2 d3;go_wp2;go_meet
   exact⟨lb,dg,_,_,ns,es,tF,Vm,IC,kn.mono zO,Vi⟩
 case rest=>
  obtain⟨lx,dx,a,b,l,m,hb,hx,qM,f8,hS⟩:=hcut
  obtain⟨A3,c3,rfl⟩:∃A c,a=.slice A l.length c:=by obtain⟨TN,TE,q1,-⟩:=hx;obtain⟨A,c,e,-⟩:=q1.form;exact⟨A,c,e⟩
  obtain⟨A4,c4,rfl⟩:∃A c,b=.slice A m.length c:=by obtain⟨TN,TE,-,q1,-⟩:=hx;obtain⟨A,c,e,-⟩:=q1.form;exact⟨A,c,e⟩
  obtain⟨wx,rfl⟩:=J_ wc
  have jp:=aY.seen hS zO;obtain⟨e0,e1,e2,e3⟩:=hb.cells;obtain⟨d0,d1,d2,d3⟩:=jp.cells;have f0:=frozen_of_row wx _ 0 _ _ jp;have f1:=frozen_of_row wx _ 1 _ _ jp;have f2:=frozen_of_row wx _ 2 _ _ jp;have f3:=frozen_of_row wx _ 3 _ _ jp;obtain⟨Hx,Ha,Jw,HS⟩:=C_ hx qM f8 hS;clear jp hb hx qM f8 hS;go_wp2;refine bodyPost_ret (v:=.agg #[.int .i64 lx,.int .i64 dx,.slice A3 l.length c3,.slice A4 m.length c4]) (by simp[results,Tryz.results72,go_sem, *]) rfl ?_
  have hst:∀j,j≠rb->((((wx.setCell ⟨rb,0,none⟩ (.int .i64 lx)).setCell ⟨rb,1,none⟩ (.int .i64 dx)).setCell ⟨rb,2,none⟩ (.slice A3 l.length c3)).setCell ⟨rb,3,none⟩ (.slice A4 m.length c4)).heap[j]?=wx.heap[j]?:=fun j h1=>by
   repeat rw[Zan _ _ _ j (by simp;omega)]
  refine⟨_,_,⟨lx,dx,l,m⟩,rfl,(fY.agV (Hx.own lx dx) fun j q1 q2=>hst j zO).mono (by rw[<- fX.out];omega),Ha.out,(Jw.out.mono zO).agU (fun j hj=>hst j zO),?_⟩
  rw[<- fX.out]
  exact(((((CB.of (ic.below.mono (by rw[fX.out];exact Zaj _))).trans (HS.mono (by rw[iS.out];omega))).setCell (.inl zS) _).setCell (.inl zS) _).setCell (.inl zS) _).setCell (.inl zS) _
section
variable {P : Program} {ops : Array Oper}
end
structure Ob (bo:Nat) (wa W:World) (ve vi vn:Value) (N:ao) (S:List Nat):Prop where
 own:aw W wa.heap.size ve vi vn N S
 box:bB W bo ve vi vn
 nb:bo∉S
 bb:wa.heap.size<=bo
 since:ab wa W
section
variable {bo : Nat} {wa W : World} {ve vi vn : Value} {N : ao} {S : List Nat}
theorem Ob.agU {W':World} (h:Ob bo wa W ve vi vn N S) (hs:ab W W'):Ob bo wa W' ve vi vn N S:=
 ⟨h.own.agU hs.below,h.box.below hs h.box.lt,h.nb,h.bb,h.since.after hs⟩
end
structure af4 (n:ao) (t:Nat) (N:ao):Prop where
 ends:N.ends.length=2*n.ends.length
 agT:N.agT.length=2*n.ends.length
 ids:N.ids.length=0
 row:∀(j:Nat) (fs:List (Int×Int)),N.ends[j]?=some fs->fs.length<=100/\(j<t->fs.length=(bZ n (j/2)).length)
end Go.Proofs.YtnioemnkfojmkaaGreat
