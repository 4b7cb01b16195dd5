/- Parts of the proof: walks of functions and plain laws. -/
import Derived.Test.YtnioemnkfojmkaaGreatP0
import Derived.Test.YtnioemnkfojmkaaGreatP24
import Derived.Test.YtnioemnkfojmkaaGreatP23
import Derived.Test.YtnioemnkfojmkaaGreatP22
import Derived.Test.YtnioemnkfojmkaaGreatP3
import Derived.OpenShut
import Derived.Test.YtnioemnkfojmkaaGreatP5
import Derived.Test.YtnioemnkfojmkaaGreatP2
set_option maxRecDepth 100000
set_option maxHeartbeats 16000000
namespace Go.Proofs.YtnioemnkfojmkaaGreat
open Go Go.RowKit
theorem MU (cb:Nat) (A:Option Addr) (L c P:Nat) (w:World) (h:bB w cb A L c P) (hP:P<=4611686018427387000):
  Calls Tryz.prog 30 #[.pointer (some ⟨cb,0,none⟩)] w fun e w'=>∃x:Int,e=.returned (.int .i64 x)/\(-1<=x/\x<=200001)/\bB w' cb A L c (P+2)/\CB cb w.heap.size w w':=by
 obtain⟨wL,hwL⟩:∃z,z=w.alloc (.cells #[.int .i64 0,.int .i64 1,.int .i64 5,.int .i64 20,.int .i64 100,.int .i64 1000,.int .i64 1000,.int .i64 5000,.int .i64 200000,.int .i64 200001,.int .i64 (-1)] 3):=⟨_,rfl⟩
 obtain⟨gl,Nk⟩:∃z,z=w.heap.size:=⟨_,rfl⟩
 have hsL:aa w wL:=by rw[hwL];exact ae _ (ad _)
 have JE:Own wL w.heap.size (.slice (some ⟨gl,0,none⟩) 11 11) [0,1,5,20,100,1000,1000,5000,200000,200001,-1]:=by rw[hwL,Nk];exact dv w [0,1,5,20,100,1000,1000,5000,200000,200001,-1] (by simp[maxLen])
 have Hcb:=zh h.lt;have abY:=zh (h.since hsL);have HsL:=zh hsL;have Rc:=zh JE;have HwL:=zh hwL;have Hgl:=zh Nk;clear h hsL JE hwL Nk
 go_enter Tryz.func30,Tryz.ntmps30
 go_wp2_with fail;rw[<- HwL.out,<- Hgl.out];refine(I7 cb A L c P w.heap.size gl 11 11 _ wL abY.out hP Rc.out rfl Hcb.out (by simp) (by simp)).mono ?_;rintro e w1 ⟨x,rfl,hx,df,hC⟩
 have hx6 : -1<=x/\x<=200001:=by
  simp only[List.mem_cons,List.not_mem_nil,or_false]at hx;omega
 have Hx:=zh hx6;have nt:=zh df;have HC:Hid (CB cb w.heap.size w w1):=(CB.of HsL.out.below).trans (hC.mono HsL.out.below.size);clear hx hx6 df hC;go_wp2;go_ret;exact⟨x,rfl,Hx.out,nt.out,HC.out⟩
def aad (w:World) (e:Ending) (w':World):Prop:=∃(a b:Value) (p:az) (ve vi vn:Value) (N:aw) (S:List Nat) (u:Value) (l:List (List Int)) (T:List Nat) (x:Int),e=.returned (.tuple #[.agg #[.int .i64 p.labels,.int .i64 p.degree,a,b],.agg #[ve,vi,vn],u,.int .i64 x])/\eZ w' w.heap.size a b p/\uB p/\au w' w.heap.size ve vi vn N S/\Bd N/\bz w' w.heap.size u l T/\Pw l/\(-1<=x/\x<=200001)/\Below w.heap.size w w'
theorem uB.sz {p:az} (h:uB p):ks p<=1048576:=by
 have hR:∀(l:List (List Int)),(∀y∈l,y.length<=5)->ya l<=5*l.length:=fun l=>by
  induction l with
  | nil=>intro _;simp[ya]
  | cons y l ih=>
   intro hy;have h1:=ih fun z hz=>hy z (List.mem_cons_of_mem _ hz)
   have h2:=hy y List.mem_cons_self;have h3:ya (y::l)=y.length+ya l:=by simp[ya]
   rw[h3,List.length_cons];omega
 have h1:=hR p.nodes fun y hy=>(h.nod.2 y hy).1
 have h2:=hR p.ac3 fun y hy=>(h.edg.2 y hy).1
 have:=h.nod.1
 have:=h.edg.1
 unfold ks oc
 omega
theorem Pw.sz {l:List (List Int)} (h:Pw l):oc l<=1048576:=by
 have hR:∀(l:List (List Int)),(∀y∈l,y.length<=201)->ya l<=201*l.length:=fun l=>by
  induction l with
  | nil=>intro _;simp[ya]
  | cons y l ih=>
   intro hy;have h1:=ih fun z hz=>hy z (List.mem_cons_of_mem _ hz)
   have h2:=hy y List.mem_cons_self;have h3:ya (y::l)=y.length+ya l:=by simp[ya]
   rw[h3,List.length_cons];omega
 have h1:=hR l fun y hy=>by
  obtain⟨k,hk⟩:=List.getElem?_of_mem hy;exact h.2 k y hk
 have:=h.1
 unfold oc;omega
def aae (w:World) (e:Ending) (w':World):Prop:=∃(a b:Value) (p:az) (ve vi vn:Value) (N:aw) (S:List Nat) (x:Int),e=.returned (.tuple #[.agg #[.int .i64 p.labels,.int .i64 p.degree,a,b],.agg #[ve,vi,vn],.int .i64 x])/\eZ w' w.heap.size a b p/\uB p/\au w' w.heap.size ve vi vn N S/\Bd N/\(-1<=x/\x<=200001)/\Below w.heap.size w w'
structure C3 (cb rb rn:Nat) (W W':World):Prop where
 os:W'.os=W.os
 tape:W'.tape=W.tape
 output:W'.output=W.output
 size:W.heap.size<=W'.heap.size
 block:∀k,k<W.heap.size->k≠cb->k≠rb->k≠rn->W'.heap[k]?=W.heap[k]?
section
variable {cb rb rn : Nat} {W W' kM : World}
theorem C3.refl (cb rb rn:Nat) (W:World):C3 cb rb rn W W:=⟨rfl,rfl,rfl,Nat.le_refl _,fun _ _ _ _ _=>rfl⟩
theorem C3.trans (h:C3 cb rb rn W W') (k:C3 cb rb rn W' kM):C3 cb rb rn W kM:=
 ⟨k.os.trans h.os,k.tape.trans h.tape,k.output.trans h.output,Nat.le_trans h.size k.size,fun j h1 h2 h3 h4=>(k.block j (Nat.lt_of_lt_of_le h1 h.size) h2 h3 h4).trans (h.block j h1 h2 h3 h4)⟩
theorem C3.of (h:CB cb W.heap.size W W'):C3 cb rb rn W W':=⟨h.os,h.tape,h.output,h.size,fun j h1 h2 _ _=>h.block j h1 h2⟩
theorem C3.since (h:aa W W'):C3 cb rb rn W W':=.of (CB.of h.below)
theorem C3.adg (cb rb rn:Nat) (W:World) (x y z u:Value):C3 cb rb rn W (Go.Proofs.YtnioemnkfojmkaaGreat.adg W rb x y z u):=⟨rfl,rfl,rfl,by rw[zH];exact Nat.le_refl _,fun j _ _ h _=>oZ _ _ _ _ _ _ h⟩
theorem C3.ac5 (cb rb rn:Nat) (W:World) (x y z:Value):C3 cb rb rn W (Go.Proofs.YtnioemnkfojmkaaGreat.ac5 W rn x y z):=⟨rfl,rfl,rfl,by rw[dV];exact Nat.le_refl _,fun j _ _ _ h=>co _ _ _ _ _ h⟩
theorem C3.adH (h:C3 cb rb rn W W') {B:Nat} {a b:Value} {p:az} (h1:cb<B) (h2:rb<B) (h3:rn<B) (ho:eZ W B a b p):eZ W' B a b p:=ho.ac4 fun j q1 q2=>h.block j q2 (by omega) (by omega) (by omega)
theorem C3.net (h:C3 cb rb rn W W') {B:Nat} {ve vi vn:Value} {N:aw} {S:List Nat} (h1:cb<B) (h2:rb<B) (h3:rn<B) (ho:au W B ve vi vn N S):au W' B ve vi vn N S:=ho.ac4 fun j hj=>h.block j (ho.range j hj).2 (by have:=(ho.range j hj).1;omega) (by have:=(ho.range j hj).1;omega) (by have:=(ho.range j hj).1;omega)
theorem C3.below (h:C3 cb rb rn W W') {w:World} (hb:Below w.heap.size w W/\w.heap.size<=cb/\w.heap.size<=rb/\w.heap.size<=rn):Below w.heap.size w W':=
 ⟨h.os.trans hb.1.os,h.tape.trans hb.1.tape,h.output.trans hb.1.output,Nat.le_trans hb.1.size h.size,fun j hj=>(h.block j (Nat.lt_of_lt_of_le hj hb.1.size) (by omega) (by omega) (by omega)).trans (hb.1.block j hj)⟩
end
def LV (B:Nat) (u:Value) (W:World):Prop:=∃l T,bz W B u l T/\Pw l
theorem LV.rel {cb rb rn B B':Nat} (h1:cb<B) (h2:rb<B) (h3:rn<B) (hB:B<=B'):∀u W W',C3 cb rb rn W W'->LV B' u W->LV B' u W':=fun _ _ _ h ⟨l,T,h4,h5⟩=>
 ⟨l,T,aI.ac4 h4 fun j hj=>h.block j (aI.range h4 j hj).2 (by have:=(aI.range h4 j hj).1;omega) (by have:=(aI.range h4 j hj).1;omega) (by have:=(aI.range h4 j hj).1;omega),h5⟩
def yG (u:Value) (_:World):Prop:=∃x:Int,u=.int .i64 x/\(-1<=x/\x<=200001)
theorem yC.adP {cb rb rn B B':Nat} (h1:cb<B) (h2:rb<B) (h3:rn<B) (hB:B<=B') {xs:List Int}:∀u W W',C3 cb rb rn W W'->yC B' xs u W->yC B' xs u W':=fun _ _ _ h ⟨g,q,h4,h5⟩=>
 ⟨g,q,h4,aQ h5 fun j hj=>by
  have hr:=World.ownsRow.lt h5 j (by simpa using hj)
  exact h.block j hr.2 (by omega) (by omega) (by omega)⟩
structure ie (cb rb rn:Nat) (A:Option Addr) (L c P0 K nc:Nat) (wS:World) (lb dg:Int) (a b x y z:Value) (q:Nat) (W:World):Prop where
 cur:q<=nc->bB W cb A L c (P0+K*q)
 rel:C3 cb rb rn wS W
 p0:q<=nc->aT W rb 0 0 (.slice none 0 0) (.slice none 0 0)
 p1:nc<q->aT W rb lb dg a b
 n0:q<=nc+1->bA W rn (.slice none 0 0) (.slice none 0 0) (.slice none 0 0)
 n1:nc+1<q->bA W rn x y z
section
variable {cb rb rn : Nat} {A : Option Addr} {L c P0 K nc : Nat} {wS W W' : World} {lb dg : Int} {a b x y z : Value} {q : Nat}
theorem ie.start (hc:bB wS cb A L c P0) (hp:aT wS rb 0 0 (.slice none 0 0) (.slice none 0 0)) (hn:bA wS rn (.slice none 0 0) (.slice none 0 0) (.slice none 0 0)) (hs:aa wS W):ie cb rb rn A L c P0 K nc wS lb dg a b x y z 0 W:=
 ⟨fun _=>(hc.since hs).mono (by omega),C3.since hs,fun _=>hp.ac2 hs,fun h=>by omega,fun _=>hn.since hs,fun h=>by omega⟩
theorem ie.since (h:ie cb rb rn A L c P0 K nc wS lb dg a b x y z q W) (hs:aa W W'):ie cb rb rn A L c P0 K nc wS lb dg a b x y z q W':=
 ⟨fun k=>(h.cur k).since hs,h.rel.trans (C3.since hs),fun k=>(h.p0 k).ac2 hs,fun k=>(h.p1 k).ac2 hs,fun k=>(h.n0 k).since hs,fun k=>(h.n1 k).since hs⟩
theorem ie.call (h:ie cb rb rn A L c P0 K nc wS lb dg a b x y z q W) (hq:q<nc) (hC:CB cb W.heap.size W W') {P':Nat} (df:bB W' cb A L c P') (hP:P'<=P0+K*q+K) (hE:rb≠cb/\rn≠cb/\rb≠rn/\rb<cb/\rn<cb\/rb≠cb/\rn≠cb/\rb≠rn):ie cb rb rn A L c P0 K nc wS lb dg a b x y z (q+1) W':=by
 have h1:rb≠cb:=by rcases hE with h | h <;> exact h.1
 have h2:rn≠cb:=by rcases hE with h | h <;> exact h.2.1
 exact⟨fun _=>df.mono (by rw[Nat.mul_add];omega),h.rel.trans (C3.of hC),fun _=>(h.p0 (by omega)).blk (hC.block _ (h.p0 (by omega)).lt h1),fun k=>by omega,fun _=>(hC.block _ (h.n0 (by omega)).lt h2).trans (h.n0 (by omega)),fun k=>by omega⟩
theorem ie.adB (h:ie cb rb rn A L c P0 K nc wS lb dg a b x y z q W) (hq:q=nc) (hE:rb≠cb/\rn≠cb/\rb≠rn/\rb<cb/\rn<cb\/rb≠cb/\rn≠cb/\rb≠rn):ie cb rb rn A L c P0 K nc wS lb dg a b x y z (q+1) (adg W rb (.int .i64 lb) (.int .i64 dg) a b):=by
 have h1:rb≠cb/\rn≠cb/\rb≠rn:=by rcases hE with h | h;exact⟨h.1,h.2.1,h.2.2.1⟩;exact h
 exact⟨fun k=>by omega,h.rel.trans (C3.adg _ _ _ _ _ _ _ _),fun k=>by omega,fun _=>(h.p0 (by omega)).adg _ _ _ _,fun _=>(oZ _ _ _ _ _ _ (Ne.symm h1.2.2)).trans (h.n0 (by omega)),fun k=>by omega⟩
theorem ie.adC (h:ie cb rb rn A L c P0 K nc wS lb dg a b x y z q W) (hq:q=nc+1) (hE:rb≠cb/\rn≠cb/\rb≠rn/\rb<cb/\rn<cb\/rb≠cb/\rn≠cb/\rb≠rn):ie cb rb rn A L c P0 K nc wS lb dg a b x y z (q+1) (ac5 W rn x y z):=by
 have h1:rb≠cb/\rn≠cb/\rb≠rn:=by rcases hE with h | h;exact⟨h.1,h.2.1,h.2.2.1⟩;exact h
 exact⟨fun k=>by omega,h.rel.trans (C3.ac5 _ _ _ _ _ _ _),fun k=>by omega,fun _=>(h.p1 (by omega)).blk (co _ _ _ _ _ h1.2.2),fun k=>by omega,fun _=>(h.n0 (by omega)).ac5 _ _ _⟩
theorem ie.skip (h:ie cb rb rn A L c P0 K nc wS lb dg a b x y z q W) (hq:nc+1<q):ie cb rb rn A L c P0 K nc wS lb dg a b x y z (q+1) W:=
 ⟨fun k=>by omega,h.rel,fun k=>by omega,fun _=>h.p1 (by omega),fun k=>by omega,fun _=>h.n1 (by omega)⟩
end
theorem so (v:Value) (L:Nat) (w:World) (h:Rg w v L) (hL:L<=1048576):
  Calls Tryz.prog 6 #[v] w (aad w):=by
 obtain⟨A,c,rfl,Zh,sy,U3⟩:=h;obtain⟨rb,fG⟩:∃z,z=w.heap.size:=⟨_,rfl⟩
 obtain⟨rn,Gn⟩:∃z,z=rb+1:=⟨_,rfl⟩
 obtain⟨xF,o7⟩:∃z,z=w.alloc (.cells #[.int .i64 0,.int .i64 0,.slice none 0 0,.slice none 0 0] 26):=⟨_,rfl⟩
 have Ds:aa w xF:=by rw[o7];exact ae _ (ad _)
 have uD:xF.heap.size=rn:=by rw[o7,Gn,fG];simp
 obtain⟨w0,ar⟩:∃z,z=xF.alloc (.cells #[.slice none 0 0,.slice none 0 0,.slice none 0 0] 30):=⟨_,rfl⟩
 have sj:aa xF w0:=by rw[ar];exact ae _ (ad _)
 have bu:aa w w0:=Ds.after sj
 have bG:aT w0 rb 0 0 (.slice none 0 0) (.slice none 0 0):=(show aT xF rb 0 0 (.slice none 0 0) (.slice none 0 0)by rw[o7,fG];exact aT.fresh _ _ _ _ _).ac2 sj
 have xU:bA w0 rn (.slice none 0 0) (.slice none 0 0) (.slice none 0 0):=by
  rw[ar,<- uD];show(xF.heap.push _)[xF.heap.size]?=_
  rw[Array.getElem?_push_size]
 have eu:w0.heap.size=rn+1:=by rw[ar,<- uD];simp
 obtain⟨w1,kT⟩:∃z,z=w0.alloc (.cells #[.slice A L c,.int .i64 0,.int .u64 0] 64):=⟨_,rfl⟩
 obtain⟨cb,Bi⟩:∃z,z=w0.heap.size:=⟨_,rfl⟩
 have dw:aa w0 w1:=by rw[kT];exact ae _ (ad _)
 have hcc:w1.heap[cb]?=some (.cells #[.slice A L c,.int .i64 0,.int .u64 0] 64):=by
  rw[kT,Bi];show(w0.heap.push _)[w0.heap.size]?=_
  rw[Array.getElem?_push_size]
 have nt:=zh (GS U3 (bu.after dw) (by omega) hcc hL Zh);have fE:=zh (bG.ac2 dw);have Ly:=zh (show bA w1 rn (.slice none 0 0) (.slice none 0 0) (.slice none 0 0)from xU.since dw);have jH:=zh (bu.after dw);have Mn:=zh o7;have cS:=zh ar;have Jo:=zh kT;have Hcb:Hid (cb=w0.heap.size):=Bi;have eY:=zh fG
 have HE:Hid (rn=rb+1/\cb=rn+1/\w1.heap.size=cb+1):=⟨Gn,by omega,by rw[kT,Bi];simp⟩
 clear U3 bu Ds sj dw bG xU hcc o7 ar kT Bi eu uD fG Gn
 go_enter Tryz.func6,Tryz.ntmps6
 go_upto_region 1 with(fail);rw[<- Mn.out,<- cS.out,<- eY.out,<- HE.out.1];go_upto_region 2 with(fail);rw[<- Jo.out,<- Hcb.out];go_wp2_with fail;refine(GU cb A L c 0 6 w1 nt.out (by omega) (by omega)).mono ?_;rintro e w2 ⟨a,b,p,ve,vi,vn,N,S,rfl,qc,mC,ey,FF,df,hC⟩
 obtain⟨A1,c1,rfl⟩:∃A c,a=.slice A p.nodes.length c:=by obtain⟨TN,TE,q1,-⟩:=qc;obtain⟨A,c,e,-⟩:=q1.form;exact⟨A,c,e⟩
 obtain⟨A2,c2,rfl⟩:∃A c,b=.slice A p.ac3.length c:=by obtain⟨TN,TE,-,q1,-⟩:=qc;obtain⟨A,c,e,-⟩:=q1.form;exact⟨A,c,e⟩
 obtain⟨D0,d0,rfl,-,-,-⟩:=id ey.read.1;obtain⟨D1,d1,rfl,-,-,-⟩:=id ey.read.2.1;obtain⟨D2,d2,rfl,-,-,-⟩:=id ey.read.2.2;obtain⟨lb,dg,ns,es⟩:=p;obtain⟨pb,da⟩:∃z,z=w2.heap.size:=⟨_,rfl⟩
 obtain⟨w3,gZ⟩:∃z,z=w2.alloc (.cells #[.int .i64 lb,.int .i64 dg,.slice A1 ns.length c1,.slice A2 es.length c2] 26):=⟨_,rfl⟩
 have gR:aa w2 w3:=by rw[gZ];exact ae _ (ad _)
 have qj:w3.heap.size=pb+1:=by rw[gZ,da];simp
 obtain⟨w4,mu⟩:∃z,z=w3.alloc (.cells #[.slice D0 N.ends.length d0,.slice D1 N.ids.length d1,.slice D2 N.ac1.length d2] 30):=⟨_,rfl⟩
 have qg:aa w3 w4:=by rw[mu];exact ae _ (ad _)
 have WP:w4.heap.size=pb+2:=by rw[mu];simp;omega
 have pf:=gR.after qg
 have xP:aT w4 pb lb dg (.slice A1 ns.length c1) (.slice A2 es.length c2):=(show aT w3 pb lb dg (.slice A1 ns.length c1) (.slice A2 es.length c2)by rw[gZ,da];exact aT.fresh _ _ _ _ _).ac2 qg
 have Nc:aZ w4 (pb+1) (.slice D0 N.ends.length d0) (.slice D1 N.ids.length d1) (.slice D2 N.ac1.length d2):=by rw[mu,<- qj];exact aZ.new _ _ _ _ _
 have UN:=hC.size;have hHE:=HE.out;have Nt:Hid (rb≠cb/\rn≠cb/\rb≠rn/\rb<cb/\rn<cb\/rb≠cb/\rn≠cb/\rb≠rn):=.inr ⟨by omega,by omega,by omega⟩
 have kn:Hid (bB w4 cb A L c 600000000000000000):=(df.since pf).mono (by omega);have iu:Hid (aT w4 rb 0 0 (.slice none 0 0) (.slice none 0 0)):=(fE.out.blk (hC.block rb (by omega) (by omega))).ac2 pf;have Hn4:Hid (bA w4 rn (.slice none 0 0) (.slice none 0 0) (.slice none 0 0)):=bA.since ((hC.block rn (by omega) (by omega)).trans Ly.out) pf;have PQ:Hid (eZ w4 w1.heap.size (.slice A1 ns.length c1) (.slice A2 es.length c2) ⟨lb,dg,ns,es⟩):=qc.since pf;have PR:Hid (au w4 w1.heap.size (.slice D0 N.ends.length d0) (.slice D1 N.ids.length d1) (.slice D2 N.ac1.length d2) N S):=ey.ac2 pf.below;have yz:=zh mC;have Hbd:=zh FF
 have xB:Below w.heap.size w w4:=by
  have h1:CB cb w.heap.size w1 w2:=hC.mono jH.out.below.size
  have h2:Below w.heap.size w1 w2:=h1.below (by have:=eY.out;omega)
  exact Below.trans (Below.trans jH.out.below h2) (pf.below.mono (Nat.le_trans jH.out.below.size UN))
 have Bx:Hid (cb<w1.heap.size/\rb<w1.heap.size/\rn<w1.heap.size/\(w.heap.size<=w1.heap.size/\w.heap.size<=w4.heap.size/\(Below w.heap.size w w4/\w.heap.size<=cb/\w.heap.size<=rb/\w.heap.size<=rn))):=⟨by omega,by omega,by omega,jH.out.below.size,xB.size,xB,by have:=eY.out;omega,by have:=eY.out;omega,by have:=eY.out;omega⟩
 have NB:Hid (w1.heap.size<=w4.heap.size):=Nat.le_trans UN pf.below.size;have HY:Hid (∀W,C3 cb rb rn w4 W->aT W pb lb dg (.slice A1 ns.length c1) (.slice A2 es.length c2)/\aZ W (pb+1) (.slice D0 N.ends.length d0) (.slice D1 N.ids.length d1) (.slice D2 N.ac1.length d2)):=fun W hW=>⟨xP.blk (hW.block pb xP.lt (by omega) (by omega) (by omega)),Nc.blk (hW.block (pb+1) Nc.lt (by omega) (by omega) (by omega))⟩
 have wO:=zh gZ;have XW:=zh mu;have cB:=zh da;clear qc mC ey FF df hC da gZ mu gR qj qg WP pf xP Nc UN hHE xB;go_upto_region 3 with(fail);rw[<- wO.out,<- XW.out,<- cB.out];refine lV 12 [5,7,8,9,10,11] (RW [nT (.agg #[.int .i64 lb,.int .i64 dg,.slice A1 ns.length c1,.slice A2 es.length c2]),nT (.agg #[.slice D0 N.ends.length d0,.slice D1 N.ids.length d1,.slice D2 N.ac1.length d2]),nT (.pointer (some ⟨cb,0,none⟩)),nT (.agg #[.int .i64 lb,.int .i64 dg,.slice A1 ns.length c1,.slice A2 es.length c2]),nT (.agg #[.slice D0 N.ends.length d0,.slice D1 N.ids.length d1,.slice D2 N.ac1.length d2]),LV w4.heap.size,nT (.pointer (some ⟨cb,0,none⟩)),yG,fun _ _=>True,fun _ _=>True,LV w4.heap.size,yG]) (ie cb rb rn A L c 600000000000000000 200000 2 w4 lb dg (.slice A1 ns.length c1) (.slice A2 es.length c2) (.slice D0 N.ends.length d0) (.slice D1 N.ids.length d1) (.slice D2 N.ac1.length d2)) (C3 cb rb rn) (RW.rel ?_) (by kernel_rfl) (by kernel_rfl) (by kernel_rfl) (by decide) (by kernel_rfl) (ie.start kn.out iu.out Hn4.out (ag (ad _))) ?_ ?_
 ·intro r hr;simp only[List.mem_cons,List.not_mem_nil,or_false]at hr;rcases hr with rfl | rfl | rfl | rfl | rfl | rfl | rfl | rfl | rfl | rfl | rfl | rfl
  ·exact fun _ _ _ _ h=>h
  ·exact fun _ _ _ _ h=>h
  ·exact fun _ _ _ _ h=>h
  ·exact fun _ _ _ _ h=>h
  ·exact fun _ _ _ _ h=>h
  ·exact LV.rel Bx.out.1 Bx.out.2.1 Bx.out.2.2.1 NB.out
  ·exact fun _ _ _ _ h=>h
  ·exact fun _ _ _ _ h=>h
  ·exact fun _ _ _ _ h=>h
  ·exact fun _ _ _ _ h=>h
  ·exact LV.rel Bx.out.1 Bx.out.2.1 Bx.out.2.2.1 NB.out
  ·exact fun _ _ _ _ h=>h
 ·intro i o hi ho V W q hq hr fH hd
  match i,ho with
  | 0,ho=>
   cases ho;clear hd hi hr fH;refine⟨rfl,?_⟩;simp only[aM,zR12,zG,zA]
   obtain⟨k0,k1,k2,k3⟩:=(HY.out W hq.rel).1.cells;refine cp (u:=.agg #[.int .i64 lb,.int .i64 dg,.slice A1 ns.length c1,.slice A2 es.length c2]) (W':=W) (by go_simp) ⟨hq,C3.refl _ _ _ _,rfl⟩
  | 1,ho=>
   cases ho;clear hd hi hr fH;refine⟨rfl,?_⟩;simp only[aM,zR12,zG,zA]
   obtain⟨k0,k1,k2,-,-,-⟩:=(HY.out W hq.rel).2.cells;refine cp (u:=.agg #[.slice D0 N.ends.length d0,.slice D1 N.ids.length d1,.slice D2 N.ac1.length d2]) (W':=W) (by go_simp) ⟨hq,C3.refl _ _ _ _,rfl⟩
  | 2,ho=>
   cases ho;clear hd hi hr fH;refine⟨rfl,?_⟩;simp only[aM,zR12,zG,zA]
   refine cp (u:=.pointer (some ⟨cb,0,none⟩)) (W':=W) (by go_simp) ⟨hq,C3.refl _ _ _ _,rfl⟩
  | 3,ho=>
   cases ho;clear hd hi hr fH;refine⟨rfl,?_⟩;simp only[aM,zR12,zG,zA]
   obtain⟨k0,k1,k2,k3⟩:=(HY.out W hq.rel).1.cells;refine cp (u:=.agg #[.int .i64 lb,.int .i64 dg,.slice A1 ns.length c1,.slice A2 es.length c2]) (W':=W) (by go_simp) ⟨hq,C3.refl _ _ _ _,rfl⟩
  | 4,ho=>
   cases ho;clear hd hi hr fH;refine⟨rfl,?_⟩;simp only[aM,zR12,zG,zA]
   obtain⟨k0,k1,k2,-,-,-⟩:=(HY.out W hq.rel).2.cells;refine cp (u:=.agg #[.slice D0 N.ends.length d0,.slice D1 N.ids.length d1,.slice D2 N.ac1.length d2]) (W':=W) (by go_simp) ⟨hq,C3.refl _ _ _ _,rfl⟩
  | 5,ho=>
   cases ho;have e2:(nT (.pointer (some ⟨cb,0,none⟩))) (V 2) W:=hd 2 (by decide +kernel);have e3:(nT (.agg #[.int .i64 lb,.int .i64 dg,.slice A1 ns.length c1,.slice A2 es.length c2])) (V 3) W:=hd 3 (by decide +kernel);have e4:(nT (.agg #[.slice D0 N.ends.length d0,.slice D1 N.ids.length d1,.slice D2 N.ac1.length d2])) (V 4) W:=hd 4 (by decide +kernel);have kX:Hid (0=q):=hr 0 rfl;clear hd hi hr fH;refine⟨rfl,?_⟩;simp only[aM,zR12,zG,zA]
   have e2:V 2=_:=e2;rw[e2];clear e2;have e3:V 3=_:=e3;rw[e3];clear e3;have e4:V 4=_:=e4;rw[e4];clear e4;obtain⟨g1,g2,g3,g4⟩:=Bx.out;refine jY (f:=29) (args:=#[.pointer (some ⟨cb,0,none⟩),.agg #[.int .i64 lb,.int .i64 dg,.slice A1 ns.length c1,.slice A2 es.length c2],.agg #[.slice D0 N.ends.length d0,.slice D1 N.ids.length d1,.slice D2 N.ac1.length d2]]) (W':=W) (by go_simp) ?_
   refine(Uo cb A L c (600000000000000000+200000*q) _ _ _ _ _ _ _ ⟨lb,dg,ns,es⟩ N S W (hq.cur (by have:=kX.out;omega)) (by have:=kX.out;omega) (hq.rel.adH g1 g2 g3 PQ.out) (hq.rel.net g1 g2 g3 PR.out) g1 g1 yz.out.sz Hbd.out.small.sz).mono ?_
   rintro e W' ⟨u,l,T,rfl,hou,I0,df,hC⟩
   exact⟨_,rfl,hq.call (by have:=kX.out;omega) hC df (by omega) Nt.out,C3.of hC,l,T,aI.mono hou hq.rel.size,I0⟩
  | 6,ho=>
   cases ho;clear hd hi hr fH;refine⟨rfl,?_⟩;simp only[aM,zR12,zG,zA]
   refine cp (u:=.pointer (some ⟨cb,0,none⟩)) (W':=W) (by go_simp) ⟨hq,C3.refl _ _ _ _,rfl⟩
  | 7,ho=>
   cases ho;have e6:(nT (.pointer (some ⟨cb,0,none⟩))) (V 6) W:=hd 6 (by decide +kernel);have kX:Hid (1=q):=hr 1 rfl;clear hd hi hr fH;refine⟨rfl,?_⟩;simp only[aM,zR12,zG,zA]
   have e6:V 6=_:=e6;rw[e6];clear e6;refine jY (f:=30) (args:=#[.pointer (some ⟨cb,0,none⟩)]) (W':=W) (by go_simp) ?_
   refine(MU cb A L c (600000000000000000+200000*q) W (hq.cur (by have:=kX.out;omega)) (by have:=kX.out;omega)).mono ?_
   rintro e W' ⟨x,rfl,hx,df,hC⟩
   exact⟨_,rfl,hq.call (by have:=kX.out;omega) hC df (by omega) Nt.out,C3.of hC,x,rfl,hx⟩
  | 8,ho=>
   cases ho;have e0:(nT (.agg #[.int .i64 lb,.int .i64 dg,.slice A1 ns.length c1,.slice A2 es.length c2])) (V 0) W:=hd 0 (by decide +kernel);have kX:Hid (2=q):=hr 2 rfl;clear hd hi hr fH;refine⟨rfl,?_⟩;simp only[aM,zR12,zG,zA]
   have e0:V 0=_:=e0;rw[e0];clear e0
   have dj:=hq.p0 (by have:=kX.out;omega)
   obtain⟨g0,g1,g2,g3⟩:=dj.cells;have f0:=frozen_of_row W _ 0 _ _ dj;have f1:=frozen_of_row W _ 1 _ _ dj;have f2:=frozen_of_row W _ 2 _ _ dj;have f3:=frozen_of_row W _ 3 _ _ dj
   refine jX (W':=adg W rb (.int .i64 lb) (.int .i64 dg) (.slice A1 ns.length c1) (.slice A2 es.length c2)) (by unfold adg;go_simp) ⟨hq.adB (by have:=kX.out;omega) Nt.out,C3.adg _ _ _ _ _ _ _ _,trivial⟩
  | 9,ho=>
   cases ho;have e1:(nT (.agg #[.slice D0 N.ends.length d0,.slice D1 N.ids.length d1,.slice D2 N.ac1.length d2])) (V 1) W:=hd 1 (by decide +kernel);have kX:Hid (3=q):=hr 3 rfl;clear hd hi hr fH;refine⟨rfl,?_⟩;simp only[aM,zR12,zG,zA]
   have e1:V 1=_:=e1;rw[e1];clear e1
   have dj:=hq.n0 (by have:=kX.out;omega)
   obtain⟨g0,g1,g2,f0,f1,f2⟩:=dj.box.cells
   refine jX (W':=ac5 W rn (.slice D0 N.ends.length d0) (.slice D1 N.ids.length d1) (.slice D2 N.ac1.length d2)) (by unfold ac5;go_simp) ⟨hq.adC (by have:=kX.out;omega) Nt.out,C3.ac5 _ _ _ _ _ _ _,trivial⟩
  | 10,ho=>
   cases ho;have e5:(LV w4.heap.size) (V 5) W:=hd 5 (by decide +kernel);have kX:Hid (4=q):=hr 4 rfl;clear hd hi hr fH;refine⟨rfl,?_⟩;simp only[aM,zR12,zG,zA]
   obtain⟨l,T,hl,I0⟩:=e5;obtain⟨u,hu⟩:∃u,V 5=u:=⟨_,rfl⟩
   rw[hu]at hl ⊢
   refine cp (u:=u) (W':=W) (by go_simp) ⟨hq.skip (by have:=kX.out;omega),C3.refl _ _ _ _,l,T,hl,I0⟩
  | 11,ho=>
   cases ho;have e7:(yG) (V 7) W:=hd 7 (by decide +kernel);have kX:Hid (5=q):=hr 5 rfl;clear hd hi hr fH;refine⟨rfl,?_⟩;simp only[aM,zR12,zG,zA]
   obtain⟨x,hv,hx⟩:=e7;have hv:V 7=_:=hv;rw[hv]
   refine cp (u:=.int .i64 x) (W':=W) (by go_simp) ⟨hq.skip (by have:=kX.out;omega),C3.refl _ _ _ _,x,rfl,hx⟩
  | i+12,ho=>omega
 intro V W q hq zi bH hV;have F4:5<q:=bH 11 5 (by omega) rfl;have e0:(nT (.agg #[.int .i64 lb,.int .i64 dg,.slice A1 ns.length c1,.slice A2 es.length c2])) (V 0) W:=hV 0 (by decide);have e1:(nT (.agg #[.slice D0 N.ends.length d0,.slice D1 N.ids.length d1,.slice D2 N.ac1.length d2])) (V 1) W:=hV 1 (by decide);have e2:(nT (.pointer (some ⟨cb,0,none⟩))) (V 2) W:=hV 2 (by decide);have e3:(nT (.agg #[.int .i64 lb,.int .i64 dg,.slice A1 ns.length c1,.slice A2 es.length c2])) (V 3) W:=hV 3 (by decide);have e4:(nT (.agg #[.slice D0 N.ends.length d0,.slice D1 N.ids.length d1,.slice D2 N.ac1.length d2])) (V 4) W:=hV 4 (by decide);have e5:(LV w4.heap.size) (V 5) W:=hV 5 (by decide);have e6:(nT (.pointer (some ⟨cb,0,none⟩))) (V 6) W:=hV 6 (by decide);have e7:(yG) (V 7) W:=hV 7 (by decide);have e8:(fun _ _=>True) (V 8) W:=hV 8 (by decide)
 have e9:(fun _ _=>True) (V 9) W:=hV 9 (by decide)
 have RN:(LV w4.heap.size) (V 10) W:=hV 10 (by decide);have e11:(yG) (V 11) W:=hV 11 (by decide);clear hV bH;have e0:V 0=_:=e0;have e1:V 1=_:=e1;have e2:V 2=_:=e2;have e3:V 3=_:=e3;have e4:V 4=_:=e4;obtain⟨u5,e5⟩:∃v,V 5=v:=⟨_,rfl⟩
 have e6:V 6=_:=e6;obtain⟨x7,e7,-⟩:=e7;obtain⟨l,T,Ro,I0⟩:=RN;obtain⟨u,RN⟩:∃v,V 10=v:=⟨_,rfl⟩
 rw[RN]at Ro;obtain⟨AU,cU,rfl,-,-,-⟩:=id Ro.read;have Hol:=zh Ro;have VS:=zh I0;clear Ro I0;obtain⟨x,e11,hx⟩:=e11;have Hx:=zh hx;clear hx;simp only[aM,zR12,zG]
 (try simp only[zA])
 simp only[List.drop_succ_cons,List.drop_zero];rw[e0,e1,e2,e3,e4,e5,e6,e7,RN,e11];clear e0 e1 e2 e3 e4 e5 e6 e7 RN e11;have hP1:=hq.p1 (by omega);have hN1:=hq.n1 (by omega);obtain⟨y0,y1,y2,y3⟩:=hP1.cells;obtain⟨z0,z1,z2,-,-,-⟩:=hN1.box.cells;have UO:=zh hq.rel;clear hP1 hN1 hq F4 zi;go_wp2;refine bodyPost_ret (v:=.tuple #[.agg #[.int .i64 lb,.int .i64 dg,.slice A1 ns.length c1,.slice A2 es.length c2],.agg #[.slice D0 N.ends.length d0,.slice D1 N.ids.length d1,.slice D2 N.ac1.length d2],.slice AU l.length cU,.int .i64 x]) (by simp[results,Tryz.results6,go_sem, *]) rfl ?_;have hrel:=UO.out;obtain⟨g1,g2,g3,g4⟩:=Bx.out;have UP:=hrel.adH g1 g2 g3 PQ.out;have EJ:=hrel.net g1 g2 g3 PR.out;refine⟨_,_,⟨lb,dg,ns,es⟩,_,_,_,N,S,_,l,T,x,rfl,UP.mono g4.1,yz.out,EJ.mono g4.1,Hbd.out,aI.mono Hol.out g4.2.1,VS.out,Hx.out,hrel.below g4.2.2⟩
theorem nk (v:Value) (L:Nat) (w:World) (h:Rg w v L) (hL:L<=1048576):
  Calls Tryz.prog 13 #[v] w (aae w):=by
 obtain⟨A,c,rfl,Zh,sy,U3⟩:=h;obtain⟨rb,fG⟩:∃z,z=w.heap.size:=⟨_,rfl⟩
 obtain⟨rn,Gn⟩:∃z,z=rb+1:=⟨_,rfl⟩
 obtain⟨xF,o7⟩:∃z,z=w.alloc (.cells #[.int .i64 0,.int .i64 0,.slice none 0 0,.slice none 0 0] 26):=⟨_,rfl⟩
 have Ds:aa w xF:=by rw[o7];exact ae _ (ad _)
 have uD:xF.heap.size=rn:=by rw[o7,Gn,fG];simp
 obtain⟨w0,ar⟩:∃z,z=xF.alloc (.cells #[.slice none 0 0,.slice none 0 0,.slice none 0 0] 30):=⟨_,rfl⟩
 have sj:aa xF w0:=by rw[ar];exact ae _ (ad _)
 have bu:aa w w0:=Ds.after sj
 have bG:aT w0 rb 0 0 (.slice none 0 0) (.slice none 0 0):=(show aT xF rb 0 0 (.slice none 0 0) (.slice none 0 0)by rw[o7,fG];exact aT.fresh _ _ _ _ _).ac2 sj
 have xU:bA w0 rn (.slice none 0 0) (.slice none 0 0) (.slice none 0 0):=by
  rw[ar,<- uD];show(xF.heap.push _)[xF.heap.size]?=_
  rw[Array.getElem?_push_size]
 have eu:w0.heap.size=rn+1:=by rw[ar,<- uD];simp
 obtain⟨w1,kT⟩:∃z,z=w0.alloc (.cells #[.slice A L c,.int .i64 0,.int .u64 0] 64):=⟨_,rfl⟩
 obtain⟨cb,Bi⟩:∃z,z=w0.heap.size:=⟨_,rfl⟩
 have dw:aa w0 w1:=by rw[kT];exact ae _ (ad _)
 have hcc:w1.heap[cb]?=some (.cells #[.slice A L c,.int .i64 0,.int .u64 0] 64):=by
  rw[kT,Bi];show(w0.heap.push _)[w0.heap.size]?=_
  rw[Array.getElem?_push_size]
 have nt:=zh (GS U3 (bu.after dw) (by omega) hcc hL Zh);have fE:=zh (bG.ac2 dw);have Ly:=zh (show bA w1 rn (.slice none 0 0) (.slice none 0 0) (.slice none 0 0)from xU.since dw);have jH:=zh (bu.after dw);have Mn:=zh o7;have cS:=zh ar;have Jo:=zh kT;have Hcb:Hid (cb=w0.heap.size):=Bi;have eY:=zh fG
 have HE:Hid (rn=rb+1/\cb=rn+1/\w1.heap.size=cb+1):=⟨Gn,by omega,by rw[kT,Bi];simp⟩
 clear U3 bu Ds sj dw bG xU hcc o7 ar kT Bi eu uD fG Gn
 go_enter Tryz.func13,Tryz.ntmps13
 go_upto_region 1 with(fail);rw[<- Mn.out,<- cS.out,<- eY.out,<- HE.out.1];go_upto_region 2 with(fail);rw[<- Jo.out,<- Hcb.out];go_wp2_with fail;refine(GU cb A L c 0 4 w1 nt.out (by omega) (by omega)).mono ?_;rintro e w2 ⟨a,b,p,ve,vi,vn,N,S,rfl,qc,mC,ey,FF,df,hC⟩
 obtain⟨A1,c1,rfl⟩:∃A c,a=.slice A p.nodes.length c:=by obtain⟨TN,TE,q1,-⟩:=qc;obtain⟨A,c,e,-⟩:=q1.form;exact⟨A,c,e⟩
 obtain⟨A2,c2,rfl⟩:∃A c,b=.slice A p.ac3.length c:=by obtain⟨TN,TE,-,q1,-⟩:=qc;obtain⟨A,c,e,-⟩:=q1.form;exact⟨A,c,e⟩
 obtain⟨D0,d0,rfl,-,-,-⟩:=id ey.read.1;obtain⟨D1,d1,rfl,-,-,-⟩:=id ey.read.2.1;obtain⟨D2,d2,rfl,-,-,-⟩:=id ey.read.2.2;obtain⟨lb,dg,ns,es⟩:=p;obtain⟨pb,da⟩:∃z,z=w2.heap.size:=⟨_,rfl⟩
 obtain⟨w3,gZ⟩:∃z,z=w2.alloc (.cells #[.int .i64 lb,.int .i64 dg,.slice A1 ns.length c1,.slice A2 es.length c2] 26):=⟨_,rfl⟩
 have gR:aa w2 w3:=by rw[gZ];exact ae _ (ad _)
 have qj:w3.heap.size=pb+1:=by rw[gZ,da];simp
 obtain⟨w4,mu⟩:∃z,z=w3.alloc (.cells #[.slice D0 N.ends.length d0,.slice D1 N.ids.length d1,.slice D2 N.ac1.length d2] 30):=⟨_,rfl⟩
 have qg:aa w3 w4:=by rw[mu];exact ae _ (ad _)
 have WP:w4.heap.size=pb+2:=by rw[mu];simp;omega
 have pf:=gR.after qg
 have xP:aT w4 pb lb dg (.slice A1 ns.length c1) (.slice A2 es.length c2):=(show aT w3 pb lb dg (.slice A1 ns.length c1) (.slice A2 es.length c2)by rw[gZ,da];exact aT.fresh _ _ _ _ _).ac2 qg
 have Nc:aZ w4 (pb+1) (.slice D0 N.ends.length d0) (.slice D1 N.ids.length d1) (.slice D2 N.ac1.length d2):=by rw[mu,<- qj];exact aZ.new _ _ _ _ _
 have UN:=hC.size;have hHE:=HE.out;have Nt:Hid (rb≠cb/\rn≠cb/\rb≠rn/\rb<cb/\rn<cb\/rb≠cb/\rn≠cb/\rb≠rn):=.inr ⟨by omega,by omega,by omega⟩
 have kn:Hid (bB w4 cb A L c 600000000000000000):=(df.since pf).mono (by omega);have iu:Hid (aT w4 rb 0 0 (.slice none 0 0) (.slice none 0 0)):=(fE.out.blk (hC.block rb (by omega) (by omega))).ac2 pf;have Hn4:Hid (bA w4 rn (.slice none 0 0) (.slice none 0 0) (.slice none 0 0)):=bA.since ((hC.block rn (by omega) (by omega)).trans Ly.out) pf;have PQ:Hid (eZ w4 w1.heap.size (.slice A1 ns.length c1) (.slice A2 es.length c2) ⟨lb,dg,ns,es⟩):=qc.since pf;have PR:Hid (au w4 w1.heap.size (.slice D0 N.ends.length d0) (.slice D1 N.ids.length d1) (.slice D2 N.ac1.length d2) N S):=ey.ac2 pf.below;have yz:=zh mC;have Hbd:=zh FF
 have xB:Below w.heap.size w w4:=by
  have h1:CB cb w.heap.size w1 w2:=hC.mono jH.out.below.size
  have h2:Below w.heap.size w1 w2:=h1.below (by have:=eY.out;omega)
  exact Below.trans (Below.trans jH.out.below h2) (pf.below.mono (Nat.le_trans jH.out.below.size UN))
 have Bx:Hid (cb<w1.heap.size/\rb<w1.heap.size/\rn<w1.heap.size/\(w.heap.size<=w1.heap.size/\w.heap.size<=w4.heap.size/\(Below w.heap.size w w4/\w.heap.size<=cb/\w.heap.size<=rb/\w.heap.size<=rn))):=⟨by omega,by omega,by omega,jH.out.below.size,xB.size,xB,by have:=eY.out;omega,by have:=eY.out;omega,by have:=eY.out;omega⟩
 have NB:Hid (w1.heap.size<=w4.heap.size):=Nat.le_trans UN pf.below.size;have HY:Hid (∀W,C3 cb rb rn w4 W->aT W pb lb dg (.slice A1 ns.length c1) (.slice A2 es.length c2)/\aZ W (pb+1) (.slice D0 N.ends.length d0) (.slice D1 N.ids.length d1) (.slice D2 N.ac1.length d2)):=fun W hW=>⟨xP.blk (hW.block pb xP.lt (by omega) (by omega) (by omega)),Nc.blk (hW.block (pb+1) Nc.lt (by omega) (by omega) (by omega))⟩
 have wO:=zh gZ;have XW:=zh mu;have cB:=zh da;clear qc mC ey FF df hC da gZ mu gR qj qg WP pf xP Nc UN hHE xB;go_upto_region 3 with(fail);rw[<- wO.out,<- XW.out,<- cB.out];refine lV 8 [4,5,6,7] (RW [nT (.agg #[.int .i64 lb,.int .i64 dg,.slice A1 ns.length c1,.slice A2 es.length c2]),nT (.agg #[.slice D0 N.ends.length d0,.slice D1 N.ids.length d1,.slice D2 N.ac1.length d2]),nT (.pointer (some ⟨cb,0,none⟩)),yC w4.heap.size [1,2,3,5,10,50,51,0],yG,fun _ _=>True,fun _ _=>True,yG]) (ie cb rb rn A L c 600000000000000000 200000 1 w4 lb dg (.slice A1 ns.length c1) (.slice A2 es.length c2) (.slice D0 N.ends.length d0) (.slice D1 N.ids.length d1) (.slice D2 N.ac1.length d2)) (C3 cb rb rn) (RW.rel ?_) (by kernel_rfl) (by kernel_rfl) (by kernel_rfl) (by decide) (by kernel_rfl) (ie.start kn.out iu.out Hn4.out (ag (ad _))) ?_ ?_
 ·intro r hr;simp only[List.mem_cons,List.not_mem_nil,or_false]at hr;rcases hr with rfl | rfl | rfl | rfl | rfl | rfl | rfl | rfl
  ·exact fun _ _ _ _ h=>h
  ·exact fun _ _ _ _ h=>h
  ·exact fun _ _ _ _ h=>h
  ·exact yC.adP Bx.out.1 Bx.out.2.1 Bx.out.2.2.1 NB.out
  ·exact fun _ _ _ _ h=>h
  ·exact fun _ _ _ _ h=>h
  ·exact fun _ _ _ _ h=>h
  ·exact fun _ _ _ _ h=>h
 ·intro i o hi ho V W q hq hr fH hd
  match i,ho with
  | 0,ho=>
   cases ho;clear hd hi hr fH;refine⟨rfl,?_⟩;simp only[aM,zR8,zG,zA]
   obtain⟨k0,k1,k2,k3⟩:=(HY.out W hq.rel).1.cells;refine cp (u:=.agg #[.int .i64 lb,.int .i64 dg,.slice A1 ns.length c1,.slice A2 es.length c2]) (W':=W) (by go_simp) ⟨hq,C3.refl _ _ _ _,rfl⟩
  | 1,ho=>
   cases ho;clear hd hi hr fH;refine⟨rfl,?_⟩;simp only[aM,zR8,zG,zA]
   obtain⟨k0,k1,k2,-,-,-⟩:=(HY.out W hq.rel).2.cells;refine cp (u:=.agg #[.slice D0 N.ends.length d0,.slice D1 N.ids.length d1,.slice D2 N.ac1.length d2]) (W':=W) (by go_simp) ⟨hq,C3.refl _ _ _ _,rfl⟩
  | 2,ho=>
   cases ho;clear hd hi hr fH;refine⟨rfl,?_⟩;simp only[aM,zR8,zG,zA]
   refine cp (u:=.pointer (some ⟨cb,0,none⟩)) (W':=W) (by go_simp) ⟨hq,C3.refl _ _ _ _,rfl⟩
  | 3,ho=>
   cases ho;clear hd hi hr fH;refine⟨rfl,?_⟩;simp only[aM,zR8,zG,zA]
   refine cp (u:=.slice (some ⟨W.heap.size,0,none⟩) 8 8) (W':=W.alloc (.cells #[.int .i64 1,.int .i64 2,.int .i64 3,.int .i64 5,.int .i64 10,.int .i64 50,.int .i64 51,.int .i64 0] 3)) (by go_simp) ⟨hq.since (ae _ (ad _)),C3.since (ae _ (ad _)),yC.new W [1,2,3,5,10,50,51,0] (by simp[maxLen]) hq.rel.size⟩
  | 4,ho=>
   cases ho;have e2:(nT (.pointer (some ⟨cb,0,none⟩))) (V 2) W:=hd 2 (by decide +kernel);have e3:(yC w4.heap.size [1,2,3,5,10,50,51,0]) (V 3) W:=hd 3 (by decide +kernel);have kX:Hid (0=q):=hr 0 rfl;clear hd hi hr fH;refine⟨rfl,?_⟩;simp only[aM,zR8,zG,zA]
   have e2:V 2=_:=e2;rw[e2];clear e2;obtain⟨g,qq,hg,aC⟩:=e3;have hg:V 3=.slice (some ⟨g,0,none⟩) 8 qq:=hg;rw[hg]at aC ⊢;clear hg;refine jY (f:=46) (args:=#[.pointer (some ⟨cb,0,none⟩),.slice (some ⟨g,0,none⟩) 8 qq]) (W':=W) (by go_simp) ?_
   refine(kz cb A L c (600000000000000000+200000*q) w4.heap.size g qq [1,2,3,5,10,50,51,0] W (hq.cur (by have:=kX.out;omega)) (by have:=kX.out;omega) aC (Nat.lt_of_lt_of_le Bx.out.1 NB.out) (by simp) (by simp)).mono ?_
   rintro e W' ⟨x,rfl,hx,df,hC⟩
   exact⟨_,rfl,hq.call (by have:=kX.out;omega) hC df (by omega) Nt.out,C3.of hC,x,rfl,by simp only[List.mem_cons,List.not_mem_nil,or_false]at hx;omega⟩
  | 5,ho=>
   cases ho;have e0:(nT (.agg #[.int .i64 lb,.int .i64 dg,.slice A1 ns.length c1,.slice A2 es.length c2])) (V 0) W:=hd 0 (by decide +kernel);have kX:Hid (1=q):=hr 1 rfl;clear hd hi hr fH;refine⟨rfl,?_⟩;simp only[aM,zR8,zG,zA]
   have e0:V 0=_:=e0;rw[e0];clear e0
   have dj:=hq.p0 (by have:=kX.out;omega)
   obtain⟨g0,g1,g2,g3⟩:=dj.cells;have f0:=frozen_of_row W _ 0 _ _ dj;have f1:=frozen_of_row W _ 1 _ _ dj;have f2:=frozen_of_row W _ 2 _ _ dj;have f3:=frozen_of_row W _ 3 _ _ dj
   refine jX (W':=adg W rb (.int .i64 lb) (.int .i64 dg) (.slice A1 ns.length c1) (.slice A2 es.length c2)) (by unfold adg;go_simp) ⟨hq.adB (by have:=kX.out;omega) Nt.out,C3.adg _ _ _ _ _ _ _ _,trivial⟩
  | 6,ho=>
   cases ho;have e1:(nT (.agg #[.slice D0 N.ends.length d0,.slice D1 N.ids.length d1,.slice D2 N.ac1.length d2])) (V 1) W:=hd 1 (by decide +kernel);have kX:Hid (2=q):=hr 2 rfl;clear hd hi hr fH;refine⟨rfl,?_⟩;simp only[aM,zR8,zG,zA]
   have e1:V 1=_:=e1;rw[e1];clear e1
   have dj:=hq.n0 (by have:=kX.out;omega)
   obtain⟨g0,g1,g2,f0,f1,f2⟩:=dj.box.cells
   refine jX (W':=ac5 W rn (.slice D0 N.ends.length d0) (.slice D1 N.ids.length d1) (.slice D2 N.ac1.length d2)) (by unfold ac5;go_simp) ⟨hq.adC (by have:=kX.out;omega) Nt.out,C3.ac5 _ _ _ _ _ _ _,trivial⟩
  | 7,ho=>
   cases ho;have e4:(yG) (V 4) W:=hd 4 (by decide +kernel);have kX:Hid (3=q):=hr 3 rfl;clear hd hi hr fH;refine⟨rfl,?_⟩;simp only[aM,zR8,zG,zA]
   obtain⟨x,hv,hx⟩:=e4;have hv:V 4=_:=hv;rw[hv]
   refine cp (u:=.int .i64 x) (W':=W) (by go_simp) ⟨hq.skip (by have:=kX.out;omega),C3.refl _ _ _ _,x,rfl,hx⟩
  | i+8,ho=>omega
 intro V W q hq zi bH hV;have F4:3<q:=bH 7 3 (by omega) rfl;have e0:(nT (.agg #[.int .i64 lb,.int .i64 dg,.slice A1 ns.length c1,.slice A2 es.length c2])) (V 0) W:=hV 0 (by decide);have e1:(nT (.agg #[.slice D0 N.ends.length d0,.slice D1 N.ids.length d1,.slice D2 N.ac1.length d2])) (V 1) W:=hV 1 (by decide);have e2:(nT (.pointer (some ⟨cb,0,none⟩))) (V 2) W:=hV 2 (by decide);have e3:(yC w4.heap.size [1,2,3,5,10,50,51,0]) (V 3) W:=hV 3 (by decide);have e4:(yG) (V 4) W:=hV 4 (by decide);have e5:(fun _ _=>True) (V 5) W:=hV 5 (by decide)
 have e6:(fun _ _=>True) (V 6) W:=hV 6 (by decide)
 have e7:(yG) (V 7) W:=hV 7 (by decide);clear hV bH;have e0:V 0=_:=e0;have e1:V 1=_:=e1;have e2:V 2=_:=e2;obtain⟨g3,q3,e3,-⟩:=e3;obtain⟨x4,e4,-⟩:=e4;obtain⟨x,e7,hx⟩:=e7;have Hx:=zh hx;clear hx;simp only[aM,zR8,zG]
 (try simp only[zA])
 simp only[List.drop_succ_cons,List.drop_zero];rw[e0,e1,e2,e3,e4,e7];clear e0 e1 e2 e3 e4 e7;have hP1:=hq.p1 (by omega);have hN1:=hq.n1 (by omega);obtain⟨y0,y1,y2,y3⟩:=hP1.cells;obtain⟨z0,z1,z2,-,-,-⟩:=hN1.box.cells;have UO:=zh hq.rel;clear hP1 hN1 hq F4 zi;go_wp2;refine bodyPost_ret (v:=.tuple #[.agg #[.int .i64 lb,.int .i64 dg,.slice A1 ns.length c1,.slice A2 es.length c2],.agg #[.slice D0 N.ends.length d0,.slice D1 N.ids.length d1,.slice D2 N.ac1.length d2],.int .i64 x]) (by simp[results,Tryz.results13,go_sem, *]) rfl ?_;have hrel:=UO.out;obtain⟨g1,g2,g3,g4⟩:=Bx.out;have UP:=hrel.adH g1 g2 g3 PQ.out;have EJ:=hrel.net g1 g2 g3 PR.out;refine⟨_,_,⟨lb,dg,ns,es⟩,_,_,_,N,S,x,rfl,UP.mono g4.1,yz.out,EJ.mono g4.1,Hbd.out,Hx.out,hrel.below g4.2.2⟩
theorem Bj (v u:Value) (xs ys:List Int) (w:World) (h:bO w v xs) (h':bO w u ys):
  Calls Tryz.prog 27 #[v,u] w fun e w'=>e=.returned (.bool (decide (xs=ys)))/\∃m,w'=w.drewN m:=by
 obtain⟨A,c,rfl,f_,hm,hA⟩:=h;obtain⟨B,d,rfl,hld,uc,hB⟩:=h';unfold maxLen at hm uc;have HA:=zh hA;have HB:=zh hB;clear hA hB
 by_cases hl:xs.length=ys.length
 ·have Hl:=zh hl;have xW:xs.length<=ys.length:=by omega
  have zO:ys.length<=xs.length:=by omega
  have hb:((xs.length:Int) != (ys.length:Int))=false:=by simp[hl]
  clear hl
  go_enter Tryz.func27,Tryz.ntmps27
  go_wp2
  go_loopw [13] (fun i wr=>∃k n:Nat,k<=xs.length/\i=.int .i64 k/\xs.take k=ys.take k/\wr=w.drewN n) (fun i _=>xs.length-(intOf i).toNat)
  case atStart=>exact⟨0,0,Nat.zero_le _,rfl,by simp,rfl⟩
  case round=>
   obtain⟨k,n,hk,rfl,it,rfl⟩:=hrel;have lk:=zh it;clear it
   by_cases aH:k<xs.length
   ·obtain⟨x,hx⟩:=ay xs k aH;obtain⟨y,hy⟩:=ay ys k (by omega);obtain⟨b,off,rfl,fJ⟩:=HA.out k x hx;obtain⟨b',md,rfl,Rt⟩:=HB.out k y hy;have Hx:=zh hx;have Hy:=zh hy;clear hx hy;cases yR:(x != y)
    all_goals
     have Nu:=zh yR;go_wp2
     go_quiet (fail)
     go_wp2
    ·go_roundw
     case rel=>exact⟨k+1,_,by omega,by go_num,by rw[bX Hx.out,bX Hy.out,lk.out,show x=y by simpa using Nu.out],rfl⟩
     case measure=>simp[intOf];omega
    ·go_ret;refine⟨aB (decide_eq_false fun e=>?_),dr1 _ _ _⟩
     have h1:=Hx.out;rw[e,Hy.out]at h1;have h2:=Nu.out;simp at h1 h2
     exact h2 h1.symm
   ·go_wp2;go_ret;exact⟨dn (decide_eq_true (tq Hl.out lk.out aH)),_,rfl⟩
 ·have hb:((xs.length:Int) != (ys.length:Int))=true:=by simp;omega
  have Hl:=zh hl;clear hl
  go_enter Tryz.func27,Tryz.ntmps27
  go_wp2;go_ret;exact⟨aB (decide_eq_false fun e=>Hl.out (by rw[e])),0,rfl⟩
theorem FR (v u:Value) (xs ys:List Int) (w:World) (h:bO w v xs) (h':bO w u ys):
  Calls Tryz.prog 27 #[v,u] w fun e w'=>e=.returned (.bool (NK xs ys))/\Below w.heap.size w w':=(Bj v u xs ys w h h').mono fun _ _ ⟨he,m,hm⟩=>⟨he,by rw[hm];exact below_drewN (Below.refl _ _) m⟩
theorem yH (v u:Value) (xs ys:List (List Int)) (w:World) (h:a_ w v xs) (h':a_ w u ys):
  Calls Tryz.prog 9 #[v,u] w fun e w'=>e=.returned (.bool (decide (xs=ys)))/\Below w.heap.size w w':=by
 obtain⟨A,c,rfl,f_,hm,hA⟩:=h;obtain⟨B,d,rfl,hld,uc,hB⟩:=h';unfold maxLen at hm uc;have HA:=zh hA;have HB:=zh hB;clear hA hB
 by_cases hl:xs.length=ys.length
 ·have Hl:=zh hl;have xW:xs.length<=ys.length:=by omega
  have zO:ys.length<=xs.length:=by omega
  have hb:((xs.length:Int) != (ys.length:Int))=false:=by simp[hl]
  clear hl
  go_enter Tryz.func9,Tryz.ntmps9
  go_wp2
  go_loopw [13] (fun i wr=>∃k:Nat,k<=xs.length/\i=.int .i64 k/\xs.take k=ys.take k/\Below w.heap.size w wr) (fun i _=>xs.length-(intOf i).toNat)
  case atStart=>exact⟨0,Nat.zero_le _,rfl,by simp,Below.refl _ _⟩
  case round=>
   obtain⟨k,hk,rfl,it,sS⟩:=hrel;have lk:=zh it;have Gg:=zh sS;clear it sS
   by_cases aH:k<xs.length
   ·have eD:k<ys.length:=by omega
    obtain⟨x,hx⟩:=ay xs k aH;obtain⟨y,hy⟩:=ay ys k eD;obtain⟨b,off,u1,rfl,dG,lY⟩:=HA.out k x hx;obtain⟨b',md,u2,rfl,lK,ml⟩:=HB.out k y hy;have k1:=bc Gg.out dG;have k2:=bc Gg.out lK;have CE:=zh (lY.ac2 Gg.out);have DD:=zh (ml.ac2 Gg.out);obtain⟨A1,z1,rfl,_⟩:=lY;obtain⟨A2,z2,rfl,_⟩:=ml;clear dG lK;have Hx:=zh hx;have Hy:=zh hy;clear hx hy;cases yR:NK x y
    all_goals
     have Nu:=zh yR;clear yR;go_wp2
     go_region_held3 (fun w'=>w'.cell? ⟨b,off+k,none⟩=some (.slice A1 x.length z1)/\w'.cell? ⟨b',md+k,none⟩=some (.slice A2 y.length z2)) (first | exact⟨k1,k2⟩ | exact⟨bc aX k1,bc aX k2⟩)
      (first | (go_at_call 27;refine(FR _ _ x y _ (by exact CE.out) (by exact DD.out)).mono ?_;rintro e w1 ⟨rfl,aX⟩;rw[Nu.out]))
     have kP:=zh (Gg.out.drew.trans (aX.mono (show w.heap.size<=wr.heap.size from Gg.out.size)));clear aX;go_wp2
    ·go_ret;refine⟨aB (decide_eq_false fun e=>?_),kP.out⟩
     have h1:=Hx.out;rw[e,Hy.out]at h1;have h2:=Nu.out;simp[NK]at h1 h2
     exact h2 h1.symm
    ·go_roundw
     case rel=>exact⟨k+1,by omega,by go_num,by rw[bX Hx.out,bX Hy.out,lk.out,show x=y by simpa[NK]using Nu.out],kP.out⟩
     case measure=>simp[intOf];omega
   ·go_wp2;go_ret;exact⟨dn (decide_eq_true (tq Hl.out lk.out aH)),Gg.out⟩
 ·have hb:((xs.length:Int) != (ys.length:Int))=true:=by simp;omega
  have Hl:=zh hl;clear hl
  go_enter Tryz.func9,Tryz.ntmps9
  go_wp2;go_ret;exact⟨aB (decide_eq_false fun e=>Hl.out (by rw[e])),Below.refl _ _⟩
theorem pg (v u:Value) (xs:List (List Int)) (w:World) (h:a_ w v xs) (h':a_ w u xs):
  Calls Tryz.prog 9 #[v,u] w fun e w'=>e=.returned (.bool true)/\Below w.heap.size w w':=
 (yH v u xs xs w h h').mono fun e w' ⟨he,hb⟩=>⟨by rw[he];simp,hb⟩
open Go.ChangeShapes Go.WideShapes Go.ChangeAt Go.RowKit
theorem open_bytes {H:Type} {enc:TypeId×Value->H} {W:World} {r:Reach} {b0:Nat} {v:Value} {d:DataW H} {p:List MemPlace}
  (hv:Value.okWide Tryz.prog W r b0 22 v) (h:DataW.Trod enc Tryz.prog W 0 (fun _=>true) true 22 v d p):∃L,Rg W v L:=by
 obtain⟨a0,abZ,aaf,rfl⟩:=okWide_slice Tryz.underlying22 hv;obtain⟨li,hf⟩:=h;rcases open_ints Tryz.underlying22 Tryz.underlying5 (by kernel_rfl) hf with⟨G6,_⟩ | ⟨x,l,c,zs,G6,_,hl,hm,hz,_,fJ,hwz⟩
 ·simp[Value.cells]at G6
  obtain⟨rfl,rfl,rfl⟩:=G6
  exact⟨0,none,0,rfl,Nat.le_refl _,by unfold maxLen;omega,fun k hk=>by omega⟩
 ·simp[Value.cells]at G6
  obtain⟨rfl,rfl,rfl⟩:=G6;have hz':zs.length=aaf:=by simpa using hz
  refine⟨abZ,some x,aaf,rfl,hl,hm,fun k hk=>?_⟩
  have nP:k<zs.length:=by omega
  have hc:=fJ k nP
  have hb:=bounds_u8 (hwz (zs.getD k 0) (by rw[zDd,List.getElem?_eq_getElem nP];exact List.getElem_mem nP))
  have h0:=fJ 0 (by omega);obtain⟨bl,off,ab0⟩:=x
  cases ab0 with
  | none=>
   refine⟨bl,off,zs.getD k 0,rfl,?_,hb.1,by omega⟩
   by_cases M7:k=0
   ·subst M7;simpa[Addr.add]using hc
   ·simpa[Addr.add,M7]using hc
  | some q=>simp[World.cell?,Addr.add]at h0;split at h0 <;> simp at h0
def Jj (a b:Nat):Bool:=decide (1048576<a)||decide (1048576<a+b)
theorem PS (A B:Option Addr) (a c b d:Nat) (w:World) (hc:a<=9223372036854775807) (hd:b<=9223372036854775807):
  Calls Tryz.prog 5 #[.slice A a c,.slice B b d] w fun e w'=>e=.returned (.bool (Jj a b))/\w=w':=by
 go_enter Tryz.func5,Tryz.ntmps5
 by_cases h:1048576<a
 ·have e1:((1048576:Int)<(a:Int))=True:=by simp;omega
  go_wp2;go_ret
  exact⟨by unfold Jj;simp[h],rfl⟩
 ·have e1:((1048576:Int)<(a:Int))=False:=by simp;omega
  have m1:IntKind.i64.wrap (1048576-(a:Int))=1048576-(a:Int):=aE _ (by omega) (by omega)
  by_cases h2:1048576<a+b
  ·have e2:(1048576-(a:Int)<(b:Int))=True:=by simp;omega
   go_wp2;go_ret
   exact⟨by unfold Jj;simp[h2],rfl⟩
  ·have e2:(1048576-(a:Int)<(b:Int))=False:=by simp;omega
   go_wp2;go_ret
   exact⟨by unfold Jj;simp[h,h2],rfl⟩
end Go.Proofs.YtnioemnkfojmkaaGreat
