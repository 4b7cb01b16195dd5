/- Parts of the proof: walks of functions and plain laws. -/
import Derived.Test.YtnioemnkfojmkaaGreatP0
import Derived.Test.YtnioemnkfojmkaaGreatP19
import Derived.Test.YtnioemnkfojmkaaGreatP20
import Derived.Test.YtnioemnkfojmkaaGreatP7
set_option maxRecDepth 100000
set_option maxHeartbeats 16000000
namespace Go.Proofs.YtnioemnkfojmkaaGreat
open Go Go.RowKit
def TD (N:aw):Prop:=Gd 50 31 N/\0<N.ends.length/\0<(be N 0).length
def LX (w:World) (T:aw->Prop) (e:Ending) (w':World):Prop:=∃ve vi vn N S,e=.returned (.tuple #[.agg #[ve,vi,vn],.bool true])/\au w' w.heap.size ve vi vn N S/\T N/\Below w.heap.size w w'
theorem Ob.assign {bo:Nat} {wa W W1:World} {ve vi vn a b d:Value} {N N':aw} {S S':List Nat} (h:Ob bo wa W ve vi vn N S) (hs:aa W W1) (ho:au W1 W.heap.size a b d N' S'):Ob bo wa (ac5 W1 bo a b d) a b d N' S':=by
 have aH:=h.box.lt
 refine⟨(ho.ac4 fun j hj=>co _ _ _ _ _ (by have:=(ho.range _ hj).1;omega)).mono h.since.below.size,aZ.ac5 (h.box.below hs aH) _ _ _,fun hj=>by have:=(ho.range _ hj).1;omega,h.bb,?_⟩
 have h2:aa wa W1:=h.since.after hs;exact((h2.setCell (p:=⟨bo,0,none⟩) h.bb a).setCell (p:=⟨bo,1,none⟩) h.bb b).setCell (p:=⟨bo,2,none⟩) h.bb d
theorem Ob.new {w1 w:World} {ve vi vn:Value} {N:aw} {S:List Nat} (hs:aa w w1) (ho:au w1 w.heap.size ve vi vn N S):Ob w1.heap.size w (w1.alloc (.cells #[ve,vi,vn] 30)) ve vi vn N S:=
 ⟨ho.ac2 (ae _ (ad _)).below,aZ.new _ _ _ _ _,fun hj=>by have:=(ho.range _ hj).2;omega,hs.below.size,ae _ hs⟩
theorem Ob.ret {bo:Nat} {w wa W:World} {ve vi vn:Value} {N:aw} {S:List Nat} (h:Ob bo wa W ve vi vn N S) (hs:aa w wa) (hz:wa.heap.size=w.heap.size+1):au (ac5 W w.heap.size ve vi vn) w.heap.size ve vi vn N S/\Below w.heap.size w (ac5 W w.heap.size ve vi vn):=by
 refine⟨(h.own.ac4 (fun k hk=>co _ _ _ _ _ (by have:=(h.own.range k hk).1;omega))).mono (by omega),?_⟩
 have h1:aa w W:=hs.after h.since;exact((h1.setCell (p:=⟨w.heap.size,0,none⟩) (Nat.le_refl _) ve).setCell (p:=⟨w.heap.size,1,none⟩) (Nat.le_refl _) vi).setCell (p:=⟨w.heap.size,2,none⟩) (Nat.le_refl _) vn
theorem Dl (s l:Nat) (hs:s<=1) (hl:l<=2) (I0:1<=s+l) (w:World):Calls Tryz.prog 126 #[.int .i64 s,.int .i64 l] w (LX w TD):=by
 obtain⟨w0,ar⟩:∃z,z=w.alloc (.cells #[.slice none 0 0,.slice none 0 0,.slice none 0 0] 30):=⟨_,rfl⟩
 have bu:aa w w0:=by rw[ar];exact ae _ (ad _)
 have eu:w0.heap.size=w.heap.size+1:=by rw[ar];simp
 have fG:bA w0 w.heap.size (.slice none 0 0) (.slice none 0 0) (.slice none 0 0):=by
  rw[ar];show(w.heap.push _)[w.heap.size]?=_
  rw[Array.getElem?_push_size]
 have eY:=zh fG;have f6:=zh bu;have cS:=zh ar;have gh:=zh eu;have dH:=fM (s:Int) 0 6 w0;rw[show fT 0 6 (s:Int)=true from aL.2 ⟨by omega,by omega⟩]at dH
 have pW:=fM (l:Int) 0 6 w0;rw[show fT 0 6 (l:Int)=true from aL.2 ⟨by omega,by omega⟩]at pW
 have kp:=zh dH;have CF:=zh pW;clear fG bu ar eu dH pW;have m1:IntKind.i64.wrap (2*(l:Int))=2*(l:Int):=aE _ (by omega) (by omega);have m2:IntKind.i64.wrap ((s:Int)+2*(l:Int))=(s:Int)+2*(l:Int):=aE _ (by omega) (by omega)
 have m3:((6:Int)<(s:Int)+2*(l:Int))=False:=by simp;omega
 go_enter Tryz.func126,Tryz.ntmps126
 go_upto_region 1 with(fail);rw[<- cS.out];go_wp2_with fail;refine kp.out.mono ?_;rintro e QU ⟨rfl,rfl⟩;go_wp2_with fail;refine CF.out.mono ?_;rintro e QU ⟨rfl,rfl⟩;go_wp2_with fail;refine(fK 1 (by omega) w0).mono ?_;rintro e w1 ⟨QD,QE,QF,S0,rfl,ho,aX⟩;obtain⟨N0,nK⟩:∃z,z=aS 1:=⟨_,rfl⟩
 rw[<- nK]at ho
 have kA:N0.ends.length=1:=by rw[nK];simp[aS]
 have Q6:(be N0 0).length=0:=by rw[nK];simp[aS,be]
 have yu:Gd 0 1 N0:=by rw[nK];exact Gd.empty (Nat.le_refl 1)
 obtain⟨A1,c1,rfl,-,-,-⟩:=id ho.read.1;obtain⟨AI,cI,rfl,-,-,-⟩:=id ho.read.2.1;obtain⟨AN,cN,rfl,-,-,-⟩:=id ho.read.2.2;have jB:=Ob.new (show aa w0 w1 from aX) ho;obtain⟨bo,jx⟩:∃z,z=w1.heap.size:=⟨_,rfl⟩
 obtain⟨w2,eH⟩:∃z,z=w1.alloc (.cells #[.slice A1 N0.ends.length c1,.slice AI N0.ids.length cI,.slice AN N0.ac1.length cN] 30):=⟨_,rfl⟩
 rw[<- eH,<- jx]at jB;have Ns:=zh jB;have rL:=zh jx;have py:=zh eH;have f8:=zh kA;have HNr:=zh Q6;have HNg:=zh yu;clear ho aX nK kA Q6 yu jB jx eH m1 m2 m3;go_upto_region 4 with(fail);rw[<- py.out,<- rL.out]
 go_loopw [0] (fun i wr=>∃(q:Nat) (ve vi vn:Value) (N:aw) (S:List Nat),q<=s/\i=.int .i64 q/\Ob bo w0 wr ve vi vn N S/\Gd (s-q) 1 N/\N.ends.length=1/\(be N 0).length=s-q) (fun i _=>(intOf i).toNat)
 case atStart=>exact⟨s,_,_,_,N0,S0,Nat.le_refl _,rfl,Ns.out,HNg.out.mono (by omega) (Nat.le_refl _),f8.out,by rw[HNr.out];omega⟩
 case round=>
  obtain⟨q,ve,vi,vn,N,S,hq,rfl,jB,hg,kA,Q6⟩:=hrel;obtain⟨Bl,jn,rfl,-,-,-⟩:=id jB.own.read.1;obtain⟨oI,oJ,rfl,-,-,-⟩:=id jB.own.read.2.1;obtain⟨tU,qZ,rfl,-,-,-⟩:=id jB.own.read.2.2;have I2:=zh jB;have Hg:=zh hg;have LY:=zh kA;have YE:=zh Q6;clear jB hg kA Q6;obtain⟨k0,k1,k2,f0,f1,f2⟩:=I2.out.box.cells
  by_cases kX:0<q
  ·have m4:IntKind.i64.wrap ((q:Int)-1)=((q-1:Nat):Int):=by rw[aE _ (by omega) (by omega)];omega
   go_wp2_with fail
   refine(qR _ _ _ N 0 wr I2.out.own.read (by rw[LY.out];omega) ((Hg.out.mono (R':=50) (M':=20) (by omega) (by omega)).small (by omega) (by omega))).mono ?_
   rintro e w3 ⟨Nx,Ny,Nz,S3,rfl,dW,bJ⟩;have gR:aa wr w3:=bJ;obtain⟨D0,d0,rfl,-,-,-⟩:=id dW.read.1;obtain⟨D1,d1,rfl,-,-,-⟩:=id dW.read.2.1;obtain⟨D2,d2,rfl,-,-,-⟩:=id dW.read.2.2;have nu:=zh (I2.out.assign gR dW);clear k0 k1 k2 f0 f1 f2;obtain⟨k0,k1,k2,f0,f1,f2⟩:=(I2.out.box.below gR I2.out.box.lt).cells;clear dW bJ gR;go_wp2;go_roundw
   case rel=>exact⟨q-1,_,_,_,jp N 0,S3,by omega,rfl,nu.out,(Hg.out.stub (by rw[LY.out];omega)).mono (by omega) (Nat.le_refl _),by rw[jb];exact LY.out,by rw[rX (by rw[LY.out];omega),YE.out];simp;omega⟩
   case measure=>simp[intOf];omega
  ·have e2:((0:Int)<(q:Int))=False:=by simp;omega
   have Hq0:Hid (q=0):=by show _=_;omega
   obtain⟨q1,iT⟩:∃z,z=q:=⟨_,rfl⟩
   rw[<- iT]at Hq0;obtain⟨wo,rfl⟩:∃z,z=wr:=⟨_,rfl⟩
   clear k0 k1 k2 f0 f1 f2;go_upto_region 7 with(fail)
   go_loopw [1] (fun i wr=>∃(q:Nat) (ve vi vn:Value) (N:aw) (S:List Nat),q<=l/\i=.int .i64 q/\Ob bo w0 wr ve vi vn N S/\Gd (s+2*(l-q)) 1 N/\N.ends.length=1/\(be N 0).length=s+2*(l-q)) (fun i _=>(intOf i).toNat)
   case atStart=>exact⟨l,_,_,_,N,S,Nat.le_refl _,rfl,I2.out,Hg.out.mono (by omega) (Nat.le_refl _),LY.out,by rw[YE.out];have:=Hq0.out;omega⟩
   case round=>
    obtain⟨q,ve,vi,vn,N,S,hq,rfl,jB,hg,kA,Q6⟩:=hrel;obtain⟨Bl,jn,rfl,-,-,-⟩:=id jB.own.read.1;obtain⟨oI,oJ,rfl,-,-,-⟩:=id jB.own.read.2.1;obtain⟨tU,qZ,rfl,-,-,-⟩:=id jB.own.read.2.2;have Fy:=zh jB;have VM:=zh hg;have Dm:=zh kA;have YF:=zh Q6;clear jB hg kA Q6;obtain⟨k0,k1,k2,f0,f1,f2⟩:=Fy.out.box.cells
    by_cases kX:0<q
    ·have m4:IntKind.i64.wrap ((q:Int)-1)=((q-1:Nat):Int):=by rw[aE _ (by omega) (by omega)];omega
     go_wp2_with fail
     refine(jC _ _ _ N 0 0 wr Fy.out.own.read (by rw[Dm.out];omega) (by rw[Dm.out];omega) ((VM.out.mono (R':=50) (M':=20) (by omega) (by omega)).small (by omega) (by omega))).mono ?_
     rintro e w3 ⟨Nx,Ny,Nz,S3,rfl,dW,bJ⟩;have gR:aa wr w3:=bJ;obtain⟨D0,d0,rfl,-,-,-⟩:=id dW.read.1;obtain⟨D1,d1,rfl,-,-,-⟩:=id dW.read.2.1;obtain⟨D2,d2,rfl,-,-,-⟩:=id dW.read.2.2;have nu:=zh (Fy.out.assign gR dW);clear k0 k1 k2 f0 f1 f2;obtain⟨k0,k1,k2,f0,f1,f2⟩:=(Fy.out.box.below gR Fy.out.box.lt).cells;clear dW bJ gR;go_wp2;go_roundw
     case rel=>exact⟨q-1,_,_,_,dC N 0 0,S3,by omega,rfl,nu.out,(VM.out.join (by rw[Dm.out];omega) (by rw[Dm.out];omega)).mono (by omega) (Nat.le_refl _),by rw[dU];exact Dm.out,by rw[ja (by rw[Dm.out];omega) (by rw[Dm.out];omega),YF.out];simp;omega⟩
     case measure=>simp[intOf];omega
    ·obtain rfl:q=0:=by omega
     obtain⟨w5,rfl⟩:∃z,z=wr:=⟨_,rfl⟩
     have eK:aZ w5 w.heap.size (.slice none 0 0) (.slice none 0 0) (.slice none 0 0):=(eY.out.box.below Fy.out.since eY.out.box.lt);obtain⟨e0,e1,e2,g0,g1,g2⟩:=eK.cells;have cK:=zh (Fy.out.ret f6.out gh.out);clear eK;go_wp2;refine bodyPost_ret (v:=.tuple #[.agg #[.slice Bl N.ends.length jn,.slice oI N.ids.length oJ,.slice tU N.ac1.length qZ],.bool true]) (by simp[results,Tryz.results126,go_sem, *]) rfl ?_;obtain⟨r1,r2⟩:=cK.out
     exact⟨_,_,_,N,S,rfl,r1,⟨VM.out.mono (by omega) (by omega),by rw[Dm.out];omega,by rw[YF.out];omega⟩,r2⟩
structure oV (bo:Nat) (wa W:World) (ve vi vn:Value) (N:aw) (S:List Nat) (lv nx:Value) (xs ys:List Int):Prop where
 ob:Ob bo wa W ve vi vn N S
 ol:Own W wa.heap.size lv xs
 ox:Own W wa.heap.size nx ys
 l1:∀j,lv.ownBlock=some j->j∉S/\j≠bo
 n1:∀j,nx.ownBlock=some j->j∉S/\j≠bo/\lv.ownBlock≠some j
section
variable {bo : Nat} {wa W : World} {ve vi vn lv nx : Value} {N : aw} {S : List Nat} {xs ys : List Int}
theorem oV.sz (h:oV bo wa W ve vi vn N S lv nx xs ys):wa.heap.size<=W.heap.size:=h.ob.since.below.size
theorem oV.net {W':World} {Vw vi' OS:Value} {N':aw} {S':List Nat} (h:oV bo wa W ve vi vn N S lv nx xs ys) (ho:Ob bo wa W' Vw vi' OS N' S') (hS:∀j∈S',j∈S\/W.heap.size<=j) (hk:∀j,j<W.heap.size->j∉S->j≠bo->W'.heap[j]?=W.heap[j]?):oV bo wa W' Vw vi' OS N' S' lv nx xs ys:=by
 have hl:=fun j (hj:lv.ownBlock=some j)=>World.ownsRow.lt h.ol j hj
 have hn:=fun j (hj:nx.ownBlock=some j)=>World.ownsRow.lt h.ox j hj
 refine⟨ho,aQ h.ol fun j hj=>?_,aQ h.ox fun j hj=>?_,fun j hj=>⟨fun hm=>?_,(h.l1 j hj).2⟩,fun j hj=>⟨fun hm=>?_,(h.n1 j hj).2⟩⟩
 ·have mc:lv.ownBlock=some j:=by simpa using hj
  exact hk j (hl j mc).2 (h.l1 j mc).1 (h.l1 j mc).2
 ·have mc:nx.ownBlock=some j:=by simpa using hj
  exact hk j (hn j mc).2 (h.n1 j mc).1 (h.n1 j mc).2.1
 ·rcases hS j hm with q | q
  ·exact(h.l1 j hj).1 q
  ·have:=(hl j hj).2;omega
 ·rcases hS j hm with q | q
  ·exact(h.n1 j hj).1 q
  ·have:=(hn j hj).2;omega
theorem oV.since {W':World} (h:oV bo wa W ve vi vn N S lv nx xs ys) (hs:aa W W'):oV bo wa W' ve vi vn N S lv nx xs ys:=
 h.net (h.ob.ac2 hs) (fun _ hj=>.inl hj) fun j hj _ _=>hs.below.block j hj
theorem oV.only {W':World} {N':aw} {S':List Nat} {Vw vi' OS:Value} (h:oV bo wa W ve vi vn N S lv nx xs ys) (ho:au W' wa.heap.size Vw vi' OS N' S') (hS:∀j∈S',j∈S\/W.heap.size<=j) (ey:aR S W W'):aZ W' bo ve vi vn/\bo∉S'/\aa wa W':=by
 refine⟨h.ob.box.blk (ey.block _ h.ob.box.lt h.ob.nb),fun hj=>?_,aR.since h.ob.since ey fun j hj=>(h.ob.own.range j hj).1⟩
 rcases hS _ hj with h1 | h1
 ·exact h.ob.nb h1
 ·have:=h.ob.box.lt;omega
theorem oV.adl {W':World} {N':aw} {S':List Nat} {v':Value} (h:oV bo wa W ve vi vn N S lv nx xs ys) (ho:au W' wa.heap.size v' vi vn N' S') (hS:∀j∈S',j∈S\/W.heap.size<=j) (ey:aR S W W'):
  aZ W' bo ve vi vn/\oV bo wa (W'.setCell ⟨bo,0,none⟩ v') v' vi vn N' S' lv nx xs ys:=by
 obtain⟨b1,b2,b3⟩:=h.only ho hS ey
 refine⟨b1,h.net ⟨ho.ac4 (fun k hk=>Below.heap_setCell _ _ _ _ (fun e=>b2 (by have e':k=bo:=e;exact e' ▸ hk))),b1.adl,b2,h.ob.bb,b3.setCell (p:=⟨bo,0,none⟩) h.ob.bb _⟩ hS fun j q1 q2 q3=>?_⟩
 rw[Below.heap_setCell _ _ _ _ (by show j≠bo;exact q3)];exact ey.block j q1 q2
theorem oV.adn {W':World} {N':aw} {S':List Nat} {v':Value} (h:oV bo wa W ve vi vn N S lv nx xs ys) (ho:au W' wa.heap.size ve vi v' N' S') (hS:∀j∈S',j∈S\/W.heap.size<=j) (ey:aR S W W'):
  aZ W' bo ve vi vn/\oV bo wa (W'.setCell ⟨bo,2,none⟩ v') ve vi v' N' S' lv nx xs ys:=by
 obtain⟨b1,b2,b3⟩:=h.only ho hS ey
 refine⟨b1,h.net ⟨ho.ac4 (fun k hk=>Below.heap_setCell _ _ _ _ (fun e=>b2 (by have e':k=bo:=e;exact e' ▸ hk))),b1.adn,b2,h.ob.bb,b3.setCell (p:=⟨bo,2,none⟩) h.ob.bb _⟩ hS fun j q1 q2 q3=>?_⟩
 rw[Below.heap_setCell _ _ _ _ (by show j≠bo;exact q3)];exact ey.block j q1 q2
theorem oV.adq (h:oV bo wa W ve vi vn N S lv nx xs ys):kR W wa.heap.size vn N.ac1 vn.ownBlock.toList/\∀j∈vn.ownBlock.toList,j∈S:=by
 obtain⟨S1,S2,S3,-,-,h2,h4,-⟩:=id h.ob.own
 exact⟨⟨h2.1,rfl⟩,fun j hj=>by rw[h4,h2.2];exact List.mem_append_right _ (List.mem_append_right _ hj)⟩
theorem oV.adx {W':World} {T:List Nat} {v':Value} {QK:List Int} (h:oV bo wa W ve vi vn N S lv nx xs ys) (ho:kR W' wa.heap.size v' QK T) (ey:aR vn.ownBlock.toList W W') (hT:∀j∈T,j∈vn.ownBlock.toList\/W.heap.size<=j):
  aZ W' bo ve vi vn/\∃S',oV bo wa (W'.setCell ⟨bo,2,none⟩ v') ve vi v' { N with ac1:=QK } S' lv nx xs ys:=by
 obtain⟨S',IP,Ai⟩:=h.ob.own.adv ho ey hT;obtain⟨b1,b2⟩:=h.adn IP Ai (ey.mono (h.adq.2));exact⟨b1,S',b2⟩
theorem oV.assign {W1:World} {a b d:Value} {N':aw} {S':List Nat} (h:oV bo wa W ve vi vn N S lv nx xs ys) (hs:aa W W1) (ho:au W1 W.heap.size a b d N' S'):oV bo wa (ac5 W1 bo a b d) a b d N' S' lv nx xs ys:=by
 refine h.net (h.ob.assign hs ho) (fun j hj=>.inr (ho.range _ hj).1) fun j q1 q2 q3=>?_
 rw[co _ _ _ _ _ q3];exact hs.below.block j q1
theorem oV.next {W':World} {nx':Value} {ys':List Int} (h:oV bo wa W ve vi vn N S lv nx xs ys) (ho:Own W' wa.heap.size nx' ys') (hg:W.grownBy W' nx.ownBlock) (hn:∀j,nx'.ownBlock=some j->nx.ownBlock=some j\/W.heap.size<=j):oV bo wa W' ve vi vn N S lv nx' xs ys':=by
 have hb:∀j,j<W.heap.size->nx.ownBlock≠some j->W'.heap[j]?=W.heap[j]?:=fun j q1 q2=>hg.block j q1 fun e=>q2 e.symm
 have hl:=fun j (hj:lv.ownBlock=some j)=>World.ownsRow.lt h.ol j hj
 have hS:=fun j (hj:j∈S)=>h.ob.own.range j hj
 have aH:=h.ob.box.lt;refine⟨⟨h.ob.own.ac4 fun j hj=>hb j (hS j hj).2 fun e=>(h.n1 j e).1 hj,h.ob.box.blk (hb bo aH fun e=>(h.n1 bo e).2.1 rfl),h.ob.nb,h.ob.bb,?_⟩,aQ h.ol fun j hj=>?_,ho,h.l1,fun j hj=>?_⟩
 ·exact Below.trans h.ob.since (Below.grown (Below.refl _ W |>.mono (Nat.le_refl _)) hg h.sz fun q hq=>(World.ownsRow.lt h.ox q hq).1)
 ·have mc:lv.ownBlock=some j:=by simpa using hj
  exact hb j (hl j mc).2 fun e=>(h.n1 j e).2.2 mc
 ·rcases hn j hj with q | q
  ·exact h.n1 j q
  ·exact⟨fun e=>by have:=(hS j e).2;omega,by omega,fun e=>by have:=(hl j e).2;omega⟩
theorem oV.adF (h:oV bo wa W ve vi vn N S lv nx xs ys):oV bo wa W ve vi vn N S nx (.slice none 0 0) ys []:=
 ⟨h.ob,h.ox,iP _ _,fun j hj=>⟨(h.n1 j hj).1,(h.n1 j hj).2.1⟩,fun j hj=>by simp[Value.ownBlock]at hj⟩
end
def lf (n:aw):aw:={ n with ends:=n.ends++[[]],ac1:=n.ac1++[0] }
theorem oW (n:aw):(lf n).ends.length=n.ends.length+1:=by simp[lf]
theorem si (n:aw) (k:Nat):be (lf n) k=if k<n.ends.length then be n k else []:=by
 unfold be lf
 simp only[zDd]
 by_cases h:k<n.ends.length
 ·rw[if_pos h,List.getElem?_append_left h]
 ·rw[if_neg h,List.getElem?_append_right (by omega)]
  cases hk:k-n.ends.length with
  | zero=>simp
  | succ q=>simp
theorem Gd.node {R M:Nat} {n:aw} (h:Gd R M n) (hM:n.ends.length+1<=M):Gd R M (lf n):=by
 have dH:∀e,CZ n e->CZ (lf n) e:=fun e ⟨a,b,fs,h1,h2,h3⟩=>⟨a,b,fs,h1,by show(n.ends++[[]])[a]?=_;rw[List.getElem?_append_left (al h2)];exact h2,h3⟩
 have aD:∀(k:Nat) (es:List (Int×Int)),(lf n).ends[k]?=some es->n.ends[k]?=some es\/es=[]:=fun k es he=>by
  have he:(n.ends++[[]])[k]?=some es:=he
  by_cases hk:k<n.ends.length
  ·rw[List.getElem?_append_left hk]at he;exact .inl he
  ·rw[List.getElem?_append_right (by omega)]at he
   have:=List.mem_of_getElem? he
   simp at this
   exact .inr this
 refine⟨by rw[oW];exact hM,fun k es he=>?_,h.ids,by simp[lf];exact h.ac1,fun k es he e hm=>?_⟩
 ·rcases aD k es he with q | rfl
  ·exact h.row k es q
  ·simp
 ·rcases aD k es he with q | rfl
  ·exact dH e (h.wf k es q e hm)
  ·cases hm
def LZ (N:aw) (xs:List Int):Prop:=∀x∈xs,0<=x/\x<(N.ends.length:Int)
theorem uC (d dp:Nat) (hd:1<=d/\d<=4) (hdp:1<=dp/\dp<=2) (w:World):Calls Tryz.prog 103 #[.int .i64 d,.int .i64 dp] w (LX w TD):=by
 obtain⟨w0,ar⟩:∃z,z=w.alloc (.cells #[.slice none 0 0,.slice none 0 0,.slice none 0 0] 30):=⟨_,rfl⟩
 have bu:aa w w0:=by rw[ar];exact ae _ (ad _)
 have eu:w0.heap.size=w.heap.size+1:=by rw[ar];simp
 have fG:bA w0 w.heap.size (.slice none 0 0) (.slice none 0 0) (.slice none 0 0):=by
  rw[ar];show(w.heap.push _)[w.heap.size]?=_
  rw[Array.getElem?_push_size]
 have eY:=zh fG;have f6:=zh bu;have cS:=zh ar;have gh:=zh eu;clear fG bu ar eu;have m1:((d:Int)<0)=False:=by simp
 have m2:((dp:Int)<0)=False:=by simp
 have m3:((0:Int)<(dp:Int))=True:=by simp;omega
 have m4:((6:Int)<(d:Int))=False:=by simp;omega
 go_enter Tryz.func103,Tryz.ntmps103
 go_upto_region 1 with(fail);rw[<- cS.out];go_wp2_with fail;refine(fK 1 (by omega) w0).mono ?_;rintro e w1 ⟨QD,QE,QF,S0,rfl,ho,aX⟩;obtain⟨N0,nK⟩:∃z,z=aS 1:=⟨_,rfl⟩
 rw[<- nK]at ho
 have kA:N0.ends.length=1:=by rw[nK];simp[aS]
 have yu:Gd 5 31 N0:=by rw[nK];exact(Gd.empty (Nat.le_refl 1)).mono (by omega) (by omega)
 obtain⟨A1,c1,rfl,-,-,-⟩:=id ho.read.1;obtain⟨AI,cI,rfl,-,-,-⟩:=id ho.read.2.1;obtain⟨AN,cN,rfl,-,-,-⟩:=id ho.read.2.2;have jB:=Ob.new (show aa w0 w1 from aX) ho;obtain⟨bo,jx⟩:∃z,z=w1.heap.size:=⟨_,rfl⟩
 obtain⟨w2,eH⟩:∃z,z=w1.alloc (.cells #[.slice A1 N0.ends.length c1,.slice AI N0.ids.length cI,.slice AN N0.ac1.length cN] 30):=⟨_,rfl⟩
 rw[<- eH,<- jx]at jB;have eO:w0.heap.size<=w2.heap.size:=jB.since.below.size;have aH:=jB.box.lt
 have oN:oV bo w0 (w2.alloc (.cells #[.int .i64 0] 3)) (.slice A1 N0.ends.length c1) (.slice AI N0.ids.length cI) (.slice AN N0.ac1.length cN) N0 S0 (.slice (some ⟨w2.heap.size,0,none⟩) 1 1) (.slice none 0 0) [0] []:=by
  refine⟨jB.ac2 (ae _ (ad _)),Own.mono (dv w2 [0] (by simp[maxLen])) eO,iP _ _,fun j hj=>?_,fun j hj=>by simp[Value.ownBlock]at hj⟩
  have e:w2.heap.size=j:=by simpa[Value.ownBlock]using hj
  exact⟨fun hm=>by have:=(jB.own.range _ hm).2;omega,by omega⟩
 obtain⟨w3,gZ⟩:∃z,z=w2.alloc (.cells #[.int .i64 0] 3):=⟨_,rfl⟩
 obtain⟨lb,gX⟩:∃z,z=w2.heap.size:=⟨_,rfl⟩
 rw[<- gZ,<- gX]at oN;have Ls:=zh oN;have rL:=zh jx;have py:=zh eH;have wO:=zh gZ;have qp:=zh gX;have f8:=zh kA;have HNg:=zh yu;clear ho aX nK kA yu jB jx eH eO aH oN gZ gX m1 m2 m3 m4;go_upto_region 4 with(fail);rw[<- py.out,<- rL.out];go_upto_region 6 with(fail);rw[<- wO.out,<- qp.out]
 go_loopw [7,8] (fun lv i wr=>∃(k:Nat) (ve vi vn:Value) (N:aw) (S:List Nat) (xs:List Int),k<=dp/\i=.int .i64 k/\oV bo w0 wr ve vi vn N S lv (.slice none 0 0) xs []/\Gd 5 31 N/\LZ N xs/\((k=0/\xs=[0]/\N.ends.length=1)\/(k=1/\xs.length<=5/\N.ends.length<=6)\/(k=2/\N.ends.length<=31))/\(0<k->0<(be N 0).length)/\0<N.ends.length) (fun _ i _=>dp-(intOf i).toNat)
 case atStart=>exact⟨0,_,_,_,N0,S0,[0],Nat.zero_le _,rfl,Ls.out,HNg.out,fun x hx=>by have:=f8.out;simp at hx;omega,.inl ⟨rfl,rfl,f8.out⟩,fun h=>absurd h (Nat.lt_irrefl _),by have:=f8.out;omega⟩
 case round=>
  obtain⟨k,ve,vi,vn,N,S,xs,hk,rfl,oN,hg,hlv,YG,aD,Ry⟩:=hrel;obtain⟨Bl,jn,rfl,-,-,-⟩:=id oN.ob.own.read.1;obtain⟨oI,oJ,rfl,-,-,-⟩:=id oN.ob.own.read.2.1;obtain⟨tU,qZ,rfl,-,-,-⟩:=id oN.ob.own.read.2.2;obtain⟨AL,cL,rfl,-,-,-⟩:=id oN.ol.ints;obtain⟨AL',cL',eL,-,-,Q8⟩:=id oN.ol.ints;cases eL;have Ls:=zh oN;have Hg:=zh hg;have Hlv:=zh hlv;have I3:=zh YG;have ch:=zh aD;have TK:=zh Ry;have HAL:=zh Q8;clear oN hg hlv YG aD Ry Q8
  by_cases aH:k<dp
  ·by_cases qz:0<xs.length
   ·obtain⟨x00,YH⟩:=ay xs 0 qz;obtain⟨bL,oL,e7,-⟩:=HAL.out 0 x00 YH;subst e7;clear YH;obtain⟨wo,rfl⟩:∃z,z=wr:=⟨_,rfl⟩
    go_upto_region 10 with(fail)
    go_loopw [9,42] (fun nx i wr=>∃(t:Nat) (ve vi vn:Value) (M:aw) (T:List Nat) (ys:List Int),t<=xs.length/\i=.int .i64 t/\oV bo w0 wr ve vi vn M T (.slice (some ⟨bL,oL,none⟩) xs.length cL) nx xs ys/\Gd 5 31 M/\M.ends.length=N.ends.length+ys.length/\ys.length<=5*t/\LZ M ys/\(0<(be M 0).length\/(k=0/\t=0))) (fun _ i _=>xs.length-(intOf i).toNat)
    case atStart=>exact⟨0,_,_,_,N,S,[],Nat.zero_le _,rfl,Ls.out,Hg.out,by simp,by simp,fun x hx=>(by cases hx),by rcases Nat.eq_zero_or_pos k with q | q;exact .inr ⟨q,rfl⟩;exact .inl (ch.out q)⟩
    case round=>
     obtain⟨t,ve,vi,vn,M,T,ys,ht,rfl,oN,hg,DI,Fb,YI,jm⟩:=hrel;obtain⟨B1,b1,rfl,-,-,-⟩:=id oN.ob.own.read.1;obtain⟨BI,bI,rfl,-,-,-⟩:=id oN.ob.own.read.2.1;obtain⟨BN,bN,rfl,-,-,-⟩:=id oN.ob.own.read.2.2;obtain⟨AX,cX,rfl,-,-,-⟩:=id oN.ox.ints;obtain⟨AL2,cL2,eL2,-,-,Q8⟩:=id oN.ol.ints;cases eL2;have Q9:=zh oN;have Q_:=zh hg;have GH:=zh DI;have xh:=zh Fb;have VN:=zh YI;have tH:=zh jm;clear oN hg DI Fb YI jm
     by_cases Wd:t<xs.length
     ·obtain⟨x,hx⟩:=ay xs t Wd;obtain⟨bL2,oL2,e7,sr⟩:=Q8 t x hx;cases e7;have uQ:=Hlv.out x (List.mem_of_getElem? hx);obtain⟨v,rfl⟩:∃v:Nat,x=(v:Int):=⟨x.toNat,by omega⟩
      have Hvl:Hid (v<N.ends.length):=by show _<_;omega
      have Hx:=zh hx
      have m7:IntKind.i64.wrap ((t:Int)+1)=((t+1:Nat):Int):=by rw[aE _ (by have:=I3.out;omega) (by rcases I3.out with h | h | h;rw[h.2.1]at Wd;simp at Wd;omega;omega;omega)];omega
      clear Q8 hx uQ;obtain⟨wt,rfl⟩:∃z,z=wr:=⟨_,rfl⟩
      go_upto_region 12 with(fail);clear sr
      go_loopw [9] (fun nx wr=>∃(ve vi vn:Value) (M:aw) (T:List Nat) (ys:List Int),oV bo w0 wr ve vi vn M T (.slice (some ⟨bL,oL,none⟩) xs.length cL) nx xs ys/\Gd 5 31 M/\M.ends.length=N.ends.length+ys.length/\ys.length<=5*t+(be M v).length/\LZ M ys/\(0<(be M 0).length\/(k=0/\t=0))) (fun _ wr=>31-lH (wr.cell? ⟨bo,0,none⟩))
      case atStart=>exact⟨_,_,_,M,T,ys,Q9.out,Q_.out,GH.out,by have:=xh.out;omega,VN.out,tH.out⟩
      case round=>
       clear Q9 Q_ GH xh VN tH;obtain⟨ve,vi,vn,M,T,ys,oN,hg,DI,Fb,YI,jm⟩:=hrel;obtain⟨Q1,q1,rfl,-,-,-⟩:=id oN.ob.own.read.1;obtain⟨QI,qI,rfl,-,-,-⟩:=id oN.ob.own.read.2.1;obtain⟨QN,qN,rfl,-,-,-⟩:=id oN.ob.own.read.2.2;obtain⟨QX,qX,rfl,-,-,-⟩:=id oN.ox.ints
       have L0:v<M.ends.length:=by have:=Hvl.out;omega
       obtain⟨g,rfl,-⟩:=oN.ob.own.head (by omega);obtain⟨es,ca⟩:∃z,z=be M v:=⟨_,rfl⟩
       have gb:=bK L0;rw[<- ca]at gb;obtain⟨ua,Ta,Tf,-,QJ,-,-,-⟩:=oN.ob.own.ac_ gb;obtain⟨AU,cU,rfl,-,-,-⟩:=id QJ.read;have Q9:=zh oN;have Q_:=zh hg;have GH:=zh DI;have xh:=zh Fb;have VN:=zh YI;have tH:=zh jm;have nO:=zh ca;have TL:=zh L0;obtain⟨wo,rfl⟩:∃z,z=wr:=⟨_,rfl⟩
       obtain⟨k0,k1,k2,f0,f1,f2⟩:=oN.ob.box.cells;clear oN hg DI Fb YI jm ca QJ gb
       by_cases iI:es.length<d
       ·have L3:Hid (M.ends.length+1<=31):=by
         show _<=_
         have h1:=GH.out;have h2:=xh.out;rw[<- nO.out]at h2
         rcases I3.out with h | h | h
         ·have:xs.length=1:=by rw[h.2.1];rfl
          omega
         ·omega
         ·omega
        have Vf:=L3.out
        have e40:((M.ends.length:Int)=40)=False:=by simp;omega
        clear e40;go_upto_region 16 with(fail);have ik:aa wo (wo.alloc (.cells #[.slice none 0 0] 59)):=ae _ (ad _);have D4:=zh (Q9.out.since ik)
        have Vu:Hid (M.ends.length+1<=1000000):=by show _<=_;omega
        have Sv:Hid (∀q,(Value.slice (some ⟨g,0,none⟩) M.ends.length q1).ownBlock=some q->(jO wo w0.heap.size).heap.size<=q):=fun q hq=>by
         obtain⟨S1,S2,S3,⟨vs,Ss,h1,-⟩,-,-,-,-⟩:=id D4.out.ob.own;have h9:=(World.ownsRow.lt h1 q hq).1;simp[jO]
         omega
        have Hwq:Hid (aa (jO wo w0.heap.size) (wo.alloc (.cells #[.slice none 0 0] 59))):=aa.after (oi wo Q9.out.sz) ik;clear ik Tf Vf
        go_upto_region 17 with(at_builtin;refine rG (wT:=jO wo w0.heap.size) (base:=w0.heap.size) (v:=.slice (some ⟨g,0,none⟩) M.ends.length q1) (u:=.slice none 0 0) (T:=[]) (es:=[]) rfl _ _ rfl rfl D4.out.ob.own wo.heap.size rfl (by simp) (rq _ _) (fun j hj=>by simp at hj) Vu.out Hwq.out D4.out.sz Sv.out ?_;intro v8 w8 S8 XO Lu QP C9 lG;obtain⟨A8,c8,YA,-,-,-⟩:=id Lu.read.1;have hq9:v8=.slice A8 (M.ends.length+1) c8:=(by rw[YA];simp);clear YA;subst hq9;obtain⟨uz,ka⟩:=D4.out.adl Lu (fun j hj=>by rcases QP j hj with h | h | h;exact .inl h;simp at h;right;omega) C9;clear k0 k1 k2 f0 f1 f2 XO QP C9 lG;obtain⟨k0,k1,k2,f0,f1,f2⟩:=uz.cells;have q8:=zh ka;clear uz ka Lu)
        obtain⟨w9,tK⟩:∃z,z=w8.setCell ⟨bo,0,none⟩ (.slice A8 (M.ends.length+1) c8):=⟨_,rfl⟩
        rw[<- tK];rw[<- tK]at q8;clear tK k0 k1 k2 f0 f1 f2;have ik:aa w9 (w9.alloc (.cells #[.int .i64 0] 3)):=ae _ (ad _);have Dk:=zh (q8.out.since ik)
        have Pe:Hid (M.ac1.length+[(0:Int)].length<=17592186044416):=by show _<=_;have:=Q_.out.ac1;have:=L3.out;simp;omega
        clear ik;obtain⟨k0,k1,k2,f0,f1,f2⟩:=q8.out.ob.box.cells
        go_upto_region 18 with(at_builtin;refine jE (base:=w0.heap.size) rfl _ _ rfl rfl Dk.out.adq.1.1 rfl (sa _ _) Pe.out Dk.out.sz ?_;intro v' TF T cJ wP QY;obtain⟨V,mV,cV,rfl⟩:=er.one cJ;obtain⟨th,S6,sA⟩:=Dk.out.adx cJ wP QY;clear k0 k1 k2 f0 f1 f2 cJ wP QY;obtain⟨k0,k1,k2,f0,f1,f2⟩:=th.cells;have IW:=zh sA;clear th sA)
        obtain⟨JD,TM⟩:∃z,z=TF.setCell ⟨bo,2,none⟩ (.slice V mV cV):=⟨_,rfl⟩
        rw[<- TM];rw[<- TM]at IW;clear TM k0 k1 k2 f0 f1 f2 q8 Dk D4 Hwq Sv Vu Pe;have Fw:Hid (oV bo w0 JD (.slice A8 (M.ends.length+1) c8) (.slice QI M.ids.length qI) (.slice V mV cV) (lf M) S6 (.slice (some ⟨bL,oL,none⟩) xs.length cL) (.slice QX ys.length qX) xs ys):=IW.out;clear IW;obtain⟨k0,k1,k2,f0,f1,f2⟩:=Fw.out.ob.box.cells;have Hgn:Hid (Gd 5 31 (lf M)):=Q_.out.node L3.out;go_wp2_with fail
        refine(jC _ _ _ (lf M) v M.ends.length JD Fw.out.ob.own.read (by rw[oW];have:=TL.out;omega) (by rw[oW];omega) ((Hgn.out.mono (R':=50) (M':=31) (by omega) (by omega)).small (by omega) (by omega))).mono ?_
        rintro e YJ ⟨Nx,Ny,Nz,S13,rfl,dW,bJ⟩;have Do:aa JD YJ:=bJ;obtain⟨D0,d0,rfl,-,-,-⟩:=id dW.read.1;obtain⟨D1,d1,rfl,-,-,-⟩:=id dW.read.2.1;obtain⟨D2,d2,rfl,-,-,-⟩:=id dW.read.2.2;obtain⟨J,hJ⟩:∃z,z=dC (lf M) v M.ends.length:=⟨_,rfl⟩
        rw[<- hJ]at dW;rw[<- hJ];have nu:=zh (Fw.out.assign Do dW);clear k0 k1 k2 f0 f1 f2;obtain⟨k0,k1,k2,f0,f1,f2⟩:=(Fw.out.ob.box.below Do Fw.out.ob.box.lt).cells;have HJ:=zh hJ;clear dW bJ Do hJ;go_upto_region 19 with(fail);obtain⟨DJ,xB⟩:∃z,z=ac5 YJ bo (.slice D0 J.ends.length d0) (.slice D1 J.ids.length d1) (.slice D2 J.ac1.length d2):=⟨_,rfl⟩
        rw[<- xB]at nu;rw[show((YJ.setCell ⟨bo,0,none⟩ (.slice D0 J.ends.length d0)).setCell ⟨bo,1,none⟩ (.slice D1 J.ids.length d1)).setCell ⟨bo,2,none⟩ (.slice D2 J.ac1.length d2)=DJ from xB.symm];clear xB k0 k1 k2 f0 f1 f2;have Vv:=zh (nu.out.since (ae (.cells #[.int .i64 (M.ends.length:Int)] 3) (ad DJ)))
        have Hly:Hid (ys.length+1<=17592186044416):=by show _<=_;have h1:=GH.out;have h2:=L3.out;omega
        go_wp2_with (at_builtin;refine rs rfl _ _ rfl rfl Vv.out.ox DJ.heap.size (M.ends.length:Int) rfl (by simp[go_sem]) Hly.out Vv.out.sz ?_;intro g6 c6 w15 cJ iw jU DE;have YK:=zh (Vv.out.next cJ iw (fun j hj=>(by have e:g6=j:=(by simpa[Value.ownBlock]using hj);subst e;rcases jU with h | h;exact .inl h;exact .inr (by omega))));clear cJ iw jU DE)
        go_roundw
        case rel=>
         have L0:=TL.out;have J6:=oW M;have hJl:J.ends.length=M.ends.length+1:=by rw[HJ.out,dU,J6]
         have hrj:∀q,(be J q).length=(be (lf M) q).length+(if q=M.ends.length then 1 else 0)+(if q=v then 1 else 0):=fun q=>by rw[HJ.out];exact ja (by omega) (by omega) q
         have hrv:(be J v).length=(be M v).length+1:=by rw[hrj,si,if_pos L0,if_neg (by omega),if_pos rfl]
         have h0:(be M 0).length<=(be J 0).length:=by rw[hrj,si,if_pos (by omega)];omega
         have abh:=iI;rw[nO.out]at abh
         have lY:(be (lf M) v).length<5:=by rw[si,if_pos L0];omega
         have ml:(be (lf M) M.ends.length).length<5:=by rw[si,if_neg (by omega)];simp
         refine⟨_,_,_,J,S13,ys++[(M.ends.length:Int)],by simpa using YK.out,by rw[HJ.out];exact Hgn.out.adw (by omega) (by omega) (by omega) lY ml (by omega),by rw[hJl,GH.out];simp;omega,by rw[hrv];have:=xh.out;simp;omega,fun y hy=>?_,?_⟩
         ·rcases List.mem_append.1 hy with h | h
          ·have:=VN.out y h;omega
          ·rw[List.mem_singleton]at h;omega
         ·rcases tH.out with h | h
          ·exact .inl (by omega)
          ·exact .inr h
        case measure=>
         rw[YK.out.ob.box.cells.1,Q9.out.ob.box.cells.1];have hJl:J.ends.length=M.ends.length+1:=by rw[HJ.out,dU,oW]
         have:=L3.out
         simp[lH]
         omega
       ·go_wp2;go_roundw
        case rel=>
         have h5:(be M v).length<=5:=Q_.out.row v _ (bK TL.out)
         refine⟨t+1,_,_,_,M,T,ys,by omega,rfl,Q9.out,Q_.out,GH.out,by have:=xh.out;omega,VN.out,?_⟩
         rcases tH.out with h | h
         ·exact .inl h
         ·left
          rcases I3.out with q | q | q
          ·have hx:=Hx.out;rw[h.2,q.2.1]at hx
           have G_:v=0:=by simp at hx;omega
           rw[nO.out,G_]at iI;omega
          ·omega
          ·omega
        case measure=>simp[intOf];omega
     ·obtain rfl:t=xs.length:=by omega
      have m8:IntKind.i64.wrap ((k:Int)+1)=((k+1:Nat):Int):=by rw[aE _ (by omega) (by omega)];omega
      clear Q8;go_wp2;go_roundw
      case rel=>
       have h1:=GH.out;have h2:=xh.out
       refine⟨k+1,_,_,_,M,T,ys,by omega,rfl,Q9.out.adF,Q_.out,VN.out,?_,fun _=>?_,by have:=TK.out;omega⟩
       ·rcases I3.out with q | q | q
        ·have:xs.length=1:=by rw[q.2.1];rfl
         right;left;omega
        ·right;right;omega
        ·omega
       ·rcases tH.out with h | h
        ·exact h
        ·omega
      case measure=>simp[intOf];omega
   ·have el0:xs.length=0:=by omega
    obtain⟨w5,rfl⟩:∃z,z=wr:=⟨_,rfl⟩
    have eK:aZ w5 w.heap.size (.slice none 0 0) (.slice none 0 0) (.slice none 0 0):=(eY.out.box.below Ls.out.ob.since eY.out.box.lt);obtain⟨k0,k1,k2,f0,f1,f2⟩:=Ls.out.ob.box.cells;obtain⟨e0,e1,e2,g0,g1,g2⟩:=eK.cells;have cK:=zh (Ls.out.ob.ret f6.out gh.out);clear eK;go_wp2;refine bodyPost_ret (v:=.tuple #[.agg #[.slice Bl N.ends.length jn,.slice oI N.ids.length oJ,.slice tU N.ac1.length qZ],.bool true]) (by simp[results,Tryz.results103,go_sem, *]) rfl ?_;obtain⟨r1,r2⟩:=cK.out
    exact⟨_,_,_,N,S,rfl,r1,⟨Hg.out.mono (by omega) (by omega),TK.out,ch.out (by rcases I3.out with h | h | h;rw[h.2.1]at el0;simp at el0;omega;omega)⟩,r2⟩
  ·obtain rfl:k=dp:=by omega
   obtain⟨w5,rfl⟩:∃z,z=wr:=⟨_,rfl⟩
   have eK:aZ w5 w.heap.size (.slice none 0 0) (.slice none 0 0) (.slice none 0 0):=(eY.out.box.below Ls.out.ob.since eY.out.box.lt);obtain⟨k0,k1,k2,f0,f1,f2⟩:=Ls.out.ob.box.cells;obtain⟨e0,e1,e2,g0,g1,g2⟩:=eK.cells;have cK:=zh (Ls.out.ob.ret f6.out gh.out);clear eK;go_wp2;refine bodyPost_ret (v:=.tuple #[.agg #[.slice Bl N.ends.length jn,.slice oI N.ids.length oJ,.slice tU N.ac1.length qZ],.bool true]) (by simp[results,Tryz.results103,go_sem, *]) rfl ?_;obtain⟨r1,r2⟩:=cK.out;exact⟨_,_,_,N,S,rfl,r1,⟨Hg.out.mono (by omega) (by omega),TK.out,ch.out (by omega)⟩,r2⟩
structure I4 (k v i:Nat) (N:aw):Prop where
 ends:N.ends.length=k
 ids:N.ids.length=0
 ac1:N.ac1.length=k
 row:∀(j:Nat) (es:List (Int×Int)),N.ends[j]?=some es->es.length=(if j<v then k-1 else if j=v then i else 0)/\∀e∈es,∃a b:Nat,e=((a:Int),(b:Int))/\a<k/\b+1<k
theorem I4.empty (k:Nat):I4 k 0 0 (aS k):=⟨by simp[aS],rfl,by simp[aS],fun j es he=>by
 have h1:=List.mem_of_getElem? he
 have h2:es=[]:=by simp[aS]at h1;exact h1.2
 rw[h2];refine⟨?_,fun e h=>by cases h⟩
 split
 ·omega
 ·split <;> rfl⟩
theorem I4.step {k v i:Nat} {N:aw} (h:I4 k v i N) (hv:v<k) {a b:Nat} (ha:a<k) (hb:b+1<k):I4 k v (i+1) { N with ends:=N.ends.set v (be N v++[((a:Int),(b:Int))]) }:=by
 refine⟨by simp;exact h.ends,h.ids,h.ac1,fun j es he=>?_⟩
 have he:(N.ends.set v (be N v++[((a:Int),(b:Int))]))[j]?=some es:=he;rw[List.getElem?_set]at he
 by_cases e:v=j
 ·subst e
  rw[if_pos rfl,if_pos (by rw[h.ends];exact hv)]at he
  cases he
  obtain⟨h1,h2⟩:=h.row v _ (bK (by rw[h.ends];exact hv))
  rw[if_neg (Nat.lt_irrefl _),if_pos rfl]at h1 ⊢;refine⟨by simp[h1],fun e he=>?_⟩
  rcases List.mem_append.1 he with q | q
  ·exact h2 e q
  ·rw[List.mem_singleton]at q;exact⟨a,b,q,ha,hb⟩
 ·rw[if_neg e]at he;obtain⟨h1,h2⟩:=h.row j es he;rw[if_neg (Ne.symm e)]at h1 ⊢;exact⟨h1,h2⟩
theorem I4.next {k v i:Nat} {N:aw} (h:I4 k v i N) (hi:i+1=k):I4 k (v+1) 0 N:=⟨h.ends,h.ids,h.ac1,fun j es he=>by
 obtain⟨h1,h2⟩:=h.row j es he;refine⟨?_,h2⟩;rw[h1]
 by_cases a:j<v
 ·rw[if_pos a,if_pos (by omega)]
 ·rw[if_neg a]
  by_cases b:j=v
  ·rw[if_pos b,if_pos (by omega)];omega
  ·rw[if_neg b,if_neg (by omega)];split <;> rfl⟩
theorem I4.td {k i:Nat} {N:aw} (h:I4 k k i N) (h2:2<=k) (h5:k<=5):TD N:=by
 have hr:∀(j:Nat) (es:List (Int×Int)),N.ends[j]?=some es->es.length=k-1:=fun j es he=>by
  have hj:j<k:=by have:=al he;rwa [h.ends]at this
  rw[(h.row j es he).1,if_pos hj]
 refine⟨⟨by have:=h.ends;omega,fun j es he=>by rw[hr j es he];omega,by have:=h.ids;omega,by rw[h.ac1,h.ends],fun j es he e hm=>?_⟩,by have:=h.ends;omega,?_⟩
 ·obtain⟨a,b,q1,q2,q3⟩:=(h.row j es he).2 e hm
  have ha:=bK (n:=N) (v:=a) (by rw[h.ends];exact q2)
  exact⟨a,b,_,q1,ha,by rw[hr a _ ha];omega⟩
 ·have h0:=bK (n:=N) (v:=0) (by rw[h.ends];omega)
  rw[hr 0 _ h0];omega
theorem Ph:∀k:Fin 6,∀v:Fin k.1,∀i:Fin k.1,i.1+1<k.1->(v.1+2*k.1-(v.1+1+i.1)%k.1-1)%k.1+1<k.1:=by decide
theorem Dp (k:Nat) (hk:2<=k/\k<=5) (w:World):Calls Tryz.prog 128 #[.int .i64 k] w (LX w TD):=by
 obtain⟨w0,ar⟩:∃z,z=w.alloc (.cells #[.slice none 0 0,.slice none 0 0,.slice none 0 0] 30):=⟨_,rfl⟩
 have bu:aa w w0:=by rw[ar];exact ae _ (ad _)
 have eu:w0.heap.size=w.heap.size+1:=by rw[ar];simp
 have fG:bA w0 w.heap.size (.slice none 0 0) (.slice none 0 0) (.slice none 0 0):=by
  rw[ar];show(w.heap.push _)[w.heap.size]?=_
  rw[Array.getElem?_push_size]
 have eY:=zh fG;have f6:=zh bu;have cS:=zh ar;have gh:=zh eu;have dH:=fM (k:Int) 1 7 w0;rw[show fT 1 7 (k:Int)=true from aL.2 ⟨by omega,by omega⟩]at dH
 have kp:=zh dH;clear fG bu ar eu dH
 go_enter Tryz.func128,Tryz.ntmps128
 go_upto_region 1 with(fail);rw[<- cS.out];go_wp2_with fail;refine kp.out.mono ?_;rintro e QU ⟨rfl,rfl⟩;go_wp2_with fail;refine(fK k (by omega) w0).mono ?_;rintro e w1 ⟨QD,QE,QF,S0,rfl,ho,aX⟩;have sy:=I4.empty k;obtain⟨N0,nK⟩:∃z,z=aS k:=⟨_,rfl⟩
 rw[<- nK]at ho sy
 obtain⟨A1,c1,rfl⟩:∃A c,QD=.slice A k c:=by obtain⟨A,c,h,-⟩:=ho.read.1;exact⟨A,c,by rw[h,sy.ends]⟩
 obtain⟨AI,cI,rfl⟩:∃A c,QE=.slice A 0 c:=by obtain⟨A,c,h,-⟩:=ho.read.2.1;exact⟨A,c,by rw[h,sy.ids]⟩
 obtain⟨AN,cN,rfl⟩:∃A c,QF=.slice A k c:=by obtain⟨A,c,h,-⟩:=ho.read.2.2;exact⟨A,c,by rw[h,sy.ac1]⟩
 have jB:=Ob.new (show aa w0 w1 from aX) ho
 obtain⟨g,rfl,-⟩:=jB.own.head (by rw[sy.ends];omega)
 obtain⟨bo,jx⟩:∃z,z=w1.heap.size:=⟨_,rfl⟩
 obtain⟨w2,eH⟩:∃z,z=w1.alloc (.cells #[.slice (some ⟨g,0,none⟩) k c1,.slice AI 0 cI,.slice AN k cN] 30):=⟨_,rfl⟩
 rw[<- eH,<- jx]at jB;have Ns:=zh jB;have rL:=zh jx;have py:=zh eH;have Hcm:=zh sy;clear ho aX nK jB jx eH sy;go_upto_region 4 with(fail);rw[<- py.out,<- rL.out];have k0:=Ns.out.box.cells.1;go_upto_region 5 with(fail);clear k0
 go_loopw [17] (fun i wr=>∃(v:Nat) (N:aw) (S:List Nat),v<=k/\i=.int .i64 v/\Ob bo w0 wr (.slice (some ⟨g,0,none⟩) k c1) (.slice AI 0 cI) (.slice AN k cN) N S/\I4 k v 0 N) (fun i _=>k-(intOf i).toNat)
 case atStart=>exact⟨0,N0,S0,Nat.zero_le _,rfl,Ns.out,Hcm.out⟩
 case round=>
  obtain⟨v,N,S,hv,rfl,jB,sy⟩:=hrel;have Pj:=zh jB;have YL:=zh sy;clear jB sy
  by_cases aH:v<k
  ·have m1:IntKind.i64.wrap ((v:Int)+1)=(v:Int)+1:=aE _ (by omega) (by omega);obtain⟨wo,rfl⟩:∃z,z=wr:=⟨_,rfl⟩
   go_upto_region 8 with(fail)
   go_loopw [6] (fun i wr=>∃(i':Nat) (N:aw) (S:List Nat),i'+1<=k/\i=.int .i64 i'/\Ob bo w0 wr (.slice (some ⟨g,0,none⟩) k c1) (.slice AI 0 cI) (.slice AN k cN) N S/\I4 k v i' N) (fun i _=>k-(intOf i).toNat)
   case atStart=>exact⟨0,N,S,by omega,rfl,Pj.out,YL.out⟩
   case round=>
    obtain⟨i,M,T,hi,rfl,jB,sy⟩:=hrel;have Fz:=zh jB;have Pk:=zh sy;clear jB sy;have m2:IntKind.i64.wrap ((i:Int)+1)=(i:Int)+1:=aE _ (by omega) (by omega);obtain⟨w2,rfl⟩:∃z,z=wr:=⟨_,rfl⟩
    by_cases eD:i+1<k
    ·have e1:((i:Int)+1<(k:Int))=True:=by simp;omega
     obtain⟨q,hq⟩:∃q:Nat,q=(v+1+i)%k:=⟨_,rfl⟩
     have Xk:q<k:=by rw[hq];exact Nat.mod_lt _ (by omega)
     obtain⟨p,hp⟩:∃p:Nat,p=(v+2*k-q-1)%k:=⟨_,rfl⟩
     have hpk:p+1<k:=by rw[hp,hq];exact Ph ⟨k,by omega⟩ ⟨v,aH⟩ ⟨i,by show i<k;omega⟩ eD
     have m3:IntKind.i64.wrap ((v:Int)+1+(i:Int))=(v:Int)+1+(i:Int):=aE _ (by omega) (by omega)
     have m4:((v:Int)+1+(i:Int)).tmod (k:Int)=(q:Int):=by rw[hq,Int.tmod_eq_emod_of_nonneg (by omega)];simp
     have m5:((v:Int)+1+(i:Int))%(k:Int)=(q:Int):=by rw[hq];simp
     have m6:IntKind.i64.wrap (q:Int)=(q:Int):=aE _ (by omega) (by omega)
     have m7:((k:Int)=0)=False:=by simp;omega
     have m8:(k=0)=False:=by simp;omega
     have n1:IntKind.i64.wrap (2*(k:Int))=2*(k:Int):=aE _ (by omega) (by omega);have n2:IntKind.i64.wrap ((v:Int)+2*(k:Int))=(v:Int)+2*(k:Int):=aE _ (by omega) (by omega);have n3:IntKind.i64.wrap ((v:Int)+2*(k:Int)-(q:Int))=(v:Int)+2*(k:Int)-(q:Int):=aE _ (by omega) (by omega);have n4:IntKind.i64.wrap ((v:Int)+2*(k:Int)-(q:Int)-1)=(v:Int)+2*(k:Int)-(q:Int)-1:=aE _ (by omega) (by omega);have n0:(v:Int)+2*(k:Int)-(q:Int)-1=((v+2*k-q-1:Nat):Int):=by omega
     have n5:((v:Int)+2*(k:Int)-(q:Int)-1).tmod (k:Int)=(p:Int):=by rw[n0,hp,Int.tmod_eq_emod_of_nonneg (by omega)];simp
     have n6:((v:Int)+2*(k:Int)-(q:Int)-1)%(k:Int)=(p:Int):=by rw[n0,hp];simp
     have n7:IntKind.i64.wrap (p:Int)=(p:Int):=aE _ (by omega) (by omega);have Hqk:=zh Xk;have Hpk:=zh hpk;clear hq hp n0 Xk hpk
     have L0:v<M.ends.length:=by rw[Pk.out.ends];exact aH
     have qS:=bK L0;obtain⟨xv,gb⟩:∃x,x=be M v:=⟨_,rfl⟩
     rw[<- gb]at qS
     have sx:xv.length=i:=by have h1:=(Pk.out.row v _ qS).1;rw[if_neg (Nat.lt_irrefl _),if_pos rfl]at h1;exact h1
     have lq:=zh gb;have SA:=zh qS
     have Qx:Hid (xv.length+1<=1000000):=by show _<=_;omega
     obtain⟨base,iB⟩:∃base,base=w0.heap.size:=⟨_,rfl⟩
     have tM:Hid (au w2 base (.slice (some ⟨g,0,none⟩) k c1) (.slice AI 0 cI) (.slice AN k cN) M T):=by show au _ _ _ _ _ _ _;rw[iB];exact Fz.out.own
     have tb:Hid (base<=w2.heap.size):=by show _<=_;rw[iB];exact Fz.out.since.below.size
     have rU:=zh iB;clear gb qS sx L0 iB;go_upto_region 11 with(fail);obtain⟨u2,T2,zM,Bu,pY,na,rV,nJ,i9⟩:=tM.out.ade SA.out;obtain⟨oF,oG,rfl,-,-,-⟩:=id pY.read;have sT:=zh pY;have nd:=zh i9;have w_:g≠bo:=fun h=>Fz.out.nb (h ▸ nJ)
     have SB:=zh w_;have Ax:=zh rV;have Ay:=zh nJ;have Az:=zh na;have EZ:=zh zM;have OI:=zh Bu;have AA:Hid (bo∉T2):=fun h=>Fz.out.nb (na _ h)
     have np:=zh (aZ.cells Fz.out.box);clear w_ rV nJ na zM Bu pY i9;refine av (fun W=>W.cell? ⟨bo,0,none⟩=some (.slice (some ⟨g,0,none⟩) k c1)/\W.cell? ⟨g,v,none⟩=some (.slice oF xv.length oG)) 21 [false,false,false,false,false,false,false,false,false,false,false,false,false,false,false,false,false,false,false,true,true] (by kernel_rfl) (by kernel_rfl) (show(World.drew w2).cell? ⟨bo,0,none⟩=some (.slice (some ⟨g,0,none⟩) k c1)/\(World.drew w2).cell? ⟨g,v,none⟩=some (.slice oF xv.length oG)from⟨np.out.1,EZ.out⟩) ?_
     simp only[ek,dD,zT]
     iterate 19 (apply bh rfl;(intro W hW;(obtain⟨k0,k1⟩:=hW);go_simp;with_reducible rfl);simp only[zA])
     obtain⟨W,cA⟩:∃W,W=World.drew w2:=⟨_,rfl⟩
     rw[<- cA];have hW:=(show(World.drew w2).cell? ⟨bo,0,none⟩=some (.slice (some ⟨g,0,none⟩) k c1)/\(World.drew w2).cell? ⟨g,v,none⟩=some (.slice oF xv.length oG)from⟨np.out.1,EZ.out⟩);rw[<- cA]at hW;have eU:=zh cA;clear cA
     refine bC (v:=?_) (ob:=?_) rfl ?_ ?_ ?_;rotate_left 2
     (go_simp;first | with_reducible rfl | (refine⟨?_,?_⟩ <;> with_reducible rfl))
     exact⟨bc (ao _ _) hW.1,bc (ao _ _) hW.2⟩;intro w8 gJ iX
     replace hW:=iX
     clear iX
     have zr:Hid (w8=(World.drew w2).alloc (.cells #[.int .i64 (q:Int),.int .i64 (p:Int)] 104)):=by show _=_;rw[gJ,eU.out]
     have kD:Hid (aa w2 w8):=by show aa _ _;rw[zr.out];exact ae _ (ag (ad _))
     have uy:Hid (eq w8 base (.slice oF xv.length oG) xv T2):=fY.ac2 sT.out kD.out.below
     have vd:Hid (w8.cell? ⟨w2.heap.size,0,none⟩=some (.int .i64 (q:Int))/\w8.cell? ⟨w2.heap.size,1,none⟩=some (.int .i64 (p:Int))):=by show _/\_;rw[zr.out];exact ld (World.drew w2) _ _ _
     rw[show W.heap.size=w2.heap.size from by rw[eU.out];rfl]
     clear gJ eU
     (try simp only[zA])
     refine c_ (fun Q' HQ=>?_)
     (refine jV (base:=base) (v:=.slice oF xv.length oG) (xs:=xv) rfl _ _ rfl rfl uy.out w2.heap.size ((q:Int),(p:Int)) rfl vd.out.1 vd.out.2 Qx.out (Nat.le_trans tb.out kD.out.below.size) ?_);intro g9 E6 w9 fV ql u_;have fI:=aR.ac9 ql;have tc:(Value.slice oF xv.length oG).ownBlock.toList=T2:=(sT.out.2).symm;have jN:(⟨bo,0,none⟩:Addr).block∉(Value.slice oF xv.length oG).ownBlock.toList:=(by rw[tc];exact AA.out);have nR:(⟨g,v,none⟩:Addr).block∉(Value.slice oF xv.length oG).ownBlock.toList:=(by rw[tc];exact Ax.out);have pM:=fI.cell jN hW.1;have nP:=fI.cell nR hW.2;have If:=fI.fz nR hW.2 (bf kD.out.below EZ.out OI.out);refine HQ _ _ ⟨pM,nP⟩ ?_;have qT:=zh (m_ nd.out sT.out kD.out fV ql u_ Az.out Ay.out);clear fV ql u_ jN nR fI tc hW
     (try simp only[zA])
     simp only[bj];go_wp2;go_roundw
     case rel=>
      obtain⟨SC,dP,eO,qj⟩:=qT.out;rw[rU.out]at dP;refine⟨i+1,_,SC,by omega,by first | rfl | go_num,Fz.out.change dP eO qj,?_⟩
      rw[lq.out];exact Pk.out.step aH Hqk.out Hpk.out
     case measure=>simp[intOf];omega
    ·have e1:((i:Int)+1<(k:Int))=False:=by simp;omega
     go_wp2;go_roundw
     case rel=>exact⟨v+1,M,T,by omega,by first | rfl | go_num,Fz.out,Pk.out.next (by omega)⟩
     case measure=>simp[intOf];omega
  ·obtain rfl:v=k:=by omega
   obtain⟨w5,rfl⟩:∃z,z=wr:=⟨_,rfl⟩
   have eK:aZ w5 w.heap.size (.slice none 0 0) (.slice none 0 0) (.slice none 0 0):=(eY.out.box.below Pj.out.since eY.out.box.lt);obtain⟨k0,k1,k2,f0,f1,f2⟩:=Pj.out.box.cells;obtain⟨e0,e1,e2,g0,g1,g2⟩:=eK.cells;have cK:=zh (Pj.out.ret f6.out gh.out);clear eK;go_wp2;refine bodyPost_ret (v:=.tuple #[.agg #[.slice (some ⟨g,0,none⟩) v c1,.slice AI 0 cI,.slice AN v cN],.bool true]) (by simp[results,Tryz.results128,go_sem, *]) rfl ?_;obtain⟨r1,r2⟩:=cK.out;exact⟨_,_,_,N,S,rfl,r1,YL.out.td hk.1 hk.2,r2⟩
def YM (cb B:Nat) (A:Option Addr) (L c P:Nat) (w:World) (T:aw->Prop) (e:Ending) (w':World):Prop:=
 ∃ve vi vn um N S ls,e=.returned (.tuple #[.agg #[ve,vi,vn],um])/\au w' B ve vi vn N S/\T N/\Own w' B um ls/\(ls.length<=200/\∀x∈ls,0<=x/\x<=1000)/\bB w' cb A L c P/\CB cb B w w'
theorem aY.trans' {cb:Nat} {w0 W W':World} (h:aY cb w0 W) (h':Below w0.heap.size W W'):aY cb w0 W':=CB.trans h (CB.of h')
end Go.Proofs.YtnioemnkfojmkaaGreat
