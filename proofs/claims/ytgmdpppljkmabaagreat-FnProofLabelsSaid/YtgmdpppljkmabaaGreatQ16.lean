/- Parts of the proof: walks of functions and plain laws. -/
import Derived.Test.YtgmdpppljkmabaaGreatQ0
import Derived.Test.YtgmdpppljkmabaaGreatQ15
set_option maxRecDepth 100000
set_option maxHeartbeats 16000000
namespace Go.Proofs.YtgmdpppljkmabaaGreat
open Go Go.RowKit
theorem Mb.aeq {cb B pb:Nat} {A:Option Addr} {L c P:Nat} {w W W1:World} {ve vi vn v':Value} {N:ak} {S T:List Nat} {ids':List Int} (h:Mb cb B pb A L c P w W ve vi vn N S) (ho:k9 W1 B v' ids' T) (eY:bg vi.ownBlock.toList W W1) (hT:∀j∈T,j∈vi.ownBlock.toList\/W.heap.size<=j) (hb:cb<B) (hp:B<=pb) (hB:B<=W.heap.size):
  bD W1 pb ve vi vn/\∃S',Mb cb B pb A L c P w (W1.setCell ⟨pb,1,none⟩ v') ve v' vn { N with ids:=ids' } S'/\∀j∈S',j∈S\/W.heap.size<=j:=by
 obtain⟨S1,S2,S3,-,h2,-,h4,-⟩:=id h.own
 have hS:∀j∈vi.ownBlock.toList,j∈S:=fun j hj=>by rw[h4,h2.2];exact List.mem_append_right _ (List.mem_append_left _ hj)
 have qE:=h.box.lt;have hnI:pb∉vi.ownBlock.toList:=fun hm=>h.nb (hS _ hm)
 have fe:bD W1 pb ve vi vn:=h.box.blk (eY.block pb qE hnI);obtain⟨S',K4,Ay⟩:=h.own.aeu ho eY hT
 have hn:pb∉S':=fun hj=>by
  rcases Ay _ hj with h1 | h1
  ·exact h.nb h1
  ·omega
 have lW:Below B W W1:=eY.below B hB (fun k hk=>(h.own.range k (hS k hk)).1)
 refine⟨fe,S',⟨K4.aeb (fun k hk=>Below.heap_setCell _ _ _ _ (fun e=>hn (by have e':k=pb:=e;exact e' ▸ hk))),fe.aew,hn,(h.cur.keep (fun k hk=>lW.block k (by omega))).keep (fun k hk=>Below.heap_setCell _ _ _ _ (by show k≠pb;omega)),(h.far.trans (CB.of lW)).setCell (p:=⟨pb,1,none⟩) (.inl hp) _⟩,Ay⟩
theorem Mb.aeD {cb B pb:Nat} {A:Option Addr} {L c P:Nat} {w W W1:World} {ve vi vn v':Value} {N:ak} {S T:List Nat} {in':List Int} (h:Mb cb B pb A L c P w W ve vi vn N S) (ho:k9 W1 B v' in' T) (eY:bg vn.ownBlock.toList W W1) (hT:∀j∈T,j∈vn.ownBlock.toList\/W.heap.size<=j) (hb:cb<B) (hp:B<=pb) (hB:B<=W.heap.size):
  bD W1 pb ve vi vn/\∃S',Mb cb B pb A L c P w (W1.setCell ⟨pb,2,none⟩ v') ve vi v' { N with aea:=in' } S'/\∀j∈S',j∈S\/W.heap.size<=j:=by
 obtain⟨S1,S2,S3,-,-,h2,h4,-⟩:=id h.own
 have hS:∀j∈vn.ownBlock.toList,j∈S:=fun j hj=>by rw[h4,h2.2];exact List.mem_append_right _ (List.mem_append_right _ hj)
 have qE:=h.box.lt;have hnI:pb∉vn.ownBlock.toList:=fun hm=>h.nb (hS _ hm)
 have fe:bD W1 pb ve vi vn:=h.box.blk (eY.block pb qE hnI);obtain⟨S',K4,Ay⟩:=h.own.aeC ho eY hT
 have hn:pb∉S':=fun hj=>by
  rcases Ay _ hj with h1 | h1
  ·exact h.nb h1
  ·omega
 have lW:Below B W W1:=eY.below B hB (fun k hk=>(h.own.range k (hS k hk)).1)
 refine⟨fe,S',⟨K4.aeb (fun k hk=>Below.heap_setCell _ _ _ _ (fun e=>hn (by have e':k=pb:=e;exact e' ▸ hk))),fe.aex,hn,(h.cur.keep (fun k hk=>lW.block k (by omega))).keep (fun k hk=>Below.heap_setCell _ _ _ _ (by show k≠pb;omega)),(h.far.trans (CB.of lW)).setCell (p:=⟨pb,2,none⟩) (.inl hp) _⟩,Ay⟩
theorem Mb.aej {cb B pb:Nat} {A:Option Addr} {L c P:Nat} {w W:World} {ve vi vn:Value} {N:ak} {S:List Nat} (h:Mb cb B pb A L c P w W ve vi vn N S):k9 W B vi N.ids vi.ownBlock.toList/\∀j∈vi.ownBlock.toList,j∈S:=by
 obtain⟨S1,S2,S3,-,h2,-,h4,-⟩:=id h.own
 exact⟨⟨h2.1,rfl⟩,fun j hj=>by rw[h4,h2.2];exact List.mem_append_right _ (List.mem_append_left _ hj)⟩
theorem Mb.aeF {cb B pb:Nat} {A:Option Addr} {L c P:Nat} {w W:World} {ve vi vn:Value} {N:ak} {S:List Nat} (h:Mb cb B pb A L c P w W ve vi vn N S):k9 W B vn N.aea vn.ownBlock.toList/\∀j∈vn.ownBlock.toList,j∈S:=by
 obtain⟨S1,S2,S3,-,-,h2,h4,-⟩:=id h.own
 exact⟨⟨h2.1,rfl⟩,fun j hj=>by rw[h4,h2.2];exact List.mem_append_right _ (List.mem_append_right _ hj)⟩
theorem sP (w:World) (x:Int):aY (w.alloc (.cells #[.int .i64 x] 3)) (.slice (some ⟨w.heap.size,0,none⟩) 1 1) [x]:=by
 refine⟨_,1,rfl,Nat.le_refl _,by unfold maxLen;omega,fun k y h=>?_⟩
 have hk:=an h
 have ID:k=0:=by simp at hk;omega
 subst ID;have hy:x=y:=by simpa using h
 subst hy;exact⟨_,_,rfl,by simp⟩
theorem Mb.aeH {cb B pb og:Nat} {A:Option Addr} {L c P:Nat} {w W W1:World} {ve vi vn v' uo:Value} {N:ak} {S T:List Nat} {y:Int} {xs:List Int} {Bo:Nat} (h:Mb cb B pb A L c P w W ve vi vn N S) (ho:k9 W1 B v' (N.ids++[y]) T) (eY:bg vi.ownBlock.toList W W1) (hT:∀j∈T,j∈vi.ownBlock.toList\/W.heap.size<=j) (hb:cb<B) (hp:B<=pb) (hB:B<=W.heap.size)
  (xS:Own W Bo uo xs) (Z8:uo.ownBlock=some og) (Vp:og∉S/\og≠pb) (hr:bx W (pb+1) (.slice none 0 0) (.slice none 0 0) (.slice none 0 0)) (hn:pb+1∉S):
  bD W1 pb ve vi vn/\∃S',Mb cb B pb A L c P w (W1.setCell ⟨pb,1,none⟩ v') ve v' vn { N with ids:=N.ids++[y] } S'/\Own (W1.setCell ⟨pb,1,none⟩ v') Bo uo xs/\bx (W1.setCell ⟨pb,1,none⟩ v') (pb+1) (.slice none 0 0) (.slice none 0 0) (.slice none 0 0)/\W.heap.size<=(W1.setCell ⟨pb,1,none⟩ v').heap.size/\pb+1∉S'/\og∉S':=by
 obtain⟨bN,S',fB,Ay⟩:=h.aeq ho eY hT hb hp hB;have Rw:=h.aej.2;have Vq:=(World.ownsRow.lt xS og Z8).2
 refine⟨bN,S',fB,aK xS (fun j hj=>?_),?_,by rw[jC];exact eY.size,fun hj=>?_,fun hj=>?_⟩
 ·have Fu:j=og:=by rw[Z8]at hj;simpa[eq_comm]using hj
  subst Fu;rw[Below.heap_setCell _ _ _ _ (by exact Vp.2)];exact eY.block _ Vq (fun hm=>Vp.1 (Rw _ hm))
 ·show(W1.setCell _ _).heap[pb+1]?=_
  rw[Below.heap_setCell _ _ _ _ (by show pb+1≠pb;omega),eY.block _ hr.lt (fun hm=>hn (Rw _ hm))]
  exact hr
 ·rcases Ay _ hj with h1 | h1
  ·exact hn h1
  ·have:=hr.lt;omega
 ·rcases Ay _ hj with h1 | h1
  ·exact Vp.1 h1
  ·omega
theorem Mb.ret {cb B pb rb:Nat} {A:Option Addr} {L c P:Nat} {w W:World} {ve vi vn:Value} {N:ak} {S:List Nat} (h:Mb cb B pb A L c P w W ve vi vn N S) (hr:rb∉S) (hB:B<=rb) (ja:cb<B):
  az (aed W rb ve vi vn) B ve vi vn N S/\dm (aed W rb ve vi vn) cb A L c P/\CB cb B w (aed W rb ve vi vn):=by
 refine⟨h.own.aeb (fun k hk=>dZ _ _ _ _ _ (fun e=>hr (e ▸ hk))),h.cur.keep (fun k hk=>dZ _ _ _ _ _ (by omega)),?_⟩
 exact((h.far.setCell (p:=⟨rb,0,none⟩) (.inl hB) _).setCell (p:=⟨rb,1,none⟩) (.inl hB) _).setCell (p:=⟨rb,2,none⟩) (.inl hB) _
theorem tM (cb:Nat) (A:Option Addr) (L c P R M:Nat) (ve vi vn:Value) (n:ak) (w:World) (hc:dm w cb A L c P) (hP:P<=4500000000000000000) (h:aQ w ve vi vn n) (hg:Gd R M n) (hR:R<=100) (hM:M<=100):
  Calls Tryz.prog 157 #[.pointer (some ⟨cb,0,none⟩),.agg #[ve,vi,vn]] w (vB cb w.heap.size A L c (P+1000) w (fun N=>N.ends=n.ends/\N.aea=n.aea/\N.ids.length=n.ends.length)):=by
 have ja:=hc.lt;obtain⟨A1,c1,rfl,-,rM,-⟩:=id h.1;obtain⟨AI,cI,rfl,-,-,-⟩:=id h.2.1;obtain⟨AN,cN,rfl,-,-,-⟩:=id h.2.2;obtain⟨pb,gG⟩:∃z,z=w.heap.size:=⟨_,rfl⟩
 obtain⟨w0,cG⟩:∃z,z=w.alloc (.cells #[.slice A1 n.ends.length c1,.slice AI n.ids.length cI,.slice AN n.aea.length cN] 27):=⟨_,rfl⟩
 obtain⟨wa,lj⟩:∃z,z=w0.alloc (.cells #[.slice none 0 0,.slice none 0 0,.slice none 0 0] 27):=⟨_,rfl⟩
 have bB:aa w w0:=by rw[cG];exact ag _ (ad _)
 have cY:aa w0 wa:=by rw[lj];exact ag _ (ad _)
 have nk:w0.heap.size=w.heap.size+1:=by rw[cG];simp
 have nu:bD w0 pb (.slice A1 n.ends.length c1) (.slice AI n.ids.length cI) (.slice AN n.aea.length cN):=by rw[cG,gG];exact bD.new _ _ _ _ _
 have L9:=nu.below cY (by rw[nk,gG];omega)
 have gY:bx wa (pb+1) (.slice none 0 0) (.slice none 0 0) (.slice none 0 0):=by
  rw[lj,gG,<- nk];show(w0.heap.push _)[w0.heap.size]?=_
  rw[Array.getElem?_push_size]
 have lK:aa w wa:=bB.after cY
 have ft:Hid (cb<pb/\pb+2=wa.heap.size/\pb=w.heap.size):=⟨by omega,by rw[gG,lj];simp;omega,gG⟩
 have Ap:=zh lK;have iF:=zh gY;have Vr:=zh L9;have Xg:=zh (hc.since lK);have HNa:=zh (h.keep lK.below);have Hg:=zh hg;have bK:=zh cG;have FK:=zh lj;have fe:=L9.cells
 have KY:n.ends.length<=100:=by have:=hg.ends;omega
 clear hc h bB cY nu gY lK L9 hg cG lj gG nk
 go_enter Tryz.func157,Tryz.ntmps157
 go_upto_region 1 with(fail);rw[<- bK.out,<- FK.out,<- ft.out.2.2];obtain⟨x0,x1,x2,f0,f1,f2⟩:=fe;go_wp2_with fail
 refine(kW _ _ _ n wa HNa.out (by omega) (fun k es he=>by have:=Hg.out.row k es he;omega) (Hg.out.small hR hM).sz).mono ?_
 rintro e w1 ⟨ue,ui,un,S0,rfl,ho,ay⟩;have cY:aa wa w1:=ay;obtain⟨E1,e1,rfl,-,-,-⟩:=id ho.read.1;obtain⟨EI,eI,rfl,-,-,-⟩:=id ho.read.2.1;obtain⟨EN,eN,rfl,-,-,-⟩:=id ho.read.2.2;clear x0 x1 x2 f0 f1 f2;have G1:=Vr.out.below cY Vr.out.lt;obtain⟨x0,x1,x2,f0,f1,f2⟩:=G1.cells
 have Qi:pb∉S0:=fun hj=>by have h1:=(ho.range _ hj).1;have h2:=ft.out;omega
 have iJ:Mb cb w.heap.size pb A L c P w (aed w1 pb (.slice E1 n.ends.length e1) (.slice EI n.ids.length eI) (.slice EN n.aea.length eN)) (.slice E1 n.ends.length e1) (.slice EI n.ids.length eI) (.slice EN n.aea.length eN) n S0:=by
  have h0:=ft.out
  refine⟨(ho.aeb (fun k hk=>dZ _ _ _ _ _ (fun e=>Qi (by have e':k=pb:=e;exact e' ▸ hk)))).mono (by omega),G1.aed _ _ _,Qi,((Xg.out.since cY).keep (fun k hk=>dZ _ _ _ _ _ (by omega))),?_⟩
  exact((((CB.of (Ap.out.after cY).below).mono (Nat.le_refl _)).setCell (p:=⟨pb,0,none⟩) (.inl (by show _<=pb;omega)) _).setCell (p:=⟨pb,1,none⟩) (.inl (by show _<=pb;omega)) _).setCell (p:=⟨pb,2,none⟩) (.inl (by show _<=pb;omega)) _
 have oD:bx (aed w1 pb (.slice E1 n.ends.length e1) (.slice EI n.ids.length eI) (.slice EN n.aea.length eN)) (pb+1) (.slice none 0 0) (.slice none 0 0) (.slice none 0 0):=(dZ _ _ _ _ _ (by omega)).trans (iF.out.since cY)
 have dV:wa.heap.size<=(aed w1 pb (.slice E1 n.ends.length e1) (.slice EI n.ids.length eI) (.slice EN n.aea.length eN)).heap.size:=by rw[gQ];exact cY.below.size
 have kz:pb+1∉S0:=fun hj=>by have h1:=(ho.range _ hj).1;have h2:=ft.out;omega
 have B3:=zh iJ;have qL:=zh oD;have JU:=zh dV;have jm:=zh kz;have Hfz:=zh (And.intro f0 (And.intro f1 f2));clear iJ oD dV kz ho ay cY G1 Qi;go_upto_region 2 with(fail);obtain⟨w2,gR⟩:∃z,z=((w1.setCell ⟨pb,0,none⟩ (.slice E1 n.ends.length e1)).setCell ⟨pb,1,none⟩ (.slice EI n.ids.length eI)).setCell ⟨pb,2,none⟩ (.slice EN n.aea.length eN):=⟨_,rfl⟩
 rw[<- gR]
 have kC:Hid (Mb cb w.heap.size pb A L c P w w2 (.slice E1 n.ends.length e1) (.slice EI n.ids.length eI) (.slice EN n.aea.length eN) n S0):=by show Mb _ _ _ _ _ _ _ _ _ _ _ _ _ _;rw[gR];exact B3.out
 have yJ:Hid (bx w2 (pb+1) (.slice none 0 0) (.slice none 0 0) (.slice none 0 0)):=by show bx _ _ _ _ _;rw[gR];exact qL.out
 have EZ:Hid (wa.heap.size<=w2.heap.size):=by show _<=_;rw[gR];exact JU.out
 clear gR B3 qL JU Hfz x0 x1 x2 f0 f1 f2
 have BK:w.heap.size<=w2.heap.size:=by have h1:=EZ.out;have h2:=ft.out;omega
 have L_:w.heap.size<=pb:=by have h2:=ft.out;omega
 obtain⟨bN,S1,fB,ZX⟩:=kC.out.aeq (v':=.slice none 0 0) (ids':=[]) (j7 _ _) (bg.refl _ _) (fun j hj=>by simp at hj) ja L_ BK
 obtain⟨-,x1,-,-,f1,-⟩:=kC.out.box.cells;have kK:=zh fB
 have tN:Hid (bx (w2.setCell ⟨pb,1,none⟩ (.slice none 0 0)) (pb+1) (.slice none 0 0) (.slice none 0 0) (.slice none 0 0)):=yJ.out.other (by show pb+1≠pb;omega)
 have Hn3:Hid (pb+1∉S1):=fun hj=>by
  rcases ZX _ hj with h1 | h1
  ·exact jm.out h1
  ·have h2:=EZ.out;have h3:=ft.out;omega
 have Rx:Hid (wa.heap.size<=(w2.setCell ⟨pb,1,none⟩ (.slice none 0 0)).heap.size):=by show _<=_;rw[jC];exact EZ.out
 clear bN fB ZX BK;go_upto_region 3 with(fail);obtain⟨w3,iR⟩:∃z,z=w2.setCell ⟨pb,1,none⟩ (.slice none 0 0):=⟨_,rfl⟩
 rw[<- iR]at kK tN Rx ⊢;clear iR x1 f1;go_wp2_with fail;refine(mT cb A L c P 2 w3 kK.out.cur (by omega) (by omega)).mono ?_;rintro e w4 ⟨small,rfl,pD,pY⟩
 have QO:w.heap.size<=w3.heap.size:=by have h1:=Rx.out;have h2:=ft.out;omega
 have sG:=zh (kK.out.seen pY pD ja L_ QO)
 have Hr4:Hid (bx w4 (pb+1) (.slice none 0 0) (.slice none 0 0) (.slice none 0 0)):=(pY.block _ tN.out.lt (by have:=ft.out;omega)).trans tN.out
 have Qg:Hid (wa.heap.size<=w4.heap.size):=Nat.le_trans Rx.out pY.size;clear pD pY QO;obtain⟨y0,-,-,-,-,-⟩:=sG.out.box.cells;go_wp2_with fail;refine(GF cb A L c (P+2) n.ends.length w4 sG.out.cur (by omega) KY).mono ?_;rintro e w5 ⟨og,xs,rfl,qv,Z9,mZ,vC⟩
 have Yy:w.heap.size<=w4.heap.size:=by have h1:=Qg.out;have h2:=ft.out;omega
 have ke:=zh (sG.out.seen vC mZ ja L_ Yy)
 have Hr5:Hid (bx w5 (pb+1) (.slice none 0 0) (.slice none 0 0) (.slice none 0 0)):=(vC.block _ Hr4.out.lt (by have:=ft.out;omega)).trans Hr4.out
 have Hz5:Hid (wa.heap.size<=w5.heap.size):=Nat.le_trans Qg.out vC.size;have Qf:=zh qv;have ZG:=zh Z9;have vh:xs.length=n.ends.length:=qv.len.symm ▸ rfl
 have Vs:Hid (og∉S1/\og≠pb/\og≠pb+1/\cb<og/\og<w5.heap.size):=by
  have h1:=(World.ownsRow.lt qv og (by simp[Value.ownBlock]));have h2:=sG.out.box.lt;have h3:=Hr4.out.lt
  exact⟨fun hj=>by have:=(sG.out.own.range _ hj).2;omega,by omega,by omega,by omega,h1.2⟩
 clear qv Z9 mZ vC Yy y0;have zi:=zh vh;clear vh;go_upto_region 6 with(fail)
 have iN:pb≠cb:=by have:=ft.out;omega
 go_loopw [21] (fun i wr=>∃(k:Nat) (vi:Value) (N:ak) (S:List Nat),k<=n.ends.length/\i=.int .i64 k/\Mb cb w.heap.size pb A L c (P+202+2*k) w wr (.slice E1 n.ends.length e1) vi (.slice EN n.aea.length eN) N S/\N.ends=n.ends/\N.aea=n.aea/\N.ids.length=k/\Own wr w4.heap.size (.slice (some ⟨og,0,none⟩) n.ends.length n.ends.length) xs/\bx wr (pb+1) (.slice none 0 0) (.slice none 0 0) (.slice none 0 0)/\wa.heap.size<=wr.heap.size/\pb+1∉S/\og∉S) (fun i _=>n.ends.length-(intOf i).toNat)
 case atStart=>exact⟨0,_,{ n with ids:=[] },S1,Nat.zero_le _,rfl,⟨ke.out.own,ke.out.box,ke.out.nb,ke.out.cur.mono (by omega),ke.out.far⟩,rfl,rfl,rfl,Qf.out,Hr5.out,Hz5.out,Hn3.out,Vs.out.1⟩
 case round=>
  obtain⟨k,vi,N,S,hk,rfl,hm,Z_,TD,yE,xS,hr,hz,kz,iA⟩:=hrel;obtain⟨rQ,rR,rfl,-,-,-⟩:=id hm.own.read.2.1
  have LZ:Mb cb w.heap.size pb A L c (P+202+2*k) w wr (.slice E1 n.ends.length e1) (.slice rQ k rR) (.slice EN n.aea.length eN) N S:=by rw[yE]at hm;exact hm
  have Hm:=zh LZ;have Hf:=zh (And.intro Z_ (And.intro TD yE));have G2:=zh xS;have Hr:=zh hr;have Hz:=zh hz;have jm:=zh kz;have q9:=zh iA
  have HzB:Hid (w.heap.size<=wr.heap.size):=by show _<=_;have h1:=ft.out;omega
  clear hm LZ Z_ TD yE xS hr hz kz iA
  by_cases hlt:k<n.ends.length
  ·obtain⟨x,hx⟩:=aM xs k (by rw[zi.out];exact hlt)
   have sk:=ZG.out x (List.mem_of_getElem? hx);have c0:=G2.out.cell hx;have m3:IntKind.i64.wrap ((k:Int)+1)=(k:Int)+1:=aF _ (by omega) (by omega)
   have Hl:Hid (N.ids.length+[x+1].length<=17592186044416):=by show _<=_;have:=Hf.out.2.2;simp;omega
   cases small
   ·obtain⟨y,hy⟩:∃z,z=1+x*20000:=⟨_,rfl⟩
    have m1:IntKind.i64.wrap (x*20000)=x*20000:=aF _ (by omega) (by omega)
    have m2:IntKind.i64.wrap (1+x*20000)=y:=by rw[hy];exact aF _ (by omega) (by omega)
    have Hyb:Hid (0<=y/\y<=100000000):=by show _/\_;omega
    obtain⟨wo,rfl⟩:∃z,z=wr:=⟨_,rfl⟩
    have lp:=zh (show wo.cell? ⟨pb,1,none⟩=some (.slice rQ k rR)from Hm.out.box.cells.2.1);clear sk hx hy;go_upto_region 10 with(fail);refine aL (fun W=>W.cell? ⟨pb,1,none⟩=some (.slice rQ k rR)) 10 [false,false,false,false,false,false,true,true,true,true] (by kernel_rfl) (by kernel_rfl) (show(World.drew wo).cell? ⟨pb,1,none⟩=some (.slice rQ k rR)from lp.out) ?_
    simp only[eE,ea,zT]
    iterate 6 (apply bV rfl;(intro W hW;(have k0:=hW);go_simp;with_reducible rfl);simp only[zA])
    obtain⟨W,dE⟩:∃W,W=World.drew wo:=⟨_,rfl⟩
    rw[<- dE];have hW:=(show(World.drew wo).cell? ⟨pb,1,none⟩=some (.slice rQ k rR)from lp.out);rw[<- dE]at hW;have gA:=zh dE;clear dE;refine Or.inl ⟨rfl,?_⟩
    go_simp
    (with_reducible refine(dJ cb A L c (P+202+2*k) 20000 W (by rw[gA.out];exact Hm.out.cur.since (aj (ad _))) (by omega) (by omega)).mono ?_)
    rintro e W' ⟨a,rfl,ha,fh,hC⟩;refine⟨_,rfl,aA hW iN _ hC,?_⟩
    replace hW:=aA hW iN _ hC
    have qg:aa wo W:=(by rw[gA.out];exact aj (ad _))
    have ly:=((eF.refl cb wo).after qg).trans hC;have Az:=zh (Hm.out.seen ly fh ja L_ HzB.out)
    have J8:=zh (aK G2.out (fun j hj=>(show j=og by simpa[Value.ownBlock,eq_comm]using hj) ▸ ly.block og (World.ownsRow.lt G2.out og rfl).2 (by have:=Vs.out;omega)))
    have Hr7:Hid (bx W' (pb+1) (.slice none 0 0) (.slice none 0 0) (.slice none 0 0)):=(ly.block _ Hr.out.lt (by have:=ft.out;omega)).trans Hr.out
    have Hz7:Hid (wa.heap.size<=W'.heap.size):=Nat.le_trans Hz.out ly.size;have aaa:Hid (w.heap.size<=W'.heap.size):=Nat.le_trans HzB.out ly.size
    have m4:IntKind.i64.wrap (y+(a:Int))=y+(a:Int):=aF _ (by have:=Hyb.out;omega) (by have:=Hyb.out;omega)
    clear hC fh qg ha ly
    (try simp only[zA])
    refine dG (v:=?_) rfl ?_ hW ?_;rotate_left;(go_simp;with_reducible rfl)
    simp only[zA]
    refine dD (v:=?_) (ob:=?_) rfl ?_ ?_ ?_;rotate_left 2
    (go_simp;first | with_reducible rfl | (refine⟨?_,?_⟩ <;> with_reducible rfl))
    exact bc (am _ _) hW;intro w8 ms mW
    replace hW:=mW
    clear mW
    have oa:aa W' w8:=(by rw[ms];exact ag _ (ad _))
    have Fo:=zh (Az.out.since oa ja L_ aaa.out);have uw:=zh (Own.since J8.out oa);have Hr8:=zh (Hr7.out.since oa);have Hz8:Hid (wa.heap.size<=w8.heap.size):=Nat.le_trans Hz7.out oa.below.size;have aab:Hid (w.heap.size<=w8.heap.size):=Nat.le_trans aaa.out oa.below.size
    have Hi8:Hid (aY w8 (.slice (some ⟨W'.heap.size,0,none⟩) 1 1) [y+(a:Int)]):=(by show aY _ _ _;rw[ms];exact sP _ _)
    have aac:=zh Fo.out.aej.1.1;have Hl8:Hid (N.ids.length+[y+(a:Int)].length<=17592186044416):=Hl.out;clear ms oa
    (try simp only[zA])
    refine ee (fun Q' HQ=>?_)
    (refine jW (base:=w.heap.size) (v:=.slice rQ k rR) (xs:=N.ids) rfl _ _ rfl rfl aac.out rfl Hi8.out Hl8.out aab.out ?_);intro v' w9 T iS gL TE;obtain⟨V,mV,cV,rfl⟩:=iy.one iS;obtain⟨km,S9,Jp,Eg,hr9,OF,hn9,Eh⟩:=Fo.out.aeH iS gL TE ja L_ aab.out uw.out rfl ⟨q9.out,Vs.out.2.1⟩ Hr8.out jm.out;refine HQ _ _ km.cells.2.1 ?_;clear iS gL TE;have tO:=zh Jp;have vP:=zh Eg;have Hr9:=zh hr9;have tK:=zh OF;have Z4:=zh hn9;have OG:=zh Eh;clear Jp Eg hr9 OF hn9 Eh;obtain⟨x0,x1,x2,f0,f1,f2⟩:=km.cells;clear km
    (try simp only[zA])
    simp only[bz];go_wp2;go_roundw
    case rel=>exact⟨k+1,_,_,S9,by omega,by first | rfl | go_num,⟨tO.out.own,tO.out.box,tO.out.nb,tO.out.cur.mono (by omega),tO.out.far⟩,Hf.out.1,Hf.out.2.1,by have:=Hf.out.2.2;simp;omega,vP.out,Hr9.out,Nat.le_trans Hz8.out tK.out,Z4.out,OG.out⟩
    case measure=>simp[intOf];omega
   ·have m1:IntKind.i64.wrap (x+1)=x+1:=aF _ (by omega) (by omega);have oa:aa wr (wr.alloc (.cells #[.int .i64 (x+1)] 3)):=ag _ (ad _);have HmA:=zh (Hm.out.since oa ja L_ HzB.out);have HoA:=zh (G2.out.since oa);have HrA:=zh (Hr.out.since oa);have HzA:Hid (wa.heap.size<=(wr.alloc (.cells #[.int .i64 (x+1)] 3)).heap.size):=Nat.le_trans Hz.out oa.below.size;have aad:Hid (w.heap.size<=(wr.alloc (.cells #[.int .i64 (x+1)] 3)).heap.size):=Nat.le_trans HzB.out oa.below.size;obtain⟨x0,x1,x2,f0,f1,f2⟩:=Hm.out.box.cells;have aP:=HmA.out.aej.1.1;have Ei:=zh aP;clear oa sk hx aP
    go_wp2_with (at_builtin;refine jW (base:=w.heap.size) rfl _ _ rfl rfl Ei.out rfl (sP _ _) Hl.out aad.out ?_;intro v' w9 T iS gL TE;obtain⟨V,mV,cV,rfl⟩:=iy.one iS;obtain⟨km,S9,Jp,Eg,hr9,OF,hn9,Eh⟩:=HmA.out.aeH iS gL TE ja L_ aad.out HoA.out rfl ⟨q9.out,Vs.out.2.1⟩ HrA.out jm.out;clear x0 x1 x2 f0 f1 f2 iS gL TE;have tO:=zh Jp;have vP:=zh Eg;have Hr9:=zh hr9;have tK:=zh OF;have Z4:=zh hn9;have OG:=zh Eh;clear Jp Eg hr9 OF hn9 Eh;obtain⟨x0,x1,x2,f0,f1,f2⟩:=km.cells;clear km)
    go_roundw
    case rel=>exact⟨k+1,_,_,S9,by omega,by first | rfl | go_num,⟨tO.out.own,tO.out.box,tO.out.nb,tO.out.cur.mono (by omega),tO.out.far⟩,Hf.out.1,Hf.out.2.1,by have:=Hf.out.2.2;simp;omega,vP.out,Hr9.out,Nat.le_trans HzA.out tK.out,Z4.out,OG.out⟩
    case measure=>simp[intOf];omega
  ·obtain rfl:k=n.ends.length:=by omega
   clear hlt hk;obtain⟨k0,k1,k2,-,-,-⟩:=Hm.out.box.cells;obtain⟨e0,Gu,e2,f0,f1,f2⟩:=Hr.out.box.cells;have c_:=zh (Hm.out.ret (rb:=pb+1) jm.out (by omega) ja);go_wp2;refine bodyPost_ret (v:=.agg #[.slice E1 n.ends.length e1,.slice rQ n.ends.length rR,.slice EN n.aea.length eN]) (by simp[results,Tryz.results157,go_sem, *]) rfl ?_;obtain⟨r1,r2,r3⟩:=c_.out;exact⟨_,_,_,N,S,rfl,r1,Hf.out,r2.mono (by omega),r3⟩
theorem xT {w:World} {g i:Nat} {v:Value} (h:w.cell? ⟨g,i,none⟩=some v) (k:Nat):(w.setCell ⟨g,i,none⟩ v).heap[k]?=w.heap[k]?:=by
 by_cases e:k=g
 ·subst e
  unfold World.cell? at h
  cases hb:w.heap[k]? with
  | none=>rw[show w.heap[(⟨k,i,none⟩:Addr).block]?=none from hb]at h;simp at h
  | some o=>
   rw[show w.heap[(⟨k,i,none⟩:Addr).block]?=some o from hb]at h
   cases o with
   | cells cs t fr=>
    have hc:cs[i]?=some v:=by simpa using h
    have he:cs.setIfInBounds i v=cs:=by
     apply Array.ext_getElem?
     intro j;rw[Array.getElem?_setIfInBounds]
     by_cases hj:i=j
     ·subst hj;rw[if_pos rfl,if_pos (Array.getElem?_eq_some_iff.1 hc).1,hc]
     ·rw[if_neg hj]
    simp[World.setCell,Array.getElem?_modify,hb,he]
   | _=>simp at h
 ·exact Below.heap_setCell _ _ _ _ e
theorem Ry {w:World} {g i:Nat} {v:Value} (h:w.cell? ⟨g,i,none⟩=some v) (p:Addr) (u:Value) (k:Nat):((w.setCell ⟨g,i,none⟩ v).setCell p u).heap[k]?=(w.setCell p u).heap[k]?:=by
 by_cases e:k=p.block
 ·have h1:=xT h p.block;subst e
  rw[show((w.setCell ⟨g,i,none⟩ v).setCell p u).heap[p.block]?=_ from by unfold World.setCell;exact Array.getElem?_modify ..]
  rw[show(w.setCell p u).heap[p.block]?=_ from by unfold World.setCell;exact Array.getElem?_modify ..]
  rw[if_pos rfl,if_pos rfl];exact congrArg _ h1
 ·rw[Below.heap_setCell _ _ _ _ e,Below.heap_setCell _ _ _ _ e,xT h]
theorem OH {w:World} {g i j:Nat} (CW:i≠j) (u:Value):(w.setCell ⟨g,i,none⟩ u).cell? ⟨g,j,none⟩=w.cell? ⟨g,j,none⟩:=by
 unfold World.cell? World.setCell
 simp only[Array.getElem?_modify,if_true]
 cases w.heap[g]? with
 | none=>rfl
 | some o=>cases o <;> simp[CW]
theorem az.setPort {w:World} {base g c n:Nat} {vi vn:Value} {N:ak} {S:List Nat} (h:az w base (.slice (some ⟨g,0,none⟩) n c) vi vn N S) {k:Nat} {es:List (Int×Int)} (hx:N.ends[k]?=some es) (hj:0<es.length):
  ∃gr cr,w.cell? ⟨g,k,none⟩=some (.slice (some ⟨gr,0,none⟩) es.length cr)/\gr∈S/\w.frozen? ⟨gr,0,none⟩=false/\w.frozen? ⟨gr,1,none⟩=false/\(∃z,w.cell? ⟨gr,0,none⟩=some z)/\(∃z,w.cell? ⟨gr,1,none⟩=some z) /\
   (∀x:Int,∃y,az (w.setCell ⟨gr,0,none⟩ (.int .i64 x)) base (.slice (some ⟨g,0,none⟩) n c) vi vn { N with ends:=N.ends.set k (es.set 0 y) } S) /\
   (∀x:Int,∃y,az (w.setCell ⟨gr,1,none⟩ (.int .i64 x)) base (.slice (some ⟨g,0,none⟩) n c) vi vn { N with ends:=N.ends.set k (es.set 0 y) } S):=by
 obtain⟨gr,cr,h1,-,-,-,h2,-,⟨f0,f1⟩,c0,c1,bZ⟩:=h.aep hx hj;simp only[Nat.zero_mul,Nat.zero_add]at f0 f1 c0 c1 bZ;obtain⟨e,he⟩:=aM es 0 hj;obtain⟨u,T,hu,-,hR,-,-,-⟩:=h.aef hx;rw[h1]at hu;have hu:=Option.some.inj hu;subst hu;obtain⟨d0,d1,-⟩:=eO.cells hR he;simp only[Nat.zero_mul,Nat.zero_add]at d0 d1;refine⟨gr,cr,h1,h2,f0,f1,c0,c1,fun x=>⟨(x,e.2),?_⟩,fun x=>⟨(e.1,x),?_⟩⟩
 ·refine(bZ (x,e.2)).aeb (fun q _=>?_)
  exact(xT (show(w.setCell ⟨gr,0,none⟩ (.int .i64 x)).cell? ⟨gr,1,none⟩=some (.int .i64 e.2)by rw[OH (by omega)];exact d1) q).symm
 ·exact(bZ (e.1,x)).aeb (fun q _=>(Ry d0 _ _ q).symm)
structure Br (cb pb:Nat) (A:Option Addr) (L c P:Nat) (w W:World) (ve vi vn:Value) (N:ak) (S:List Nat):Prop where
 mb:Mb cb w.heap.size pb A L c P w W ve vi vn N S
 rb:bx W (pb+1) (.slice none 0 0) (.slice none 0 0) (.slice none 0 0)
 rn:pb+1∉S
 pe:pb=w.heap.size
 cbp:cb<pb
section
variable {cb pb : Nat} {A : Option Addr} {L c P : Nat} {w W : World} {ve vi vn : Value} {N : ak} {S : List Nat}
theorem Br.sz (h:Br cb pb A L c P w W ve vi vn N S):w.heap.size<=W.heap.size:=by have:=h.rb.lt;have:=h.pe;omega
theorem Br.seen {W':World} {P':Nat} (h:Br cb pb A L c P w W ve vi vn N S) (hs:eF cb W W') (GR:dm W' cb A L c P'):Br cb pb A L c P' w W' ve vi vn N S:=
 ⟨h.mb.seen hs GR (by have:=h.pe;have:=h.cbp;omega) (by have:=h.pe;omega) h.sz,(hs.block _ h.rb.lt (by have:=h.cbp;omega)).trans h.rb,h.rn,h.pe,h.cbp⟩
theorem Br.since {W':World} (h:Br cb pb A L c P w W ve vi vn N S) (hs:aa W W'):Br cb pb A L c P w W' ve vi vn N S:=h.seen (CB.of hs) (h.mb.cur.since hs)
theorem Br.up {P':Nat} (h:Br cb pb A L c P w W ve vi vn N S) (hP:P<=P'):Br cb pb A L c P' w W ve vi vn N S:=⟨⟨h.mb.own,h.mb.box,h.mb.nb,h.mb.cur.mono hP,h.mb.far⟩,h.rb,h.rn,h.pe,h.cbp⟩
theorem Br.only {W':World} {N':ak} {S':List Nat} {ve' vi' vn':Value} (h:Br cb pb A L c P w W ve vi vn N S) (ho:az W' w.heap.size ve' vi' vn' N' S') (hS:∀j∈S',j∈S\/W.heap.size<=j) (eY:bg S W W'):
  bD W' pb ve vi vn/\pb∉S'/\pb+1∉S'/\bx W' (pb+1) (.slice none 0 0) (.slice none 0 0) (.slice none 0 0)/\dm W' cb A L c P/\CB cb w.heap.size w W':=by
 have hp:=h.pe;have hc:=h.cbp;have h1:=h.rb.lt;have lW:Below w.heap.size W W':=eY.below _ h.sz (fun k hk=>(h.mb.own.range k hk).1)
 refine⟨h.mb.box.blk (eY.block _ h.mb.box.lt h.mb.nb),fun hj=>?_,fun hj=>?_,(eY.block _ h1 h.rn).trans h.rb,h.mb.cur.keep (fun k hk=>lW.block k (by omega)),h.mb.far.trans (CB.of lW)⟩
 ·rcases hS _ hj with h2 | h2
  ·exact h.mb.nb h2
  ·omega
 ·rcases hS _ hj with h2 | h2
  ·exact h.rn h2
  ·omega
theorem Br.own {W':World} {N':ak} {S':List Nat} (h:Br cb pb A L c P w W ve vi vn N S) (ho:az W' w.heap.size ve vi vn N' S') (hS:∀j∈S',j∈S\/W.heap.size<=j) (eY:bg S W W'):Br cb pb A L c P w W' ve vi vn N' S':=by
 obtain⟨a1,a2,a3,a4,a5,a6⟩:=h.only ho hS eY;exact⟨⟨ho,a1,a2,a5,a6⟩,a4,a3,h.pe,h.cbp⟩
theorem Br.aev {W':World} {N':ak} {S':List Nat} {v':Value} (h:Br cb pb A L c P w W ve vi vn N S) (ho:az W' w.heap.size v' vi vn N' S') (hS:∀j∈S',j∈S\/W.heap.size<=j) (eY:bg S W W'):
  bD W' pb ve vi vn/\Br cb pb A L c P w (W'.setCell ⟨pb,0,none⟩ v') v' vi vn N' S':=by
 obtain⟨a1,a2,a3,a4,a5,a6⟩:=h.only ho hS eY;have hp:=h.pe;have hc:=h.cbp
 refine⟨a1,⟨⟨ho.aeb (fun k hk=>Below.heap_setCell _ _ _ _ (fun e=>a2 (by have e':k=pb:=e;exact e' ▸ hk))),a1.aev,a2,a5.keep (fun k hk=>Below.heap_setCell _ _ _ _ (by show k≠pb;omega)),a6.setCell (p:=⟨pb,0,none⟩) (.inl (by show _<=pb;omega)) _⟩,a4.other (by show pb+1≠pb;omega),a3,h.pe,h.cbp⟩⟩
theorem Br.aew {W':World} {N':ak} {S':List Nat} {v':Value} (h:Br cb pb A L c P w W ve vi vn N S) (ho:az W' w.heap.size ve v' vn N' S') (hS:∀j∈S',j∈S\/W.heap.size<=j) (eY:bg S W W'):
  bD W' pb ve vi vn/\Br cb pb A L c P w (W'.setCell ⟨pb,1,none⟩ v') ve v' vn N' S':=by
 obtain⟨a1,a2,a3,a4,a5,a6⟩:=h.only ho hS eY;have hp:=h.pe;have hc:=h.cbp
 refine⟨a1,⟨⟨ho.aeb (fun k hk=>Below.heap_setCell _ _ _ _ (fun e=>a2 (by have e':k=pb:=e;exact e' ▸ hk))),a1.aew,a2,a5.keep (fun k hk=>Below.heap_setCell _ _ _ _ (by show k≠pb;omega)),a6.setCell (p:=⟨pb,1,none⟩) (.inl (by show _<=pb;omega)) _⟩,a4.other (by show pb+1≠pb;omega),a3,h.pe,h.cbp⟩⟩
theorem Br.aex {W':World} {N':ak} {S':List Nat} {v':Value} (h:Br cb pb A L c P w W ve vi vn N S) (ho:az W' w.heap.size ve vi v' N' S') (hS:∀j∈S',j∈S\/W.heap.size<=j) (eY:bg S W W'):
  bD W' pb ve vi vn/\Br cb pb A L c P w (W'.setCell ⟨pb,2,none⟩ v') ve vi v' N' S':=by
 obtain⟨a1,a2,a3,a4,a5,a6⟩:=h.only ho hS eY;have hp:=h.pe;have hc:=h.cbp
 refine⟨a1,⟨⟨ho.aeb (fun k hk=>Below.heap_setCell _ _ _ _ (fun e=>a2 (by have e':k=pb:=e;exact e' ▸ hk))),a1.aex,a2,a5.keep (fun k hk=>Below.heap_setCell _ _ _ _ (by show k≠pb;omega)),a6.setCell (p:=⟨pb,2,none⟩) (.inl (by show _<=pb;omega)) _⟩,a4.other (by show pb+1≠pb;omega),a3,h.pe,h.cbp⟩⟩
theorem Br.aeq {W':World} {T:List Nat} {v':Value} {ids':List Int} (h:Br cb pb A L c P w W ve vi vn N S) (ho:k9 W' w.heap.size v' ids' T) (eY:bg vi.ownBlock.toList W W') (hT:∀j∈T,j∈vi.ownBlock.toList\/W.heap.size<=j):
  bD W' pb ve vi vn/\∃S',Br cb pb A L c P w (W'.setCell ⟨pb,1,none⟩ v') ve v' vn { N with ids:=ids' } S':=by
 obtain⟨S',K4,Ay⟩:=h.mb.own.aeu ho eY hT;obtain⟨b1,b2⟩:=h.aew K4 Ay (eY.mono (h.mb.aej.2));exact⟨b1,S',b2⟩
theorem Br.aeD {W':World} {T:List Nat} {v':Value} {in':List Int} (h:Br cb pb A L c P w W ve vi vn N S) (ho:k9 W' w.heap.size v' in' T) (eY:bg vn.ownBlock.toList W W') (hT:∀j∈T,j∈vn.ownBlock.toList\/W.heap.size<=j):
  bD W' pb ve vi vn/\∃S',Br cb pb A L c P w (W'.setCell ⟨pb,2,none⟩ v') ve vi v' { N with aea:=in' } S':=by
 obtain⟨S',K4,Ay⟩:=h.mb.own.aeC ho eY hT;obtain⟨b1,b2⟩:=h.aex K4 Ay (eY.mono (h.mb.aeF.2));exact⟨b1,S',b2⟩
theorem Br.assign {W1:World} {P':Nat} {a b d:Value} {N':ak} {S':List Nat} (h:Br cb pb A L c P w W ve vi vn N S) (hs:eF cb W W1) (GR:dm W1 cb A L c P') (ho:az W1 W.heap.size a b d N' S'):
  Br cb pb A L c P' w (aed W1 pb a b d) a b d N' S':=by
 have hp:=h.pe;have hc:=h.cbp;have h1:=h.rb.lt;refine⟨h.mb.assign hs GR ho (by omega) (by omega) (by omega) h.sz,(dZ _ _ _ _ _ (by omega)).trans ((hs.block _ h.rb.lt (by omega)).trans h.rb),fun hj=>?_,h.pe,h.cbp⟩
 have:=(ho.range _ hj).1
 omega
theorem Br.ret (h:Br cb pb A L c P w W ve vi vn N S):az (aed W (pb+1) ve vi vn) w.heap.size ve vi vn N S/\dm (aed W (pb+1) ve vi vn) cb A L c P/\CB cb w.heap.size w (aed W (pb+1) ve vi vn):=h.mb.ret h.rn (by have:=h.pe;omega) (by have:=h.pe;have:=h.cbp;omega)
end
structure Bd (N:ak):Prop where
 ends:N.ends.length<=100
 row:∀(k:Nat) (es:List (Int×Int)),N.ends[k]?=some es->es.length<=200
 ids:N.ids.length<=200
 aea:N.aea.length<=200
theorem Bd.small {n:ak} (h:Bd n):ru n:=by
 refine⟨by have:=h.ends;omega,fun k es he=>by have:=h.row k es he;omega,?_⟩
 have h1:qx n.ends<=2*200*n.ends.length:=Ot (fun es he=>by
  obtain⟨k,hk⟩:=List.getElem?_of_mem he
  exact h.row k es hk)
 have h2:=Jm n.ends
 have h3:2*200*n.ends.length<=2*200*100:=Nat.mul_le_mul (by omega) (by have:=h.ends;omega)
 have:=h.ends
 have:=h.ids
 have:=h.aea
 unfold iK;omega
theorem Gd.bd {R M:Nat} {n:ak} (h:Gd R M n) (hR:R<=200) (hM:M<=100):Bd n:=
 ⟨by have:=h.ends;omega,fun k es he=>by have:=h.row k es he;omega,by have:=h.ids;omega,by have:=h.aea;have:=h.ends;omega⟩
theorem Bd.setRow {n:ak} (h:Bd n) (k:Nat) {es:List (Int×Int)} (he:es.length<=200):Bd { n with ends:=n.ends.set k es }:=by
 refine⟨by simp;exact h.ends,fun j fs hf=>?_,h.ids,h.aea⟩
 rw[List.getElem?_set]at hf
 split at hf
 ·split at hf
  ·cases hf;exact he
  ·cases hf
 ·exact h.row j fs hf
end Go.Proofs.YtgmdpppljkmabaaGreat
