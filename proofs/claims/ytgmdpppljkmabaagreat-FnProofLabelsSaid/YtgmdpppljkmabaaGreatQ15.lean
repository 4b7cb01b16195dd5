/- Parts of the proof: walks of functions and plain laws. -/
import Derived.Test.YtgmdpppljkmabaaGreatQ0
import Derived.Test.YtgmdpppljkmabaaGreatQ14
set_option maxRecDepth 100000
set_option maxHeartbeats 16000000
namespace Go.Proofs.YtgmdpppljkmabaaGreat
open Go Go.RowKit
theorem az.aeu {w w':World} {base:Nat} {ve vi vn vi':Value} {N:ak} {S T:List Nat} {ids':List Int} (h:az w base ve vi vn N S) (ho:k9 w' base vi' ids' T) (eY:bg vi.ownBlock.toList w w') (hT:∀j∈T,j∈vi.ownBlock.toList\/w.heap.size<=j):
  ∃S',az w' base ve vi' vn { N with ids:=ids' } S'/\∀j∈S',j∈S\/w.heap.size<=j:=by
 have vJ:=h.range;obtain⟨S1,S2,S3,h1,h2,h3,h4,h5⟩:=h;have e2:S2=vi.ownBlock.toList:=h2.2;rw[<- e2]at eY hT;have wH:=h5;rw[h4,List.nodup_append,List.nodup_append]at h5;obtain⟨n1,⟨n2,n3,d23⟩,d1⟩:=h5
 have m1:∀j∈S1,j∈S:=fun j hj=>by rw[h4];exact List.mem_append_left _ hj
 have m2:∀j∈S2,j∈S:=fun j hj=>by rw[h4];exact List.mem_append_right _ (List.mem_append_left _ hj)
 have m3:∀j∈S3,j∈S:=fun j hj=>by rw[h4];exact List.mem_append_right _ (List.mem_append_right _ hj)
 have x1:∀j∈S1,j∉S2:=fun j hj hk=>d1 j hj j (List.mem_append_left _ hk) rfl
 have x3:∀j∈S3,j∉S2:=fun j hj hk=>d23 j hk j hj rfl
 have t1:∀j∈S1,j∉T:=fun j hj hk=>by
  rcases hT j hk with h | h
  ·exact x1 j hj h
  ·have:=(vJ j (m1 j hj)).2;omega
 have t3:∀j∈S3,j∉T:=fun j hj hk=>by
  rcases hT j hk with h | h
  ·exact x3 j hj h
  ·have:=(vJ j (m3 j hj)).2;omega
 refine⟨S1++(T++S3),⟨S1,T,S3,lV.only h1 eY x1,ho,iy.only h3 eY x3,rfl,?_⟩,?_⟩
 ·rw[List.nodup_append,List.nodup_append];refine⟨n1,⟨iy.nodup ho,n3,fun a ha b hb e=>t3 b hb (e ▸ ha)⟩,fun a ha b hb e=>?_⟩
  rcases List.mem_append.1 hb with hb | hb
  ·exact t1 a ha (e ▸ hb)
  ·exact d1 a ha b (List.mem_append_right _ hb) e
 ·intro j hj;rcases List.mem_append.1 hj with hj | hj
  ·exact .inl (m1 j hj)
  ·rcases List.mem_append.1 hj with hj | hj
   ·rcases hT j hj with h | h
    ·exact .inl (m2 j h)
    ·exact .inr h
   ·exact .inl (m3 j hj)
theorem az.aeC {w w':World} {base:Nat} {ve vi vn vn':Value} {N:ak} {S T:List Nat} {in':List Int} (h:az w base ve vi vn N S) (ho:k9 w' base vn' in' T) (eY:bg vn.ownBlock.toList w w') (hT:∀j∈T,j∈vn.ownBlock.toList\/w.heap.size<=j):
  ∃S',az w' base ve vi vn' { N with aea:=in' } S'/\∀j∈S',j∈S\/w.heap.size<=j:=by
 have vJ:=h.range;obtain⟨S1,S2,S3,h1,h2,h3,h4,h5⟩:=h;have e3:S3=vn.ownBlock.toList:=h3.2;rw[<- e3]at eY hT;rw[h4,List.nodup_append,List.nodup_append]at h5;obtain⟨n1,⟨n2,n3,d23⟩,d1⟩:=h5
 have m1:∀j∈S1,j∈S:=fun j hj=>by rw[h4];exact List.mem_append_left _ hj
 have m2:∀j∈S2,j∈S:=fun j hj=>by rw[h4];exact List.mem_append_right _ (List.mem_append_left _ hj)
 have m3:∀j∈S3,j∈S:=fun j hj=>by rw[h4];exact List.mem_append_right _ (List.mem_append_right _ hj)
 have x1:∀j∈S1,j∉S3:=fun j hj hk=>d1 j hj j (List.mem_append_right _ hk) rfl
 have x2:∀j∈S2,j∉S3:=fun j hj hk=>d23 j hj j hk rfl
 have t1:∀j∈S1,j∉T:=fun j hj hk=>by
  rcases hT j hk with h | h
  ·exact x1 j hj h
  ·have:=(vJ j (m1 j hj)).2;omega
 have t2:∀j∈S2,j∉T:=fun j hj hk=>by
  rcases hT j hk with h | h
  ·exact x2 j hj h
  ·have:=(vJ j (m2 j hj)).2;omega
 refine⟨S1++(S2++T),⟨S1,S2,T,lV.only h1 eY x1,iy.only h2 eY x2,ho,rfl,?_⟩,?_⟩
 ·rw[List.nodup_append,List.nodup_append];refine⟨n1,⟨n2,iy.nodup ho,fun a ha b hb e=>t2 a ha (e ▸ hb)⟩,fun a ha b hb e=>?_⟩
  rcases List.mem_append.1 hb with hb | hb
  ·exact d1 a ha b (List.mem_append_left _ hb) e
  ·exact t1 a ha (e ▸ hb)
 ·intro j hj;rcases List.mem_append.1 hj with hj | hj
  ·exact .inl (m1 j hj)
  ·rcases List.mem_append.1 hj with hj | hj
   ·exact .inl (m2 j hj)
   ·rcases hT j hj with h | h
    ·exact .inl (m3 j h)
    ·exact .inr h
def gT (k:Nat) (e:Int×Int):Int×Int:=(e.1+(k:Int),e.2)
def iG (a b:ak):ak:=⟨a.ends++b.ends.map (List.map (gT a.ends.length)),a.ids++b.ids,a.aea++b.aea⟩
theorem Gd.union {R M M':Nat} {a b:ak} (ha:Gd R M a) (hb:Gd R M' b):Gd R (M+M') (iG a b):=by
 have hl:(iG a b).ends.length=a.ends.length+b.ends.length:=by simp[iG]
 have dB:∀(k:Nat) (es:List (Int×Int)),(iG a b).ends[k]?=some es->(k<a.ends.length/\a.ends[k]?=some es)\/(∃fs,b.ends[k-a.ends.length]?=some fs/\es=fs.map (gT a.ends.length)/\a.ends.length<=k):=fun k es h=>by
  unfold iG at h;rcases Nat.lt_or_ge k a.ends.length with hk | hk
  ·left;exact⟨hk,by simpa[List.getElem?_append_left hk]using h⟩
  ·right
   simp only[List.getElem?_append_right hk,List.getElem?_map]at h
   cases hf:b.ends[k-a.ends.length]? with
   | none=>rw[hf]at h;simp at h
   | some fs=>rw[hf]at h;simp at h;exact⟨fs,rfl,h.symm,hk⟩
 refine⟨by have:=ha.ends;have:=hb.ends;omega,fun k es h=>?_,by simp only[iG,List.length_append];have:=ha.ids;have:=hb.ids;omega,by rw[hl];simp only[iG,List.length_append];rw[ha.aea,hb.aea],fun k es h e he=>?_⟩
 ·rcases dB k es h with⟨-,h1⟩ | ⟨fs,h1,rfl,-⟩
  ·exact ha.row k es h1
  ·rw[List.length_map];exact hb.row _ fs h1
 ·rcases dB k es h with⟨-,h1⟩ | ⟨fs,h1,rfl,-⟩
  ·obtain⟨x,y,gs,q1,q2,q3⟩:=ha.wf k es h1 e he;refine⟨x,y,gs,q1,?_,q3⟩;unfold iG;simp only[];rw[List.getElem?_append_left (an q2)];exact q2
  ·obtain⟨e0,h2,rfl⟩:=List.mem_map.1 he;obtain⟨x,y,gs,rfl,q2,q3⟩:=hb.wf _ fs h1 e0 h2
   refine⟨x+a.ends.length,y,gs.map (gT a.ends.length),by simp[gT],?_,by rw[List.length_map];exact q3⟩
   unfold iG;simp only[];rw[List.getElem?_append_right (by omega),Nat.add_sub_cancel,List.getElem?_map,q2];rfl
theorem jW {w:World} {ops:Array Oper} {rest:List Oper} {o:Oper} {a:Act} {Q:Exit->Act->World->Prop} (iY:o.guard=none) (s x:Operand)
  (ho:o.op=.call { callee:=.builtin .append,args:=#[s,x],argTypes:=#[25,25] }) {base:Nat} {v u:Value} {xs ys:List Int} (hs:a.eval s=v) (h:Own w base v xs) (hx:a.eval x=u) (hu:aY w u ys) (hl:xs.length+ys.length<=17592186044416) (ld:base<=w.heap.size)
  (k:∀v' w' T,k9 w' base v' (xs++ys) T->bg v.ownBlock.toList w w'->(∀j∈T,j∈v.ownBlock.toList\/w.heap.size<=j)->wpList Tryz.prog ops Q rest (a.put o.dst v') w'):wpList Tryz.prog ops Q (o::rest) a w:=by
 obtain⟨A,c,rfl,eV,hm,hA⟩:=hu;rcases Nat.eq_zero_or_pos ys.length with h0 | h0
 ·obtain rfl:ys=[]:=List.eq_nil_of_length_eq_zero h0
  refine tt iY s x ho hs h A c hx ?_;exact k v w _ ⟨by simpa using h,rfl⟩ (bg.refl _ _) (fun j hj=>.inl hj)
 ·obtain⟨y0,CD⟩:=aM ys 0 h0;obtain⟨b,off,rfl,_⟩:=hA 0 y0 CD
  refine Df iY s x ho hs h b off c ys hx (fun j y hj=>by
   obtain⟨b',oY,e,hc⟩:=hA j y hj;cases e
   exact hc) h0 hl ld ?_
  intro g cap w' h1 h2 h3 h4;refine k _ w' [g] ⟨h1,by simp[Value.ownBlock]⟩ (bg.aee h2) (fun j hj=>?_)
  simp at hj
  subst hj;rcases h3 with h3 | h3
  ·left;rw[h3];simp
  ·right;omega
theorem Ee (ve vi vn ue ui un:Value) (a b:ak) (w:World) (h:aQ w ve vi vn a) (h':aQ w ue ui un b) (ha:ru a) (hb:ru b) (ZA:Qe b):
  Calls Tryz.prog 192 #[.agg #[ve,vi,vn],.agg #[ue,ui,un]] w (qZ w (iG a b)):=by
 obtain⟨A1,c1,rfl,rN,rM,-⟩:=id h.1;obtain⟨AI,cI,rfl,-,-,-⟩:=id h.2.1;obtain⟨AN,cN,rfl,-,-,-⟩:=id h.2.2;obtain⟨B1,d1,rfl,lL,fJ,-⟩:=id h'.1;obtain⟨BI,dI,rfl,-,-,-⟩:=id h'.2.1;obtain⟨BN,dN,rfl,-,-,-⟩:=id h'.2.2;unfold maxLen at rM fJ;obtain⟨w0,cG⟩:∃z,z=(w.alloc (.cells #[.slice A1 a.ends.length c1,.slice AI a.ids.length cI,.slice AN a.aea.length cN] 27)).alloc (.cells #[.slice B1 b.ends.length d1,.slice BI b.ids.length dI,.slice BN b.aea.length dN] 27):=⟨_,rfl⟩
 obtain⟨wa,lj⟩:∃z,z=w0.alloc (.cells #[.slice none 0 0,.slice none 0 0,.slice none 0 0] 27):=⟨_,rfl⟩
 have bB:aa w w0:=by rw[cG];exact ag _ (ag _ (ad _))
 have pT:aa w0 wa:=by rw[lj];exact ag _ (ad _)
 have nk:w0.heap.size=w.heap.size+1+1:=by rw[cG];simp
 have p0:∀W,aa w0 W->W.cell? ⟨w.heap.size,0,none⟩=some (.slice A1 a.ends.length c1):=ae (by rw[cG];simp)
 have p1:∀W,aa w0 W->W.cell? ⟨w.heap.size,1,none⟩=some (.slice AI a.ids.length cI):=ae (by rw[cG];simp)
 have p2:∀W,aa w0 W->W.cell? ⟨w.heap.size,2,none⟩=some (.slice AN a.aea.length cN):=ae (by rw[cG];simp)
 have q0:∀W,aa w0 W->W.cell? ⟨w.heap.size+1,0,none⟩=some (.slice B1 b.ends.length d1):=ae (by rw[cG];simp)
 have q1:∀W,aa w0 W->W.cell? ⟨w.heap.size+1,1,none⟩=some (.slice BI b.ids.length dI):=ae (by rw[cG];simp)
 have q2:∀W,aa w0 W->W.cell? ⟨w.heap.size+1,2,none⟩=some (.slice BN b.aea.length dN):=ae (by rw[cG];simp)
 have HA:=zh (show ∀X,aa w0 X->aQ X (.slice A1 a.ends.length c1) (.slice AI a.ids.length cI) (.slice AN a.aea.length cN) a from fun X hX=>h.keep (bB.after hX).below)
 have HB:=zh (show ∀X,aa w0 X->aQ X (.slice B1 b.ends.length d1) (.slice BI b.ids.length dI) (.slice BN b.aea.length dN) b from fun X hX=>h'.keep (bB.after hX).below)
 have J1:Hid (∀X,aa wa X->bx X (w.heap.size+1+1) (.slice none 0 0) (.slice none 0 0) (.slice none 0 0)):=fun X hX=>by
  refine bx.since (W:=wa) ?_ hX;rw[lj,<- nk];show(w0.heap.push _)[w0.heap.size]?=_
  rw[Array.getElem?_push_size]
 have FJ:Hid (wa.heap.size=w.heap.size+1+1+1):=by show _=_;rw[lj,<- nk];simp
 have bK:=zh cG;have FK:=zh lj;have lC:=zh bB;have zW:=zh pT;have CI:=zh ha;have K3:=zh hb;have Hwf:=zh ZA;clear ZA;clear cG bB h h' lj pT nk ha hb
 go_enter Tryz.func192,Tryz.ntmps192
 go_upto_region 1 with(fail);rw[<- bK.out,<- FK.out];have a0:=p0 wa zW.out;have a1:=p1 wa zW.out;have a2:=p2 wa zW.out;go_wp2_with fail;refine(kW _ _ _ a wa (HA.out wa zW.out) CI.out.ends CI.out.row CI.out.sz).mono ?_;rintro e w1 ⟨we,wi,wn,S,rfl,ho,ay⟩;obtain⟨E1,e1,rfl,-,-,-⟩:=id ho.read.1;obtain⟨EI,eI,rfl,-,-,-⟩:=id ho.read.2.1;obtain⟨EN,eN,rfl,-,-,-⟩:=id ho.read.2.2;obtain⟨w2,gR⟩:∃z,z=w1.alloc (.cells #[.slice E1 a.ends.length e1,.slice EI a.ids.length eI,.slice EN a.aea.length eN] 27):=⟨_,rfl⟩
 obtain⟨bo,xI⟩:∃z,z=w1.heap.size:=⟨_,rfl⟩
 have cY:aa wa w1:=ay
 have lJ:aa w1 w2:=by rw[gR];exact ag _ (ad _)
 have BK:bD w2 bo (.slice E1 a.ends.length e1) (.slice EI a.ids.length eI) (.slice EN a.aea.length eN):=by rw[gR,xI];exact bD.new _ _ _ _ _
 have Ku:bo∉S:=fun hj=>by have:=(ho.range _ hj).2;omega
 have nX:=zh gR;have Tk:=zh xI;have vd:=zh (ho.keep lJ.below);have vz:=zh BK;have CN:=zh Ku;have b_:=zh (cY.after lJ);have qo:aa w0 w2:=zW.out.after b_.out;have b1:=q1 w2 qo;have mr:=zh qo
 have yM:Hid (wa.heap.size<=bo/\bo<w2.heap.size):=⟨by rw[xI];exact cY.below.size,by rw[gR,xI];simp⟩
 obtain⟨k0,k1,k2,f0,f1,f2⟩:=BK.cells;clear gR xI ho BK Ku cY lJ ay a0 a1 a2 qo;go_upto_region 2 with(fail);rw[<- nX.out,<- Tk.out];obtain⟨S1,S2,S3,-,wO,-,Ts,-⟩:=id vd.out;have Hi2:=zh wO;have HS2:=zh Ts;clear wO Ts
 have Tw:a.ids.length+b.ids.length<=17592186044416:=by have h1:=CI.out.sz;have h2:=K3.out.sz;unfold iK at h1 h2;omega
 have Tx:a.aea.length+b.aea.length<=17592186044416:=by have h1:=CI.out.sz;have h2:=K3.out.sz;unfold iK at h1 h2;omega
 have LV:=zh Tw;have tH:=zh Tx;clear Tw Tx
 have acj:Hid (bo∉(Value.slice EI a.ids.length eI).ownBlock.toList):=fun hm=>CN.out (by rw[HS2.out];rw[<- Hi2.out.2]at hm;exact List.mem_append_right _ (List.mem_append_left _ hm))
 go_upto_region 3 with(at_builtin;refine jW (base:=wa.heap.size) rfl _ _ rfl rfl Hi2.out.1 rfl (HB.out w2 mr.out).2.1 LV.out b_.out.below.size ?_;intro v' w3 T eH FN X4;obtain⟨V,mV,cV,rfl⟩:=iy.one eH;have QO:bD w3 bo (.slice E1 a.ends.length e1) (.slice EI a.ids.length eI) (.slice EN a.aea.length eN):=vz.out.blk (FN.block bo yM.out.2 acj.out);clear k0 k1 k2 f0 f1 f2;obtain⟨k0,k1,k2,f0,f1,f2⟩:=QO.cells)
 obtain⟨w4,iC⟩:∃z,z=w3.setCell ⟨bo,1,none⟩ (.slice V mV cV):=⟨_,rfl⟩
 rw[<- iC];obtain⟨S',K4,Ay⟩:=vd.out.aeu eH FN X4
 have hn4:bo∉S':=fun hj=>by
  rcases Ay _ hj with h | h
  ·exact CN.out h
  ·have:=yM.out;omega
 have Yz:Hid (az w4 wa.heap.size (.slice E1 a.ends.length e1) (.slice V mV cV) (.slice EN a.aea.length eN) { a with ids:=a.ids++b.ids } S'):=by show az _ _ _ _ _ _ _;rw[iC];exact K4.aeb (fun k hk=>Below.heap_setCell _ _ _ _ (fun e=>hn4 (by have e':k=bo:=e;exact e' ▸ hk)))
 have MQ:Hid (bD w4 bo (.slice E1 a.ends.length e1) (.slice V mV cV) (.slice EN a.aea.length eN)):=by show bD _ _ _ _ _;rw[iC];exact QO.aew
 have MP:=zh hn4
 have mG:Hid (aa wa w4):=by
  show Below _ _ _
  rw[iC];refine Below.setCell (Below.trans b_.out (FN.below _ b_.out.below.size (fun j hj=>?_))) yM.out.1 _
  have yQ:j∈S2:=by rw[Hi2.out.2];exact hj
  exact(vd.out.range j (by rw[HS2.out];exact List.mem_append_right _ (List.mem_append_left _ yQ))).1
 have ZW:bo<w4.heap.size:=MQ.out.lt;obtain⟨WH,S2',S3',-,-,hi3,ZX,-⟩:=id Yz.out;have Hi3:=zh hi3;have NA:=zh ZX;have ZY:=zh ZW;have oK:=zh (zW.out.after mG.out)
 have ack:Hid (bo∉(Value.slice EN a.aea.length eN).ownBlock.toList):=fun hm=>MP.out (by rw[NA.out];rw[<- Hi3.out.2]at hm;exact List.mem_append_right _ (List.mem_append_right _ hm))
 clear iC K4 Ay hn4 QO eH FN X4 k0 k1 k2 f0 f1 f2 hi3 ZX ZW;have b2:=q2 w4 oK.out;obtain⟨k0,k1,k2,f0,f1,f2⟩:=MQ.out.cells;clear b1
 go_upto_region 4 with(at_builtin;refine jW (base:=wa.heap.size) rfl _ _ rfl rfl Hi3.out.1 rfl (HB.out w4 oK.out).2.2 tH.out mG.out.below.size ?_;intro v' w5 T5 yK Ru hT5;obtain⟨V5,Ty,Tz,rfl⟩:=iy.one yK;have hB5:bD w5 bo (.slice E1 a.ends.length e1) (.slice V mV cV) (.slice EN a.aea.length eN):=MQ.out.blk (Ru.block bo ZY.out ack.out);clear k0 k1 k2 f0 f1 f2;obtain⟨k0,k1,k2,f0,f1,f2⟩:=hB5.cells)
 obtain⟨w6,CR⟩:∃z,z=w5.setCell ⟨bo,2,none⟩ (.slice V5 Ty Tz):=⟨_,rfl⟩
 rw[<- CR];obtain⟨S6,K4,Ay⟩:=Yz.out.aeC yK Ru hT5
 have vf:bo∉S6:=fun hj=>by
  rcases Ay _ hj with h | h
  ·exact MP.out h
  ·have:=ZY.out;omega
 have HO6:Hid (az w6 wa.heap.size (.slice E1 a.ends.length e1) (.slice V mV cV) (.slice V5 Ty Tz) { a with ids:=a.ids++b.ids,aea:=a.aea++b.aea } S6):=by show az _ _ _ _ _ _ _;rw[CR];exact K4.aeb (fun k hk=>Below.heap_setCell _ _ _ _ (fun e=>vf (by have e':k=bo:=e;exact e' ▸ hk)))
 have HB6:Hid (bD w6 bo (.slice E1 a.ends.length e1) (.slice V mV cV) (.slice V5 Ty Tz)):=by show bD _ _ _ _ _;rw[CR];exact hB5.aex
 have HN6:=zh vf
 have Zk:Hid (aa wa w6):=by
  show Below _ _ _
  rw[CR];refine Below.setCell (Below.trans mG.out (Ru.below _ mG.out.below.size (fun j hj=>?_))) yM.out.1 _
  have yQ:j∈S3':=by rw[Hi3.out.2];exact hj
  exact(Yz.out.range j (by rw[NA.out];exact List.mem_append_right _ (List.mem_append_right _ yQ))).1
 have acl:=zh (zW.out.after Zk.out);clear CR K4 Ay vf hB5 yK Ru hT5 k0 k1 k2 f0 f1 f2 b2 p1 p2 q1 q2;have b0:=q0 w6 acl.out;have Bl:=Zk.out;go_wp2;clear b0;obtain⟨W6,rfl⟩:∃z,z=w6:=⟨_,rfl⟩
 go_loopw [28] (fun i wr=>∃(k:Nat) (v:Value) (S:List Nat),k<=b.ends.length/\i=.int .i64 k/\az wr wa.heap.size v (.slice V mV cV) (.slice V5 Ty Tz) ⟨a.ends++(b.ends.take k).map (List.map (gT a.ends.length)),a.ids++b.ids,a.aea++b.aea⟩ S/\bo∉S/\bD wr bo v (.slice V mV cV) (.slice V5 Ty Tz)/\aa wa wr) (fun i _=>b.ends.length-(intOf i).toNat)
 case atStart=>exact⟨0,_,S6,Nat.zero_le _,rfl,by have:=HO6.out;simpa using this,HN6.out,HB6.out,Zk.out⟩
 case round=>
  obtain⟨k,v,S7,hk,rfl,eY,Qi,fe,bA⟩:=hrel
  obtain⟨AV,ZZ,Z0,rfl⟩:∃A m c,v=.slice A m c:=by obtain⟨A,c,hv,-⟩:=eY.read.1;exact⟨A,_,c,hv⟩
  have s9:=zh eY;have Hnb:=zh Qi;have CF:=zh fe;have nA:=zh bA;have kh:=zW.out.after bA;have lE:=zh kh;clear eY Qi fe bA Bl;obtain⟨wo,rfl⟩:∃z,z=wr:=⟨_,rfl⟩
  by_cases hlt:k<b.ends.length
  ·obtain⟨es,bW⟩:=aM b.ends k hlt;obtain⟨g0,o0,cr,ur,FB,-,dS,hE1⟩:=gy (HB.out w0 (ad _)).es bW;cases FB;obtain⟨A9,y9,rfl,dV,d8,BX⟩:=hE1;unfold maxLen at d8;have r1:=ae dS wo kh;have HA9:=zh BX;have kw:=zh bW;have LX:es.length<=1000:=K3.out.row _ _ bW
   have m1:IntKind.i64.wrap ((k:Int)+1)=(k:Int)+1:=aF _ (by omega) (by have h1:=K3.out.ends;omega)
   clear BX dS bW kh;go_upto_region 9 with(fail);clear r1
   go_loopw [8,34] (fun u i wr=>∃(j:Nat) (T:List Nat),j<=es.length/\i=.int .i64 j/\eO wr wo.heap.size u ((es.take j).map (gT a.ends.length)) T/\aa wo wr) (fun _ i _=>es.length-(intOf i).toNat)
   case atStart=>exact⟨0,[],Nat.zero_le _,rfl,wQ _ _,ad _⟩
   case round=>
    obtain⟨j,T,hj,rfl,SD,po⟩:=hrel;obtain⟨AU,mU,cU,rfl⟩:=ip.one SD;have NT:=zh SD;have jJ:=zh po;clear SD
    by_cases yF:j<es.length
    ·obtain⟨e,he⟩:=aM es j yF;obtain⟨x,y,fs,rfl,Z1,IN⟩:=Hwf.out k es kw.out e (List.mem_of_getElem? he);obtain⟨g1,o1,rfl,t1,t2⟩:=HA9.out j _ he;have KG:=lE.out.after jJ.out;have Vb:=ae t1 wr KG;have Vc:=ae t2 wr KG;have vh:x<b.ends.length:=an Z1
     have m2:IntKind.i64.wrap ((x:Int)+(a.ends.length:Int))=(x:Int)+(a.ends.length:Int):=aF _ (by omega) (by have h1:=CI.out.ends;have h2:=K3.out.ends;omega)
     have m3:IntKind.i64.wrap ((j:Int)+1)=(j:Int)+1:=aF _ (by omega) (by omega);obtain⟨w8,kH⟩:∃z,z=wr.alloc (.cells #[.int .i64 (x:Int),.int .i64 (y:Int)] 83):=⟨_,rfl⟩
     obtain⟨eb,Jf⟩:∃z,z=wr.heap.size:=⟨_,rfl⟩
     have h8:aa wr w8:=by rw[kH];exact ag _ (ad _)
     have v1:w8.cell? ⟨eb,0,none⟩=some (.int .i64 (x:Int)):=by rw[kH,Jf];simp
     have v2:w8.cell? ⟨eb,1,none⟩=some (.int .i64 (y:Int)):=by rw[kH,Jf];simp
     have v3:=p0 w8 (KG.after h8);have Kc:=zh kH;have UV:=zh Jf;have kt:Hid (aa wo w8):=jJ.out.after h8;have uw:Hid (eO w8 wo.heap.size (.slice AU mU cU) ((es.take j).map (gT a.ends.length)) T):=ip.keep NT.out h8.below
     have Vl:Hid (((es.take j).map (gT a.ends.length)).length+1<=1000000):=by show _<=_;rw[List.length_map,List.length_take];omega
     have Z2:Hid ((es.take (j+1)).map (gT a.ends.length)=(es.take j).map (gT a.ends.length)++[((x:Int)+(a.ends.length:Int),(y:Int))]):=by show _=_;rw[bh he,List.map_append];rfl
     clear kH Jf h8 KG t1 t2 he Z1 po;go_upto_region 11 with(fail);rw[<- Kc.out,<- UV.out];clear Vb Vc
     go_upto_region 12 with(at_builtin;refine kg (base:=wo.heap.size) (v:=.slice AU mU cU) (xs:=(es.take j).map (gT a.ends.length)) (T:=T) rfl _ _ rfl rfl (ip.keep uw.out (am _ _)) w8.heap.size ((x:Int)+(a.ends.length:Int),(y:Int)) rfl (by simp) (by simp) Vl.out (by have:=kt.out.below.size;simp;omega) ?_;intro g9 GB w9 iS p7 vA)
     have vP:=zh iS
     have z7:Hid (aa wo w9):=Below.grown (ag _ kt.out) p7 (by have:=kt.out.below.size;simp;omega) (fun q hq=>(ip.range uw.out q (by rw[uw.out.2,hq];simp)).1)
     clear iS p7 vA v1 v2 v3;go_wp2;go_roundw
     case rel=>exact⟨j+1,[g9],by omega,by first | rfl | go_num,by rw[Z2.out];have h9:=vP.out;rw[show((es.take j).map (gT a.ends.length)).length=j by rw[List.length_map,List.length_take];omega]at h9;simpa using h9,z7.out⟩
     case measure=>simp[intOf];omega
    ·obtain rfl:j=es.length:=by omega
     have zQ:bD wr bo (.slice AV ZZ Z0) (.slice V mV cV) (.slice V5 Ty Tz):=CF.out.below jJ.out.below CF.out.lt
     have dB:Hid (eO wr wo.heap.size (.slice AU mU cU) (es.map (gT a.ends.length)) T):=by have h9:=NT.out;rw[List.take_length]at h9;exact h9
     have Ug:Hid (∀q,(Value.slice AV ZZ Z0).ownBlock=some q->wa.heap.size<=q):=fun q hq=>by
      obtain⟨S1,S2,S3,h1,-,-,h4,-⟩:=id s9.out;obtain⟨vs,Ss,-,-,-,e4,-⟩:=id h1
      exact(s9.out.range q (by rw[h4,e4,hq];simp)).1
     have XS:Hid (∀j∈T,j∉S7):=fun j hj hS=>by have h1:=(ip.range NT.out j hj).1;have h2:=(s9.out.range j hS).2;omega
     have Jo:Hid ((a.ends++(b.ends.take k).map (List.map (gT a.ends.length))).length+1<=1000000):=by show _<=_;rw[List.length_append,List.length_map,List.length_take];have h1:=CI.out.ends;have h2:=K3.out.ends;omega
     have L9:Hid (wa.heap.size<=wo.heap.size):=nA.out.below.size;have Z3:Hid (aa wa wr):=nA.out.after jJ.out;have yT:=zh zQ;obtain⟨k0,k1,k2,f0,f1,f2⟩:=zQ.cells;clear zQ po
     go_upto_region 14 with(at_builtin;refine sg (wT:=wa) (base:=wa.heap.size) (v:=.slice AV ZZ Z0) (u:=.slice AU mU cU) (T:=T) (es:=es.map (gT a.ends.length)) rfl _ _ rfl rfl ((s9.out.keep jJ.out.below).keep (am _ _)) wr.heap.size rfl (by simp) (ip.mono (ip.keep dB.out (am _ _)) L9.out) XS.out Jo.out (ag _ Z3.out) (by have:=Z3.out.below.size;simp;omega) Ug.out ?_;intro v8 w8 S8 hv8 Vm Vn OD mc;obtain⟨A8,m8,c8,rfl⟩:∃A m c,v8=Value.slice A m c:=(by obtain⟨A,c,hv,-⟩:=Vm.read.1;exact⟨A,_,c,hv⟩);have Ef:bD w8 bo (.slice AV ZZ Z0) (.slice V mV cV) (.slice V5 Ty Tz):=((yT.out.alloc _).blk (OD.block bo (by have:=yT.out.lt;simp;omega) Hnb.out));clear k0 k1 k2 f0 f1 f2;obtain⟨k0,k1,k2,f0,f1,f2⟩:=Ef.cells)
     have Vo:bo∉S8:=fun hm=>by
      rcases Vn bo hm with h | h | h
      ·exact Hnb.out h
      ·have h1:=(ip.range NT.out bo h).1;have h2:=CF.out.lt;omega
      ·have h2:=yT.out.lt;simp at h;omega
     have TA:a.ends++(b.ends.take (k+1)).map (List.map (gT a.ends.length))=(a.ends++(b.ends.take k).map (List.map (gT a.ends.length)))++[es.map (gT a.ends.length)]:=by
      rw[bh kw.out,List.map_append,List.append_assoc];rfl
     have Hl9:=zh TA
     have Z4:=zh (Vm.aeb (w':=w8.setCell ⟨bo,0,none⟩ (.slice A8 m8 c8)) (fun q hq=>Below.heap_setCell _ _ _ _ (fun e=>Vo (by have e':q=bo:=e;exact e' ▸ hq))))
     have CS:=zh (Ef.aev (u:=.slice A8 m8 c8));have z7:=zh (Below.setCell mc (p:=⟨bo,0,none⟩) yM.out.1 (.slice A8 m8 c8));have acm:=zh Vo;clear Vo TA Vm Ef mc OD Vn hv8 k0 k1 k2 f0 f1 f2;go_wp2;go_roundw
     case rel=>exact⟨k+1,_,S8,by omega,by first | rfl | go_num,by rw[Hl9.out];exact Z4.out,acm.out,CS.out,z7.out⟩
     case measure=>simp[intOf];omega
  ·obtain rfl:k=b.ends.length:=by omega
   have ec:=J1.out wo nA.out;obtain⟨k0,k1,k2,-,-,-⟩:=CF.out.cells;obtain⟨e0,Gu,e2,f0,f1,f2⟩:=ec.box.cells;clear ec;go_wp2;refine bodyPost_ret (v:=.agg #[.slice AV ZZ Z0,.slice V mV cV,.slice V5 Ty Tz]) (by simp[results,Tryz.results192,go_sem, *]) rfl ?_;have hza:=FJ.out;have h9:=s9.out;rw[List.take_length]at h9;refine⟨_,_,_,S7,rfl,(h9.aeb (fun j hj=>?_)).mono (by omega),?_⟩
   ·have uf:=(h9.range j hj).1;rw[Below.heap_setCell _ _ _ j (by simp;omega),Below.heap_setCell _ _ _ j (by simp;omega),Below.heap_setCell _ _ _ j (by simp;omega)]
   ·have hk:Below w.heap.size w wo:=Below.trans lC.out.below (lE.out.below.mono lC.out.below.size)
    exact((hk.setCell (by simp;omega) _).setCell (by simp;omega) _).setCell (by simp;omega) _
theorem Gd.aeI {R M:Nat} {n:ak} {v u:Nat} (h:Gd R M n) (hv:v<n.ends.length) (hu:u<n.ends.length) (h1:(dp n v).length<=4) (h2:(dp n u).length<=4) (hR:6<=R):Gd R M (dK n v u):=by
 refine⟨by rw[eG];exact h.ends,fun k es hk=>?_,h.ids,by rw[eG];exact h.aea,vY h.wf hv hu⟩
 have h3:=pB hk
 have mh:k<n.ends.length:=by have:=an hk;rwa [eG]at this
 rw[<- h3,lB hv hu];have h4:=h.row k _ (dh mh)
 by_cases a:k=u
 ·subst a
  by_cases b:k=v
  ·subst b;rw[if_pos rfl];omega
  ·rw[if_pos rfl,if_neg b];omega
 ·rw[if_neg a]
  by_cases b:k=v
  ·subst b;rw[if_pos rfl];omega
  ·rw[if_neg b];omega
theorem Gd.aeE {R M:Nat} {n:ak} {v:Nat} (h:Gd R M n) (hv:v<n.ends.length) (h1:(dp n v).length<=4) (hR:6<=R):Gd R M (lz n v):=by
 refine⟨by rw[sL];exact h.ends,fun k es hk=>?_,h.ids,by rw[sL];exact h.aea,Rp h.wf hv⟩
 have h3:=pB hk
 have mh:k<n.ends.length:=by have:=an hk;rwa [sL]at this
 rw[<- h3,Ov hv];have h4:=h.row k _ (dh mh)
 by_cases b:k=v
 ·subst b;rw[if_pos rfl];omega
 ·rw[if_neg b];omega
theorem OE (cb:Nat) (A:Option Addr) (L c P aU M:Nat) (w:World) (hc:dm w cb A L c P) (hP:P<=4000000000000000000) (yN:1<=aU) (nM:aU<=M) (hM:M<=38):
  Calls Tryz.prog 127 #[.pointer (some ⟨cb,0,none⟩),.int .i64 aU] w (vB cb w.heap.size A L c (P+200000000000000000) w (TN 100 (M+2))):=by
 have ja:=hc.lt;obtain⟨B,tL⟩:∃z,z=w.heap.size+1:=⟨_,rfl⟩
 obtain⟨w0,cG⟩:∃z,z=w.alloc (.cells #[.slice none 0 0,.slice none 0 0,.slice none 0 0] 27):=⟨_,rfl⟩
 have bB:aa w w0:=by rw[cG];exact ag _ (ad _)
 have il:w0.heap.size=B:=by rw[cG,tL];simp
 have gY:bx w0 w.heap.size (.slice none 0 0) (.slice none 0 0) (.slice none 0 0):=by
  rw[cG];show(w.heap.push _)[w.heap.size]?=_
  rw[Array.getElem?_push_size]
 have iF:=zh gY;have lC:=zh bB;have bK:=zh cG;have eT:=zh tL;have mX:=zh il;have GV:=zh (hc.since bB);clear gY bB cG hc tL il
 go_enter Tryz.func127,Tryz.ntmps127
 go_upto_region 1 with(fail);rw[<- bK.out];go_wp2_with fail;refine(dJ cb A L c P 6 w0 GV.out (by omega) (by omega)).mono ?_;rintro e w1 ⟨x,rfl,hx,mY,mS⟩;have lD:=zh mY
 have yO:Hid (CB cb B w0 w1):=by show CB _ _ _ _;rw[<- mX.out];exact mS
 have iE:B<=w1.heap.size:=by rw[<- mX.out];exact mS.size
 have kD:cb<B:=by have:=eT.out;omega
 have hx6:x<6:=by omega
 clear mY mS hx
 have Z5:=yO.out.aeh iF.out (by have:=eT.out;omega) (by omega)
 have adX:=zh Z5;clear Z5;rcases(show x=0\/x=1\/x=2\/x=3\/x=4\/x=5 by omega)with rfl | rfl | rfl | rfl | rfl | rfl
 ·go_wp2_with fail;refine(GU cb A L c (P+2) aU M w1 lD.out (by omega) yN nM (by omega)).mono ?_;rintro e w6 ⟨Fi,Fj,Fk,N6,S6,rfl,d6,⟨mB,vf⟩,d7,iU⟩;obtain⟨D0,d0,rfl,-,-,-⟩:=id d6.read.1;obtain⟨D1,d1,rfl,-,-,-⟩:=id d6.read.2.1;obtain⟨D2,d2,rfl,-,-,-⟩:=id d6.read.2.2;have aW:CB cb B w0 w6:=yO.out.trans (iU.mono iE)
  have ec:=aW.aeh iF.out (by have:=eT.out;omega) (by omega)
  obtain⟨e0,e1,e2,f0,f1,f2⟩:=ec.box.cells;have aP:=d6.mono iE;rw[eT.out]at aP aW;have c_:=zh (dq lC.out aP d7 aW ja);have CQ:=zh mB;have IP:=zh vf;clear aW ec aP mB d7 iU d6 vf;go_wp2;refine bodyPost_ret (v:=.agg #[.slice D0 N6.ends.length d0,.slice D1 N6.ids.length d1,.slice D2 N6.aea.length d2]) (by simp[results,Tryz.results127,go_sem, *]) rfl ?_;obtain⟨r1,r2,r3⟩:=c_.out;exact⟨_,_,_,N6,S6,rfl,r1,⟨CQ.out.mono (Nat.le_refl _) (by omega),IP.out⟩,r2.mono (by omega),r3⟩
 ·go_wp2_with fail;refine(xQ cb A L c (P+2) aU M w1 lD.out (by omega) yN nM (by omega)).mono ?_;rintro e w6 ⟨Fi,Fj,Fk,N6,S6,rfl,d6,⟨mB,vf⟩,d7,iU⟩;obtain⟨D0,d0,rfl,-,-,-⟩:=id d6.read.1;obtain⟨D1,d1,rfl,-,-,-⟩:=id d6.read.2.1;obtain⟨D2,d2,rfl,-,-,-⟩:=id d6.read.2.2;have aW:CB cb B w0 w6:=yO.out.trans (iU.mono iE)
  have ec:=aW.aeh iF.out (by have:=eT.out;omega) (by omega)
  obtain⟨e0,e1,e2,f0,f1,f2⟩:=ec.box.cells;have aP:=d6.mono iE;rw[eT.out]at aP aW;have c_:=zh (dq lC.out aP d7 aW ja);have CQ:=zh mB;have IP:=zh vf;clear aW ec aP mB d7 iU d6 vf;go_wp2;refine bodyPost_ret (v:=.agg #[.slice D0 N6.ends.length d0,.slice D1 N6.ids.length d1,.slice D2 N6.aea.length d2]) (by simp[results,Tryz.results127,go_sem, *]) rfl ?_;obtain⟨r1,r2,r3⟩:=c_.out;exact⟨_,_,_,N6,S6,rfl,r1,⟨CQ.out.mono (Nat.le_refl _) (by omega),IP.out⟩,r2.mono (by omega),r3⟩
 ·go_wp2_with fail;refine(pC cb A L c (P+2) aU M w1 lD.out (by omega) yN nM (by omega)).mono ?_;rintro e w6 ⟨Fi,Fj,Fk,N6,S6,rfl,d6,⟨mB,vf⟩,d7,iU⟩;obtain⟨D0,d0,rfl,-,-,-⟩:=id d6.read.1;obtain⟨D1,d1,rfl,-,-,-⟩:=id d6.read.2.1;obtain⟨D2,d2,rfl,-,-,-⟩:=id d6.read.2.2;have aW:CB cb B w0 w6:=yO.out.trans (iU.mono iE)
  have ec:=aW.aeh iF.out (by have:=eT.out;omega) (by omega)
  obtain⟨e0,e1,e2,f0,f1,f2⟩:=ec.box.cells;have aP:=d6.mono iE;rw[eT.out]at aP aW;have c_:=zh (dq lC.out aP d7 aW ja);have CQ:=zh mB;have IP:=zh vf;clear aW ec aP mB d7 iU d6 vf;go_wp2;refine bodyPost_ret (v:=.agg #[.slice D0 N6.ends.length d0,.slice D1 N6.ids.length d1,.slice D2 N6.aea.length d2]) (by simp[results,Tryz.results127,go_sem, *]) rfl ?_;obtain⟨r1,r2,r3⟩:=c_.out;exact⟨_,_,_,N6,S6,rfl,r1,⟨CQ.out.mono (Nat.le_refl _) (by omega),IP.out⟩,r2.mono (by omega),r3⟩
 ·go_wp2_with fail;refine(pC cb A L c (P+2) aU M w1 lD.out (by omega) yN nM (by omega)).mono ?_;rintro e w6 ⟨Fi,Fj,Fk,N6,S6,rfl,d6,⟨mB,vf⟩,d7,iU⟩;obtain⟨D0,d0,rfl,-,-,-⟩:=id d6.read.1;obtain⟨D1,d1,rfl,-,-,-⟩:=id d6.read.2.1;obtain⟨D2,d2,rfl,-,-,-⟩:=id d6.read.2.2;have aW:CB cb B w0 w6:=yO.out.trans (iU.mono iE)
  have ec:=aW.aeh iF.out (by have:=eT.out;omega) (by omega)
  obtain⟨e0,e1,e2,f0,f1,f2⟩:=ec.box.cells;have aP:=d6.mono iE;rw[eT.out]at aP aW;have c_:=zh (dq lC.out aP d7 aW ja);have CQ:=zh mB;have IP:=zh vf;clear aW ec aP mB d7 iU d6 vf;go_wp2;refine bodyPost_ret (v:=.agg #[.slice D0 N6.ends.length d0,.slice D1 N6.ids.length d1,.slice D2 N6.aea.length d2]) (by simp[results,Tryz.results127,go_sem, *]) rfl ?_;obtain⟨r1,r2,r3⟩:=c_.out;exact⟨_,_,_,N6,S6,rfl,r1,⟨CQ.out.mono (Nat.le_refl _) (by omega),IP.out⟩,r2.mono (by omega),r3⟩
 ·obtain⟨hf,hhd⟩:∃z:Nat,z=aU/2:=⟨_,rfl⟩
  obtain⟨h1,K5⟩:∃z:Nat,z=hf+1:=⟨_,rfl⟩
  have d1:(aU:Int).tdiv 2=(hf:Int):=by rw[hhd,Int.tdiv_eq_ediv_of_nonneg (by omega)];simp
  have d2:(aU:Int)/2=(hf:Int):=by omega
  have d3:IntKind.i64.wrap (hf:Int)=(hf:Int):=aF _ (by omega) (by omega)
  have d4:IntKind.i64.wrap ((hf:Int)+1)=(h1:Int):=by rw[aF _ (by omega) (by omega)];omega
  have ay:1<=h1/\2*h1<=M+2:=by omega
  clear hhd K5;go_wp2_with fail;refine(pC cb A L c (P+2) h1 h1 w1 lD.out (by omega) ay.1 (Nat.le_refl _) (by omega)).mono ?_;rintro e w6 ⟨Fi,Fj,Fk,N6,S6,rfl,d6,⟨mB,vf⟩,d7,iU⟩;obtain⟨D0,d0,rfl,-,-,-⟩:=id d6.read.1;obtain⟨D1,Rv,rfl,-,-,-⟩:=id d6.read.2.1;obtain⟨D2,TB,rfl,-,-,-⟩:=id d6.read.2.2;obtain⟨w7,pE⟩:∃z,z=w6.alloc (.cells #[.slice D0 N6.ends.length d0,.slice D1 N6.ids.length Rv,.slice D2 N6.aea.length TB] 27):=⟨_,rfl⟩
  obtain⟨pb,gG⟩:∃z,z=w6.heap.size:=⟨_,rfl⟩
  have Z6:aa w6 w7:=by rw[pE];exact ag _ (ad _)
  have fe:bD w7 pb (.slice D0 N6.ends.length d0) (.slice D1 N6.ids.length Rv) (.slice D2 N6.aea.length TB):=by rw[pE,gG];exact bD.new _ _ _ _ _
  have HO7:=zh ((d6.mono iE).keep Z6.below);have HC7:Hid (CB cb B w0 w7):=(yO.out.trans (iU.mono iE)).trans ((CB.of Z6).mono (Nat.le_trans iE iU.size));have B7:=zh (d7.since Z6);have CQ:=zh mB;have IP:=zh vf
  have iN:pb≠cb:=by have:=iU.size;omega
  have HB7:Hid (B<=w7.heap.size):=Nat.le_trans (Nat.le_trans iE iU.size) Z6.below.size;have CF:=zh fe;have Hw7:=zh pE;have ft:=zh gG;obtain⟨k0,k1,k2,-,-,-⟩:=fe.cells;have lp:=zh (And.intro k0 (And.intro k1 k2));clear d6 mB vf d7 iU pE gG Z6 fe k0 k1 k2;go_upto_region 11 with(fail);rw[<- Hw7.out,<- ft.out];refine aL (fun W=>W.cell? ⟨pb,0,none⟩=some (.slice D0 N6.ends.length d0)/\W.cell? ⟨pb,1,none⟩=some (.slice D1 N6.ids.length Rv)/\W.cell? ⟨pb,2,none⟩=some (.slice D2 N6.aea.length TB)) 7 [false,false,false,false,false,true,true] (by kernel_rfl) (by kernel_rfl) (show(World.drew w7).cell? ⟨pb,0,none⟩=some (.slice D0 N6.ends.length d0)/\(World.drew w7).cell? ⟨pb,1,none⟩=some (.slice D1 N6.ids.length Rv)/\(World.drew w7).cell? ⟨pb,2,none⟩=some (.slice D2 N6.aea.length TB)from lp.out) ?_
  simp only[eE,ea,zT]
  iterate 5 (apply bV rfl;(intro W hW;(obtain⟨k0,k1,k2⟩:=hW);go_simp;with_reducible rfl);simp only[zA])
  obtain⟨W,dE⟩:∃W,W=World.drew w7:=⟨_,rfl⟩
  rw[<- dE];have hW:=(show(World.drew w7).cell? ⟨pb,0,none⟩=some (.slice D0 N6.ends.length d0)/\(World.drew w7).cell? ⟨pb,1,none⟩=some (.slice D1 N6.ids.length Rv)/\(World.drew w7).cell? ⟨pb,2,none⟩=some (.slice D2 N6.aea.length TB)from lp.out);rw[<- dE]at hW;have gA:=zh dE;clear dE;refine Or.inl ⟨rfl,?_⟩
  go_simp
  (with_reducible refine(GU cb A L c _ h1 h1 W (by rw[gA.out];exact B7.out.since (aj (ad _))) (by omega) ay.1 (Nat.le_refl _) (by omega)).mono ?_)
  rintro e W' ⟨ve8,vi8,vn8,N8,S8,rfl,ho8,⟨hT8,-⟩,Z7,TC⟩;refine⟨_,rfl,And.intro (aA hW.1 iN _ TC) (And.intro (aA hW.2.1 iN _ TC) (aA hW.2.2 iN _ TC)),?_⟩
  replace hW:=And.intro (aA hW.1 iN _ TC) (And.intro (aA hW.2.1 iN _ TC) (aA hW.2.2 iN _ TC))
  have qg:aa w7 W:=(by rw[gA.out];exact aj (ad _))
  have HC8:=zh (((eF.refl cb w7).after qg).trans TC);have uw:=zh ho8;have HT8:=zh hT8;have acn:=zh Z7;clear ho8 hT8 Z7 TC qg;obtain⟨wp,rfl⟩:∃z,z=W':=⟨_,rfl⟩
  (try simp only[zA])
  refine Or.inl ⟨rfl,?_⟩
  go_simp
  (with_reducible refine(Ee _ _ _ _ _ _ N6 N8 _ (HO7.out.seen HC8.out kD).read uw.out.read (CQ.out.small (by omega) (by omega)) (HT8.out.small (by omega) (by omega)) HT8.out.wf).mono ?_)
  rintro e W' ⟨ve9,vi9,vn9,S9,rfl,iS,km⟩;refine⟨_,rfl,And.intro (bc km hW.1) (And.intro (bc km hW.2.1) (bc km hW.2.2)),?_⟩
  replace hW:=And.intro (bc km hW.1) (And.intro (bc km hW.2.1) (bc km hW.2.2))
  skip
  (try simp only[zA])
  simp only[bz];obtain⟨F0,t0,rfl,-,-,-⟩:=id iS.read.1;obtain⟨F1,t1,rfl,-,-,-⟩:=id iS.read.2.1;obtain⟨F2,t2,rfl,-,-,-⟩:=id iS.read.2.2;have L_:B<=wp.heap.size:=Nat.le_trans HB7.out HC8.out.size;have WO:aa wp W':=km;have aW:CB cb B w0 W':=(HC7.out.trans (CB.mono HC8.out HB7.out)).trans ((CB.of WO.below).mono L_)
  have ec:=aW.aeh iF.out (by have:=eT.out;omega) (by omega)
  obtain⟨e0,e1,e2,f0,f1,f2⟩:=ec.box.cells;have aP:=iS.mono L_;rw[eT.out]at aP aW;have c_:=zh (dq lC.out aP (acn.out.since WO) aW ja);have Hg9:=zh (CQ.out.union HT8.out)
  have Hl9:Hid (0<(iG N6 N8).ends.length):=by show _<_;unfold iG;rw[List.length_append];have:=IP.out;omega
  clear aW ec aP WO iS km L_ hW;go_wp2;refine bodyPost_ret (v:=.agg #[.slice F0 (iG N6 N8).ends.length t0,.slice F1 (iG N6 N8).ids.length t1,.slice F2 (iG N6 N8).aea.length t2]) (by simp[results,Tryz.results127,go_sem, *]) rfl ?_;obtain⟨r1,r2,r3⟩:=c_.out;exact⟨_,_,_,iG N6 N8,S9,rfl,r1,⟨Hg9.out.mono (Nat.le_refl _) (by omega),Hl9.out⟩,r2.mono (by omega),r3⟩
 ·go_wp2_with fail;refine(dJ cb A L c (P+2) aU w1 lD.out (by omega) (by omega)).mono ?_;rintro e w2 ⟨x2,rfl,oQ,mv,qp⟩;obtain⟨m,hm⟩:∃m:Nat,m=x2+1:=⟨_,rfl⟩
  have m1:IntKind.i64.wrap (1+(x2:Int))=(m:Int):=by rw[aF _ (by omega) (by omega)];omega
  have Xf:m<=M:=by omega
  have y5:0<m:=by omega
  have sK:=zh mv;have Jh:Hid (CB cb B w0 w2):=yO.out.trans (qp.mono iE);have vz:Hid (B<=w2.heap.size):=Nat.le_trans iE qp.size;clear mv qp oQ hm;go_wp2_with fail;refine(py m (by omega) w2).mono ?_;rintro e w3 ⟨ZP,ZQ,ZR,S0,rfl,ho,bN⟩;obtain⟨N0,B6⟩:∃z,z=dW m:=⟨_,rfl⟩
  rw[<- B6]at ho
  have n_:N0.ends.length=m:=by rw[B6];simp[dW]
  have GW:Gd 100 M N0:=by rw[B6];exact(Gd.empty Xf).mono (by omega) (Nat.le_refl _)
  obtain⟨A1,c1,rfl,-,rM,-⟩:=id ho.read.1;obtain⟨AI,cI,rfl,-,-,-⟩:=id ho.read.2.1;obtain⟨AN,cN,rfl,-,-,-⟩:=id ho.read.2.2;obtain⟨w4,iC⟩:∃z,z=w3.alloc (.cells #[.slice A1 N0.ends.length c1,.slice AI N0.ids.length cI,.slice AN N0.aea.length cN] 27):=⟨_,rfl⟩
  obtain⟨pb,gG⟩:∃z,z=w3.heap.size:=⟨_,rfl⟩
  have h34:aa w3 w4:=by rw[iC];exact ag _ (ad _)
  have hZ:aa w2 w3:=bN
  have hmb:Mb cb B pb A L c (P+2+2) w0 w4 (.slice A1 N0.ends.length c1) (.slice AI N0.ids.length cI) (.slice AN N0.aea.length cN) N0 S0:=
   ⟨(ho.keep h34.below).mono vz.out,by rw[iC,gG];exact bD.new _ _ _ _ _,fun hj=>by have:=(ho.range _ hj).2;omega,(sK.out.since hZ).since h34,Jh.out.trans ((CB.of (hZ.after h34).below).mono vz.out)⟩
  have sJ:=zh hmb
  have ft:Hid (B<=pb/\pb<w4.heap.size):=⟨by rw[gG];exact Nat.le_trans vz.out hZ.below.size,by rw[iC,gG];simp⟩
  have J7:=zh iC;have sM:=zh gG;have Gz:=zh GW;have Vj:=zh n_;have fe:=hmb.box.cells.1
  have iN:pb≠cb:=by have:=ft.out;omega
  rw[n_]at fe;obtain⟨m2,fJ⟩:∃m2:Nat,m2=2*m:=⟨_,rfl⟩
  have e2m:(2:Int)*(m:Int)=(m2:Int):=by omega
  have m20:IntKind.i64.wrap (2*(m:Int))=(m2:Int):=by rw[e2m];exact aF _ (by omega) (by omega)
  have kC:=zh fJ;clear fJ;clear hmb iC gG GW n_ ho bN hZ h34 B6 e2m;go_upto_region 13 with(fail);rw[<- J7.out,<- sM.out];go_wp2_with fail
  refine(dJ cb A L c _ (m2:Int) w4 sJ.out.cur (by omega) (by have:=kC.out;omega)).mono ?_
  rintro e w5 ⟨x5,rfl,aco,mZ,vC⟩
  have hx5:x5<=100:=by have:=kC.out;omega
  have ke:=zh (sJ.out.seen vC mZ kD ft.out.1 (by have:=ft.out;omega))
  have Hz5:Hid (B<=w5.heap.size):=by show _<=_;have:=ft.out;have:=vC.size;omega
  clear mZ vC fe aco;go_upto_region 14 with(fail);obtain⟨Q,hQ⟩:∃z,z=P+2+2+2:=⟨_,rfl⟩
  have HQ:Hid (Q=P+2+2+2):=hQ;rw[<- hQ]at ke;clear hQ
  go_loopw [7] (fun i wr=>∃(k:Nat) (ve vi vn:Value) (N:ak) (S:List Nat),k<=100/\i=.int .i64 k/\Mb cb B pb A L c (Q+6*(100-k)) w0 wr ve vi vn N S/\Gd 100 M N/\N.ends.length=m/\B<=wr.heap.size) (fun i _=>(intOf i).toNat)
  case atStart=>exact⟨x5,_,_,_,N0,S0,hx5,rfl,⟨ke.out.own,ke.out.box,ke.out.nb,ke.out.cur.mono (by omega),ke.out.far⟩,Gz.out,Vj.out,Hz5.out⟩
  case round=>
   obtain⟨k,ve,vi,vn,N,S2,hk,rfl,hm,iY,n_,eP⟩:=hrel;obtain⟨Mz,kB,rfl,-,zb,-⟩:=id hm.own.read.1;obtain⟨rQ,rR,rfl,-,-,-⟩:=id hm.own.read.2.1;obtain⟨Aw,vX,rfl,-,-,-⟩:=id hm.own.read.2.2;obtain⟨g,rfl,-⟩:=hm.own.head (by omega);have Hm:=zh hm;have iL:=zh iY;have io:=zh n_;have jF:=zh eP;clear hm iY n_ eP
   by_cases hlt:0<k
   ·have e0:((0:Int)<(k:Int))=True:=by simp;omega
    have m4:IntKind.i64.wrap ((k:Int)-1)=(k:Int)-1:=aF _ (by omega) (by omega)
    have lp:=zh (show wr.cell? ⟨pb,0,none⟩=some (.slice (some ⟨g,0,none⟩) m kB)from by obtain⟨a,-⟩:=Hm.out.box.cells;rw[io.out]at a;exact a)
    obtain⟨wo,rfl⟩:∃z,z=wr:=⟨_,rfl⟩
    go_upto_region 16 with(fail);refine aL (fun W=>W.cell? ⟨pb,0,none⟩=some (.slice (some ⟨g,0,none⟩) m kB)) 10 [false,false,false,false,true,false,false,false,false,true] (by kernel_rfl) (by kernel_rfl) (show(World.drew wo).cell? ⟨pb,0,none⟩=some (.slice (some ⟨g,0,none⟩) m kB)from lp.out) ?_
    simp only[eE,ea,zT]
    iterate 8 (apply bV rfl;(intro W hW;(have k0:=hW);go_simp;with_reducible rfl);simp only[zA])
    obtain⟨W,dE⟩:∃W,W=World.drew wo:=⟨_,rfl⟩
    rw[<- dE];have hW:=(show(World.drew wo).cell? ⟨pb,0,none⟩=some (.slice (some ⟨g,0,none⟩) m kB)from lp.out);rw[<- dE]at hW;have gA:=zh dE;clear dE;refine Or.inl ⟨rfl,?_⟩
    go_simp
    (with_reducible refine(dJ cb A L c (Q+6*(100-k)) (m:Int) W (by rw[gA.out];exact Hm.out.cur.since (aj (ad _))) (by have:=HQ.out;omega) (by omega)).mono ?_)
    rintro e W' ⟨a,rfl,ha,fh,hC⟩;refine⟨_,rfl,aA hW iN _ hC,?_⟩
    replace hW:=aA hW iN _ hC
    have qg:aa wo W:=(by rw[gA.out];exact aj (ad _))
    have xG:=zh (((eF.refl cb wo).after qg).trans hC);have GS:=zh fh;have Ha:=zh ha;clear hC fh qg ha;obtain⟨wp,rfl⟩:∃z,z=W':=⟨_,rfl⟩
    (try simp only[zA])
    refine Or.inl ⟨rfl,?_⟩
    go_simp
    (with_reducible refine(dJ cb A L c (Q+6*(100-k)+2) (m:Int) _ GS.out (by have:=HQ.out;omega) (by omega)).mono ?_)
    rintro e W' ⟨b,rfl,hb,fh,hC⟩;refine⟨_,rfl,aA hW iN _ hC,?_⟩
    replace hW:=aA hW iN _ hC
    have ke:=zh (Hm.out.seen (xG.out.trans hC) fh kD ft.out.1 jF.out);have zk:Hid (B<=W'.heap.size):=Nat.le_trans jF.out (xG.out.trans hC).size;clear hC fh
    (try simp only[zA])
    simp only[bz]
    have Jn:a<m:=by have:=Ha.out;omega
    have ZS:b<m:=by omega
    clear hb;obtain⟨w5,rfl⟩:∃z,z=W':=⟨_,rfl⟩
    have ZT:=zh hW;clear hW;obtain⟨xa,GZ⟩:∃z,z=dp N a:=⟨_,rfl⟩
    obtain⟨xb,G0⟩:∃z,z=dp N b:=⟨_,rfl⟩
    have Qh:=dh (n:=N) (v:=a) (by have:=io.out;omega)
    have Rr:=dh (n:=N) (v:=b) (by have:=io.out;omega)
    rw[<- GZ]at Qh;rw[<- G0]at Rr;have Ke:xa.length<=100:=iL.out.row _ _ Qh;have tB:xb.length<=100:=iL.out.row _ _ Rr;obtain⟨ua,Ta,Rs,-,ZU,-,-,-⟩:=ke.out.own.aef Qh;obtain⟨AUa,cUa,rfl,-,-,-⟩:=id ZU.read;obtain⟨ub,Tb,OC,-,ZV,-,-,-⟩:=ke.out.own.aef Rr;obtain⟨AUb,cUb,rfl,-,-,-⟩:=id ZV.read;have Rt:=zh GZ;have Vk:=zh G0;have pa:=ae Rs;have pq:=ae OC;have p0:=ae ZT.out;have q0:=p0 w5 (ad _);have qa:=pa w5 (ad _);have qb:=pq w5 (ad _);clear GZ G0 Qh Rr ZU ZV Rs OC p0 pa pq
    by_cases h5:xa.length<=4
    ·have e5:((4:Int)<(xa.length:Int))=False:=by simp;omega
     by_cases h6:xb.length<=4
     ·have e6:((4:Int)<(xb.length:Int))=False:=by simp;omega
      go_upto_region 18 with(fail);clear q0 qa qb;go_wp2_with fail
      refine(mT cb A L c (Q+6*(100-k)+2+2) 5 w5 ke.out.cur (by have:=HQ.out;omega) (by omega)).mono ?_
      rintro e w6 ⟨bb,rfl,d7,iU⟩;have nN:=zh (ke.out.seen iU d7 kD ft.out.1 zk.out);have zl:Hid (B<=w6.heap.size):=Nat.le_trans zk.out iU.size;have xR:=nN.out.box.cells;rw[io.out]at xR;obtain⟨q0,q1,q2,-,-,-⟩:=xR
      have HN6:Hid (aQ w6 (.slice (some ⟨g,0,none⟩) m kB) (.slice rQ N.ids.length rR) (.slice Aw N.aea.length vX) N):=by show aQ _ _ _ _ _;have h9:=nN.out.own.read;rw[io.out]at h9;exact h9
      clear d7 iU;cases bb
      ·go_wp2_with fail
       refine(nL _ _ _ N a b w6 HN6.out (by rw[io.out];exact Jn) (by rw[io.out];exact ZS) ((iL.out.mono (R':=100) (M':=40) (by omega) (by omega)).small (by omega) (by omega))).mono ?_
       rintro e w8 ⟨ZH,ZI,ZJ,S3,rfl,dl,bj⟩;have mc:aa w6 w8:=bj;obtain⟨D0,d0,rfl,-,-,-⟩:=id dl.read.1;obtain⟨D1,d1,rfl,-,-,-⟩:=id dl.read.2.1;obtain⟨D2,d2,rfl,-,-,-⟩:=id dl.read.2.2;have D_:=nN.out.assign (CB.of mc) (nN.out.cur.since mc) dl nN.out.box.lt kD ft.out.1 zl.out;clear q0 q1 q2;obtain⟨k0,k1,k2,f0,f1,f2⟩:=(nN.out.box.below mc nN.out.box.lt).cells;have rA:=zh D_
       have pA:B<=(aed w8 pb (.slice D0 (dK N a b).ends.length d0) (.slice D1 (dK N a b).ids.length d1) (.slice D2 (dK N a b).aea.length d2)).heap.size:=by rw[gQ];exact Nat.le_trans zl.out mc.below.size
       have xO:=zh pA
       have Bq:=zh (iL.out.aeI (v:=a) (u:=b) (by rw[io.out];exact Jn) (by rw[io.out];exact ZS) (by rw[<- Rt.out];exact h5) (by rw[<- Vk.out];exact h6) (by omega))
       have tH:=zh ((eG N a b).trans io.out);clear D_ dl bj mc pA;go_wp2;go_roundw
       case rel=>exact⟨k-1,_,_,_,dK N a b,S3,by omega,by rw[show((k-1:Nat):Int)=(k:Int)-1 by omega],⟨rA.out.own,rA.out.box,rA.out.nb,rA.out.cur.mono (by omega),rA.out.far⟩,Bq.out,tH.out,xO.out⟩
       case measure=>simp[intOf];omega
      ·go_wp2_with fail
       refine(GG _ _ _ N a w6 HN6.out (by rw[io.out];exact Jn) ((iL.out.mono (R':=100) (M':=40) (by omega) (by omega)).small (by omega) (by omega))).mono ?_
       rintro e w8 ⟨ZH,ZI,ZJ,S3,rfl,dl,bj⟩;have mc:aa w6 w8:=bj;obtain⟨D0,d0,rfl,-,-,-⟩:=id dl.read.1;obtain⟨D1,d1,rfl,-,-,-⟩:=id dl.read.2.1;obtain⟨D2,d2,rfl,-,-,-⟩:=id dl.read.2.2;have D_:=nN.out.assign (CB.of mc) (nN.out.cur.since mc) dl nN.out.box.lt kD ft.out.1 zl.out;clear q0 q1 q2;obtain⟨k0,k1,k2,f0,f1,f2⟩:=(nN.out.box.below mc nN.out.box.lt).cells;have rA:=zh D_
       have pA:B<=(aed w8 pb (.slice D0 (lz N a).ends.length d0) (.slice D1 (lz N a).ids.length d1) (.slice D2 (lz N a).aea.length d2)).heap.size:=by rw[gQ];exact Nat.le_trans zl.out mc.below.size
       have xO:=zh pA
       have Bq:=zh (iL.out.aeE (v:=a) (by rw[io.out];exact Jn) (by rw[<- Rt.out];exact h5) (by omega))
       have tH:=zh ((sL N a).trans io.out);clear D_ dl bj mc pA;go_wp2;go_roundw
       case rel=>exact⟨k-1,_,_,_,lz N a,S3,by omega,by rw[show((k-1:Nat):Int)=(k:Int)-1 by omega],⟨rA.out.own,rA.out.box,rA.out.nb,rA.out.cur.mono (by omega),rA.out.far⟩,Bq.out,tH.out,xO.out⟩
       case measure=>simp[intOf];omega
     ·have e6:((4:Int)<(xb.length:Int))=True:=by simp;omega
      go_wp2;go_roundw
      case rel=>exact⟨k-1,_,_,_,N,S2,by omega,by rw[show((k-1:Nat):Int)=(k:Int)-1 by omega],(⟨ke.out.own,ke.out.box,ke.out.nb,ke.out.cur.mono (by omega),ke.out.far⟩),iL.out,io.out,zk.out⟩
      case measure=>simp[intOf];omega
    ·have e5:((4:Int)<(xa.length:Int))=True:=by simp;omega
     go_wp2;go_roundw
     case rel=>exact⟨k-1,_,_,_,N,S2,by omega,by rw[show((k-1:Nat):Int)=(k:Int)-1 by omega],(⟨ke.out.own,ke.out.box,ke.out.nb,ke.out.cur.mono (by omega),ke.out.far⟩),iL.out,io.out,zk.out⟩
     case measure=>simp[intOf];omega
   ·obtain rfl:k=0:=by omega
    obtain⟨k0,k1,k2,-,-,-⟩:=Hm.out.box.cells;have kC:=Hm;have rj:=jF;obtain⟨w5,rfl⟩:∃z,z=wr:=⟨_,rfl⟩
    go_upto_region 21 with(fail);go_wp2_with fail
    refine(vW cb A L c _ B 100 M _ _ _ N S2 w5 kC.out.cur (by have:=HQ.out;omega) kC.out.own kD rj.out iL.out (by omega) (by omega) (by have:=io.out;omega)).mono ?_
    rintro e w6 ⟨Fi,Fj,Fk,N6,S6,rfl,d6,⟨xP,mB⟩,d7,iU⟩;obtain⟨D0,d0,rfl,-,-,-⟩:=id d6.read.1;obtain⟨D1,d1,rfl,-,-,-⟩:=id d6.read.2.1;obtain⟨D2,d2,rfl,-,-,-⟩:=id d6.read.2.2;have aW:=(kC.out.far.mono (Nat.le_refl B)).trans iU
    have ec:=aW.aeh iF.out (by have:=eT.out;omega) (by omega)
    obtain⟨e0,e1,e2,f0,f1,f2⟩:=ec.box.cells;have aP:=d6;rw[eT.out]at aP aW;have c_:=zh (dq lC.out aP d7 aW ja);have GX:=zh xP;have CQ:=zh mB;clear aW ec aP xP mB d7 iU d6 k0 k1 k2;go_wp2;refine bodyPost_ret (v:=.agg #[.slice D0 N6.ends.length d0,.slice D1 N6.ids.length d1,.slice D2 N6.aea.length d2]) (by simp[results,Tryz.results127,go_sem, *]) rfl ?_;obtain⟨r1,r2,r3⟩:=c_.out
    exact⟨_,_,_,N6,S6,rfl,r1,⟨CQ.out.mono (by omega) (by omega),by have:=io.out;have:=GX.out.len;omega⟩,r2.mono (by have:=HQ.out;omega),r3⟩
end Go.Proofs.YtgmdpppljkmabaaGreat
