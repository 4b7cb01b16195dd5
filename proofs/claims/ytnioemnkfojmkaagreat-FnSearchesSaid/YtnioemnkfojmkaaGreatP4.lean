/- Parts of the proof: walks of functions and plain laws. -/
import Derived.Test.YtnioemnkfojmkaaGreatP0
import Derived.Test.YtnioemnkfojmkaaGreatP3
set_option maxRecDepth 100000
set_option maxHeartbeats 16000000
namespace Go.Proofs.YtnioemnkfojmkaaGreat
open Go Go.RowKit
theorem jM (v:Value) (l:List (List Int)) (size labels:Int) (w:World) (h:a_ w v l) (hl:1<=labels/\labels<=8):
  Calls Tryz.prog 77 #[v,.int .i64 size,.int .i64 labels] w fun e w'=>e=.returned (.bool (vG l size labels))/\Below w.heap.size w w':=by
 have H:=zh h;obtain⟨A,c,rfl,f_,hm,-⟩:=h;unfold maxLen at hm;have wl:IntKind.i64.wrap (labels-1)=labels-1:=aE _ (by omega) (by omega)
 go_enter Tryz.func77,Tryz.ntmps77
 go_wp2
 go_loopw [11] (fun i wr=>∃k:Nat,k<=l.length/\i=.int .i64 k/\(List.range k).all (iR l size labels)=true/\Below w.heap.size w wr) (fun i _=>l.length-(intOf i).toNat)
 case atStart=>exact⟨0,Nat.zero_le _,rfl,rfl,Below.refl _ _⟩
 case round=>
  obtain⟨k,hk,rfl,bH,hb⟩:=hrel;have eV:=zh bH;have Hb:=zh hb;clear bH hb
  by_cases aH:k<l.length
  ·obtain⟨x,b,off,A1,z,hx,rfl,dG,dP,eO,j6⟩:=dT H.out aH
   replace dG:=bc Hb.out dG
   have Hx:=zh hx;have HX:=zh (show ∀X,aa wr X->bO X (.slice A1 x.length z) x from fun X hX=>j6.ac2 (Hb.out.trans (hX.mono Hb.out.size)))
   clear hx j6
   have FZ:Hid (iR l size labels k=(((x.length:Int)==size)&&(kr x&&jL x 0 (labels-1))&&(k==0||decide (ed (l.getD (k-1) []) x<0)))):=by show _=_;unfold iR B6;rw[ak Hx.out]
   by_cases dQ:(x.length:Int)=size
   ·cases nQ:kr x
    ·have vO:=zh nQ;clear nQ
     go_wp2_with (go_at_call 132;refine(iS _ x _ (HX.out _ (ad _))).mono ?_;rw[vO.out];rintro e w1 ⟨rfl,aX⟩)
     go_ret
     exact⟨aB (lA aH (by rw[FZ.out,vO.out];simp)),Hb.out.trans (aX.mono Hb.out.size)⟩
    ·have vO:=zh nQ;clear nQ;cases qe:jL x 0 (labels-1)
     ·have Cc:=zh qe;clear qe
      go_wp2_with (first | (go_at_call 132;refine(iS _ x _ (HX.out _ (ad _))).mono ?_;rw[vO.out];rintro e w1 ⟨rfl,aX⟩) | (go_at_call 83;refine(iD _ x 0 (labels-1) _ (HX.out _ aX)).mono ?_;rw[Cc.out];rintro e w2 ⟨rfl,bJ⟩))
      go_ret
      exact⟨aB (lA aH (by rw[FZ.out,Cc.out];simp)),Hb.out.trans ((aa.trans aX bJ).mono Hb.out.size)⟩
     ·have Cc:=zh qe;have lM:=zh dQ;clear qe;rcases Nat.eq_zero_or_pos k with h0 | h0
      ·have xR:¬(k:Int)>0:=by omega
       have dJ:Hid (iR l size labels k=true):=by show _=_;rw[FZ.out,vO.out,Cc.out,h0];simp[lM.out]
       clear h0
       go_wp2_with (first | (go_at_call 132;refine(iS _ x _ (HX.out _ (ad _))).mono ?_;rw[vO.out];rintro e w1 ⟨rfl,aX⟩) | (go_at_call 83;refine(iD _ x 0 (labels-1) _ (HX.out _ aX)).mono ?_;rw[Cc.out];rintro e w2 ⟨rfl,bJ⟩))
       have np:=zh (Hb.out.trans ((aa.trans aX bJ).mono Hb.out.size));clear aX bJ;go_wp2;go_roundw
       case rel=>exact⟨k+1,by omega,by go_num,vL eV.out dJ.out,np.out⟩
       case measure=>simp[intOf];omega
      ·obtain⟨y,b',md,A2,z2,hy,he,lK,JV,U4,Nb⟩:=dT H.out (k:=k-1) (by omega);cases he
       replace lK:=bc Hb.out lK
       have HY:=zh (show ∀X,aa wr X->bO X (.slice A2 y.length z2) y from fun X hX=>Nb.ac2 (Hb.out.trans (hX.mono Hb.out.size)))
       have Hy:=zh hy;obtain⟨cv,Cd⟩:∃cv,ed y x=cv:=⟨_,rfl⟩
       have vM:=zh Cd
       have wk:IntKind.i64.wrap ((k:Int)-1)=((k-1:Nat):Int):=by rw[aE _ (by omega) (by omega)];omega
       have pM:k-1<l.length:=by omega
       have q2:=ab lK;clear hy Nb Cd lK
       by_cases lO:cv>=0
       ·go_wp2_with (first | (go_at_call 132;refine(iS _ x _ (HX.out _ (ad _))).mono ?_;rw[vO.out];rintro e w1 ⟨rfl,aX⟩) | (go_at_call 83;refine(iD _ x 0 (labels-1) _ (HX.out _ aX)).mono ?_;rw[Cc.out];rintro e w2 ⟨rfl,bJ⟩;have dZ:aa wr w2:=aa.trans aX bJ) | (go_at_call 133;refine(fl _ _ y x _ (HY.out _ (aa.trans aX bJ)) (HX.out _ (aa.trans aX bJ))).mono ?_;rw[vM.out];rintro e w3 ⟨rfl,aG⟩))
        go_ret
        exact⟨aB (lA aH (by rw[FZ.out,ak Hy.out,vM.out];simp;omega)),Hb.out.trans ((aa.trans (aa.trans aX bJ) aG).mono Hb.out.size)⟩
       ·have dJ:Hid (iR l size labels k=true):=by show _=_;rw[FZ.out,vO.out,Cc.out,ak Hy.out,vM.out];simp[lM.out];omega
        go_wp2_with (first | (go_at_call 132;refine(iS _ x _ (HX.out _ (ad _))).mono ?_;rw[vO.out];rintro e w1 ⟨rfl,aX⟩) | (go_at_call 83;refine(iD _ x 0 (labels-1) _ (HX.out _ aX)).mono ?_;rw[Cc.out];rintro e w2 ⟨rfl,bJ⟩;have dZ:aa wr w2:=aa.trans aX bJ) | (go_at_call 133;refine(fl _ _ y x _ (HY.out _ (aa.trans aX bJ)) (HX.out _ (aa.trans aX bJ))).mono ?_;rw[vM.out];rintro e w3 ⟨rfl,aG⟩))
        have np:=zh (Hb.out.trans ((aa.trans (aa.trans aX bJ) aG).mono Hb.out.size));clear aX bJ aG dZ q2;go_wp2;go_roundw
        case rel=>exact⟨k+1,by omega,by go_num,vL eV.out dJ.out,np.out⟩
        case measure=>simp[intOf];omega
   ·have lM:=zh dQ;go_wp2;go_ret
    exact⟨aB (lA aH (by rw[FZ.out];simp[lM.out])),Hb.out⟩
  ·obtain rfl:k=l.length:=by omega
   go_wp2;go_ret;exact⟨dn eV.out,Hb.out⟩
theorem RD {l:List (List Int)} {t:List Int} (h:∀(k:Nat) (x:List Int),l[k]?=some x->x≠t):l.contains t=false:=by
 rw[Bool.eq_false_iff];intro hc;rw[List.contains_iff_mem]at hc;obtain⟨k,hk⟩:=List.mem_iff_getElem?.1 hc;exact h k t hk rfl
theorem Ie (v u:Value) (l:List (List Int)) (t:List Int) (w:World) (h:a_ w v l) (h':bO w u t):
  Calls Tryz.prog 180 #[v,u] w fun e w'=>e=.returned (.bool (l.contains t))/\Below w.heap.size w w':=by
 have H:=zh h;have HT:=zh h';obtain⟨A,c,rfl,f_,hm,-⟩:=h;obtain⟨AT,cT,rfl,-⟩:=h';unfold maxLen at hm
 go_enter Tryz.func180,Tryz.ntmps180
 go_wp2
 go_loopw [9] (fun i wr=>∃k:Nat,k<=l.length/\i=.int .i64 k/\(∀(q:Nat) (x:List Int),q<k->l[q]?=some x->x≠t)/\Below w.heap.size w wr) (fun i _=>l.length-(intOf i).toNat)
 case atStart=>exact⟨0,Nat.zero_le _,rfl,fun q x h=>by omega,Below.refl _ _⟩
 case round=>
  obtain⟨k,hk,rfl,bH,hb⟩:=hrel;have eV:=zh bH;have Hb:=zh hb;clear bH hb
  by_cases aH:k<l.length
  ·obtain⟨x,b,off,A1,z,hx,rfl,dG,dP,eO,j6⟩:=dT H.out aH
   replace dG:=bc Hb.out dG
   have Hx:=zh hx;have Bq:=zh (j6.ac2 Hb.out);clear hx j6
   by_cases U6:t=x
   ·have Hd:=zh (decide_eq_true U6)
    have Hr:Hid (l.contains t=true):=by show _=_;rw[List.contains_iff_mem];exact U6 ▸ List.mem_of_getElem? Hx.out
    clear U6
    go_wp2_with (go_at_call 167;refine(mH _ _ t x _ (HT.out.ac2 Hb.out) Bq.out).mono ?_;rw[Hd.out];rintro e w1 ⟨rfl,aX⟩)
    go_ret;exact⟨dn Hr.out,Hb.out.trans (aX.mono Hb.out.size)⟩
   ·have Hd:=zh (decide_eq_false U6);have Htx:=zh U6;clear U6
    go_wp2_with (go_at_call 167;refine(mH _ _ t x _ (HT.out.ac2 Hb.out) Bq.out).mono ?_;rw[Hd.out];rintro e w1 ⟨rfl,aX⟩)
    have np:=zh (Hb.out.trans (aX.mono Hb.out.size));clear aX;go_wp2;go_roundw
    case rel=>
     refine⟨k+1,by omega,by go_num,fun q y h1 h2=>?_,np.out⟩
     rcases Nat.lt_or_ge q k with h3 | h3
     ·exact eV.out q y h3 h2
     ·obtain rfl:q=k:=by omega
      have h4:=Hx.out;rw[h2]at h4;cases h4;exact fun e=>Htx.out e.symm
    case measure=>simp[intOf];omega
  ·obtain rfl:k=l.length:=by omega
   go_wp2;go_ret;exact⟨aB (RD fun q x hq=>eV.out q x (al hq) hq),Hb.out⟩
open Go.RowKit Go.Shelf
attribute [local go_sem] Oper.semAt_some
def JX (x:Int):Array Value:=#[.int .i64 x]
theorem Ce (F:Fence) (n:Nat) (hf:F.fn 207) (V7:F.round=none) (hn:1<=n) (Bs:Nat) (sv:Value) (xs:List Int) (w:World) (hc:w.cell? ⟨Bs,0,none⟩=some sv) (hI:bO w sv xs):
  SeqStopsK F n Tryz.prog 207 #[.pointer (some ⟨Bs,0,none⟩)] JX (fA 0 w.heap.size) (fun ys=>ys=xs) (fun _=>True) xs.length w:=fun l J Jx W hW _ _ hY h0=>by
 have PZ:=bc hW hc;obtain⟨A,c,rfl,f_,hm,hA⟩:=hI;unfold maxLen at hm;have HA:=zh hA;have HW:=zh hW;have HY:=zh hY;clear hA hW hc hY;refine callsIn_of_wp Tryz.func207 rfl hf ?_ V7
 simp only[Tryz.ntmps207,List.size_toArray,List.length_cons,List.length_nil,Nat.reduceAdd,Nat.reduceSub,Array.replicate_succ,Array.replicate_zero,List.push_toArray,List.append_toArray,List.nil_append,List.cons_append]
 gi_wp2
 gi_loopw [7] (fun i wr=>∃k:Nat,k<=xs.length/\i=.int .i64 k/\J (xs.take k) wr/\fA 0 w.heap.size W wr) (fun i _=>xs.length-(intOf i).toNat)
 case atStart=>exact⟨0,Nat.zero_le _,rfl,by simpa using h0,fA.refl _ _ _⟩
 case round=>
  obtain⟨k,hk,rfl,hJs,Nc⟩:=hrel;have zQ:=zh Nc;clear Nc
  by_cases aH:k<xs.length
  ·obtain⟨x,b,off,hx,rfl,dG⟩:=ee HA.out aH;have uH:b<w.heap.size:=World.block_lt_of_cell? w _ dG;have sr:wr.cell? ⟨b,off+k,none⟩=some (.int .i64 x):=zQ.out.cell (Nat.zero_le _) uH (bc HW.out dG)
   obtain⟨fn,tmps,assign,body,hy,hR⟩:=HY.out _ x wr hJs (by rw[List.length_take];omega)
   unfold JX at hy;have Hx:=zh hx;clear hx dG
   gi_wp2
   refine hR.mono ?_
   rintro e W3 (⟨rfl,hJ3,If⟩ | ⟨rfl,aat⟩)
   ·gi_wp2
    go_roundw
    case rel=>exact⟨k+1,by omega,by go_num,by rw[bX Hx.out];exact hJ3,zQ.out.t If⟩
    case measure=>simp[intOf];omega
   ·gi_wp2
    refine bodyPost_ret (results_none rfl _ _ _) rfl ?_;exact⟨⟨_,rfl⟩,.inr ⟨_,trivial,aat⟩⟩
  ·obtain rfl:k=xs.length:=by omega
   rw[List.take_length]at hJs
   gi_wp2
   go_end0
   exact⟨⟨_,rfl⟩,.inl ⟨_,rfl,hJs⟩⟩
theorem Ig (n:Nat) (A:Option Addr) (k c:Nat) (w:World):
  CallsIn Fence.wide n Tryz.prog 183 #[.slice A k c] w fun e w'=>e=.returned (.func (.func 207) #[] #[.pointer (some ⟨w.heap.size,0,none⟩)])/\w'=w.alloc (.cells #[.slice A k c] 28):=by
 refine callsIn_of_wp Tryz.func183 rfl trivial ?_ rfl
 simp only[Tryz.ntmps183,List.size_toArray,List.length_cons,List.length_nil,Nat.reduceAdd,Nat.reduceSub,Array.replicate_succ,Array.replicate_zero,List.push_toArray,List.append_toArray,List.nil_append,List.cons_append]
 gi_wp2
 go_ret;exact⟨rfl,rfl⟩
def JY (b0:Nat) (w:World) (pre:List Int) (W:World):Prop:=
 (∃v,Boxed W b0 28 v/\Own W (b0+1) v pre)/\Below b0 w W/\b0+1<=W.heap.size
theorem JZ (b0:Nat) (w:World) (hb:b0<=w.heap.size) (B:Nat) (hB:b0<=B):OwnFrom B (JY b0 w):=by
 refine OwnFrom.and ?_ (OwnFrom.and (ownFrom_below hb hB) (fun _ _ _ _ hs hg _=>Nat.le_trans hs hg.size))
 have:=_root_.Go.Own.from (holdsRow_own (β:=List Int) (b0+1) b0 28 3 1 (fun pre=>pre.length) (fun pre=>pre.map (Value.int .i64)) (fun _ _=>True)) B
 intro s W W' row hs hg hr;obtain⟨v,h1,h2⟩:=hs;obtain⟨v',JQ,RE,_⟩:=this s W W' row ⟨v,h1,h2,trivial⟩ hg hr;exact⟨v',JQ,RE⟩
theorem yZ {b0 g' c':Nat} {w W w2:World} {pre:List Int} {x:Int} {v:Value} {o:Obj}
  (bJ:Boxed W b0 28 v) (aC:Own W (b0+1) v pre) (hB:Below b0 w W) (eR:b0+1<=W.heap.size)
  (Cf:Own w2 (b0+1) (.slice (some ⟨g',0,none⟩) (pre.length+1) c') (pre++[x])) (xO:(W.alloc o).grownBy w2 v.ownBlock):
  Boxed w2 b0 28 v/\KeepsFrom (b0+1) W (w2.setCell ⟨b0,0,none⟩ (.slice (some ⟨g',0,none⟩) (pre.length+1) c')) /\
   fA 0 b0 W (w2.setCell ⟨b0,0,none⟩ (.slice (some ⟨g',0,none⟩) (pre.length+1) c')) /\
   JY b0 w (pre++[x]) (w2.setCell ⟨b0,0,none⟩ (.slice (some ⟨g',0,none⟩) (pre.length+1) c')):=by
 have aH:∀k,v.ownBlock=some k->b0+1<=k:=fun k hk=>(World.ownsRow.lt aC k hk).1
 have aau:some b0≠v.ownBlock:=fun e=>by have:=aH b0 e.symm;omega
 have k2:Boxed w2 b0 28 v:=(bJ.alloc o).kept xO aau;have hg:=Cf.blk;have k3:=(k2.set (.slice (some ⟨g',0,none⟩) (pre.length+1) c'))
 have o3:Own (w2.setCell ⟨b0,0,none⟩ (.slice (some ⟨g',0,none⟩) (pre.length+1) c')) (b0+1) (.slice (some ⟨g',0,none⟩) (pre.length+1) c') (pre++[x]):=
  World.ownsRow.kept Cf (grownBy_setCell' w2 b0 _) (.inr (by simp[Value.ownBlock];omega))
 have DS:∀k,k<W.heap.size->k≠b0->v.ownBlock≠some k->(w2.setCell ⟨b0,0,none⟩ (.slice (some ⟨g',0,none⟩) (pre.length+1) c')).heap[k]?=W.heap[k]?:=by
  intro k hk h1 h3
  rw[Below.heap_setCell _ _ _ k h1,xO.block k (by show k<(W.alloc o).heap.size;simp;omega) (fun e=>h3 e.symm)]
  exact Below.heap_alloc W o k hk
 have yc:W.heap.size<=(w2.setCell ⟨b0,0,none⟩ (.slice (some ⟨g',0,none⟩) (pre.length+1) c')).heap.size:=by
  have:=xO.size
  simp[World.setCell]at *
  omega
 refine⟨k2,⟨yc,?_⟩,⟨yc,fun k h1 h2=>DS k (by omega) (by omega) (fun e=>by have:=aH k e;omega)⟩,⟨_,k3,o3⟩,?_,by omega⟩
 ·intro k o' hk hko hc;refine(DS k (Array.getElem?_eq_some_iff.1 hko).1 (by omega) (fun e=>?_)).trans hko
  rcases aC.2 with⟨rfl,_⟩ | ⟨gg,cap,cur,rfl,_,Ru,_⟩
  ·simp[Value.ownBlock]at e
  ·simp only[Value.ownBlock,Option.some.injEq]at e;subst e;rw[Ru]at hko;cases hko;simp[Obj.isCells]at hc
 ·refine hB.trans ⟨?_,?_,?_,yc,fun k hk=>DS k (by have:=hB.size;omega) (by omega) (fun e=>by have:=aH k e;omega)⟩
  ·exact xO.os
  ·exact xO.tape
  ·exact xO.output
theorem Ih (n:Nat) (hn:3<=n) (Bs:Nat) (sv:Value) (xs:List Int) (w:World) (hc:w.cell? ⟨Bs,0,none⟩=some sv) (hI:bO w sv xs) (hl:xs.length<=1000):
  CallsIn Fence.wide n Tryz.prog 216 #[.slice none 0 0,.func (.func 207) #[] #[.pointer (some ⟨Bs,0,none⟩)]] w fun e W'=>∃v,e=.returned v/\Own W' w.heap.size v xs/\Below w.heap.size w W':=by
 have jN:1<=n:=by omega
 refine callsIn_of_wp_marks Tryz.func216 rfl trivial ?_ rfl
 simp only[Tryz.ntmps216,List.size_toArray,List.length_cons,List.length_nil,Nat.reduceAdd,Nat.reduceSub,Array.replicate_succ,Array.replicate_zero,List.push_toArray,List.append_toArray,List.nil_append,List.cons_append];have Hc:=zh hc;have HI:=zh hI;clear hc hI
 gi_wp2
 have hW0:(w.alloc (.cells #[.slice none 0 0] 28)).heap.size=w.heap.size+1:=by simp
 refine wpIn_rangeFunc_ownG rfl jN (gf:=207) (lb:=#[.pointer (some ⟨Bs,0,none⟩)]) rfl trivial (enters_of Tryz.func207 (by kernel_rfl) rfl)
  (Ce Fence.wide (n-1) trivial rfl (by omega) Bs sv xs w Hc.out HI.out) fA.t (fA.b (by simp)) (ao _ _) (fun _=>rfl)
  (JY w.heap.size w)
  (fun _ _ _=>False)
  (JZ w.heap.size w (Nat.le_refl _) _ (by simp))
  (fun _ _ _ _ _ hs _ _=>hs)
  ⟨⟨_,Boxed.new w _ _,iP _ _⟩,ao _ _,by simp⟩
  (fun x => { tmps:=#[.slice none 0 0,.func (.func 207) #[] #[.pointer (some ⟨Bs,0,none⟩)],.pointer (some ⟨w.heap.size,0,none⟩),undef,.slice none 0 0,.int .i64 x,.func (.func 207) #[] #[.pointer (some ⟨Bs,0,none⟩)],.int .i64 x,undef,undef,undef,undef,undef],defers:=[] }) ?assign ?body ?done ?stop
 case assign=>
  intro l x W K hK;unfold JX
  gi_wp2
  exact hK
 case body=>
  rintro lr pre x W ⟨⟨v,bJ,aC⟩,hB,V8⟩ aH
  obtain⟨g',c',w2,dO,Cf,V9,Ec⟩:=aai (w:=W.alloc (.cells #[.int .i64 x] 3)) (aC.ac2 (ao W _)) x 28 W.heap.size (by simp) (by omega) (by simp;omega)
  have lK:=bJ.cell;obtain⟨k2,s1,s2,s3⟩:=yZ bJ aC hB V8 Cf V9;have kq:=k2.cell;have Bu:=k2.frozen
  have zR:vy Tryz.prog 28 v (Value.slice (some { block:=W.heap.size,off:=0 }) 1 1) (W.alloc (Obj.cells #[Value.int IntKind.i64 x] 3))=.ok (.value (Value.slice (some { block:=g',off:=0 }) (pre.length+1) c')) w2:=by unfold vy;rw[dO];rfl
  have s0:=s1;rw[<- hW0]at s0;clear dO bJ aC hB Cf V9 Ec k2 s1 hW0
  generalize hpn:pre.length=pn at *
  gi_wp2_with (gi_at_builtin;refine zK (.tmp 8) (.tmp 10) rfl rfl _ w2 zR ?_)
  exact⟨s0,s2,s3⟩
 case done=>
  rintro D ys W hD rfl ⟨⟨v,bJ,aC⟩,hB,V8⟩ hK;simp only[hW0]at hD;have lK:=bJ.cell;have HO:=zh aC;have HB:=zh hB;have HK:=zh hK;have kP:=zh bJ;clear aC hB hK bJ
  gi_wp2
  refine⟨by simp,.inl ⟨_,_,rfl,run_takeDeferred HK.out,?_⟩⟩;exact⟨_,results_tmp rfl _ _ _,v,rfl,DT (HO.out.mono (by omega)) _ HK.out rfl,HB.out.trans (belowK_b (w:=w) (Nat.le_refl _) W D _ _ (by omega) HK.out rfl rfl)⟩
 case stop=>
  rintro D c pre W _ _ h _;exact h.elim
theorem Eg (n:Nat) (hn:4<=n) (Bs:Nat) (sv:Value) (xs:List Int) (w:World) (hc:w.cell? ⟨Bs,0,none⟩=some sv) (hI:bO w sv xs) (hl:xs.length<=1000):
  CallsIn Fence.wide n Tryz.prog 206 #[.func (.func 207) #[] #[.pointer (some ⟨Bs,0,none⟩)]] w fun e W'=>∃v,e=.returned v/\Own W' w.heap.size v xs/\Below w.heap.size w W':=by
 have Hc:=zh hc;have HI:=zh hI;clear hc hI;have jN:1<=n:=by omega
 refine callsIn_of_wp Tryz.func206 rfl trivial ?_ rfl
 simp only[Tryz.ntmps206,List.size_toArray,List.length_cons,List.length_nil,Nat.reduceAdd,Nat.reduceSub,Array.replicate_succ,Array.replicate_zero,List.push_toArray,List.append_toArray,List.nil_append,List.cons_append]
 gi_wp2_with (refine⟨trivial,?_⟩;gi_at_call 216;refine(Ih (n-1) (by omega) Bs sv xs _ Hc.out HI.out hl).mono ?_;rintro e w1 ⟨v,rfl,ho,hb⟩)
 go_ret;exact⟨_,rfl,ho,hb⟩
theorem Ii (n:Nat) (hn:5<=n) (Bs:Nat) (sv:Value) (xs:List Int) (w:World) (hc:w.cell? ⟨Bs,0,none⟩=some sv) (hI:bO w sv xs) (hl:xs.length<=1000):
  CallsIn Fence.wide n Tryz.prog 182 #[.func (.func 207) #[] #[.pointer (some ⟨Bs,0,none⟩)]] w fun e W'=>∃v,e=.returned v/\Own W' w.heap.size v (du xs)/\Below w.heap.size w W':=by
 have Hc:=zh hc;have HI:=zh hI;clear hc hI;have jN:1<=n:=by omega
 refine callsIn_of_wp Tryz.func182 rfl trivial ?_ rfl
 simp only[Tryz.ntmps182,List.size_toArray,List.length_cons,List.length_nil,Nat.reduceAdd,Nat.reduceSub,Array.replicate_succ,Array.replicate_zero,List.push_toArray,List.append_toArray,List.nil_append,List.cons_append]
 gi_wp2_with (refine⟨trivial,?_⟩;gi_at_call 206;refine(Eg (n-1) (by omega) Bs sv xs _ Hc.out HI.out hl).mono ?_;rintro e w1 ⟨v,rfl,ho,hb⟩)
 have Ho:=zh ho;have Hb:=zh hb;clear ho hb
 gi_wp2_with (refine⟨trivial,(callsIn_wide.2 (vx _ xs _ _ Ho.out (by omega))).mono ?_⟩;rintro e w2 ⟨rfl,dW,Ec⟩)
 go_ret;exact⟨_,rfl,dW,Hb.out.grown Ec Hb.out.size (fun k e=>(World.ownsRow.lt Ho.out k e).1)⟩
section
variable {ops : Array Oper} {rest : List Oper} {o : Oper} {a : Act} {Q : Exit → Act → World → Prop}
end
section
variable {ops : Array Oper} {rest : List Oper} {o : Oper} {a : Act} {Q : Exit → Act → World → Prop}
end
section
variable {ops : Array Oper} {rest : List Oper} {o : Oper} {a : Act} {Q : Exit → Act → World → Prop}
end
section
open Go.ChangeShapes Go.WideShapes Go.ChangeAt Go.Joins Go.Deep
variable {H : Type} {enc : TypeId × Value → H} {W : World}
end
structure ASt where
 rounds:List Int
 before:List Int
 now:List Int
 adS:List (List Int)
 adM:List (List (List (Int×Int)))
theorem ej.put {β:Type} {R:World->Nat->Value->β->List Nat->Prop} (L:ej R) {w:World} {base:Nat} {v:Value} {x:β} {S:List Nat} (h:R w base v x S) {p:Addr} (hp:p.block<base) (u:Value):R (w.setCell p u) base v x S:=L.ac4 h fun k hk=>Below.heap_setCell _ _ _ _ (by have:=(L.range h k hk).1;omega)
theorem gt (w:World) (p:Addr) (u:Value):(w.setCell p u).heap.size=w.heap.size:=by simp[World.setCell]
def cC (w:World) (b:Nat) (vs:Array Value):Prop:=∃r,w.heap[b]?=some (.cells vs r)
theorem cC.lt {w:World} {b:Nat} {vs:Array Value} (h:cC w b vs):b<w.heap.size:=by
 obtain⟨r,h⟩:=h;exact(Array.getElem?_eq_some_iff.1 h).1
theorem cC.below {w w':World} {B b:Nat} {vs:Array Value} (h:cC w b vs) (hb:Below B w w') (hB:b<B):cC w' b vs:=by
 obtain⟨r,h⟩:=h
 exact⟨r,by rw[hb.block b hB];exact h⟩
theorem cC.set {w:World} {b:Nat} {vs:Array Value} {u:Value} {p:Addr} (h:cC w b vs) (ha:p.block≠b):cC (w.setCell p u) b vs:=by
 obtain⟨r,h⟩:=h
 exact⟨r,by rw[Below.heap_setCell _ _ _ _ (fun e=>ha e.symm)];exact h⟩
theorem cC.cell {w:World} {b:Nat} {vs:Array Value} (h:cC w b vs) (i:Nat) (u:Value) (hi:vs[i]?=some u):w.cell? ⟨b,i,none⟩=some u/\w.frozen? ⟨b,i,none⟩=false:=by
 obtain⟨r,h⟩:=h;exact⟨by simp[World.cell?,h,hi],by simp[World.frozen?,h]⟩
theorem cC.alloc {w:World} {b:Nat} {vs:Array Value} (h:cC w b vs) (o:Obj):cC (w.alloc o) b vs:=h.below (ao w o) h.lt
theorem cC.new (w:World) (vs:Array Value) (t:TypeId):cC (w.alloc (.cells vs t)) w.heap.size vs:=⟨t,by show(w.heap.push _)[w.heap.size]?=_;rw[Array.getElem?_push_size]⟩
structure Cl where
 state:Int
 inbox:List Int
 next:Int
section
variable {ops : Array Oper} {rest : List Oper} {o : Oper} {a : Act} {Q : Exit → Act → World → Prop}
end
def di (w:World) (a b:Value) (x:az):Prop:=a_ w a x.nodes/\a_ w b x.ac3
theorem di.ac2 {w w':World} {a b:Value} {x:az} (h:di w a b x) (hb:Below w.heap.size w w'):di w' a b x:=⟨h.1.ac2 hb,h.2.ac2 hb⟩
def ks (x:az):Nat:=oc x.nodes+oc x.ac3
structure Mac where
 degree:Int
 adQ:Int
 messages:Int
 start:List (List Int)
 send:List (List Int)
 clauses:List Cl
 output:List Int
def mI (lP l:List Int) (i k:Nat):Prop:=∃(A:List Int) (x:Int) (B C:List Int),l=A++x::(B++C)/\A.length=k/\A.length+B.length=i/\(A++B).Pairwise (· <= ·)/\(∀b∈B,x<=b)/\l.Perm lP
def rx (lP l:List Int) (i:Nat):Prop:=(l.take i).Pairwise (· <= ·)/\l.Perm lP
theorem Ij {lP l:List Int} {i:Nat} (h:rx lP l i) (hi:i<l.length):mI lP l i i:=by
 refine⟨l.take i,l[i],[],l.drop (i+1),?_,by simp;omega,by simp;omega,by simpa using h.1,by simp,h.2⟩
 rw[List.nil_append,<- List.drop_eq_getElem_cons hi,List.take_append_drop]
theorem zS {A B:List Int} {x:Int} (h:(A++B).Pairwise (· <= ·)) (ha:∀a∈A,a<=x) (hb:∀b∈B,x<=b):(A++x::B).Pairwise (· <= ·):=by
 rw[List.pairwise_append]at h ⊢;refine⟨h.1,List.pairwise_cons.2 ⟨hb,h.2.1⟩,?_⟩;intro a ha' b hb';rcases List.mem_cons.1 hb' with rfl | hb'
 ·exact ha a ha'
 ·exact h.2.2 a ha' b hb'
theorem Cg {lP l:List Int} {i k:Nat} (h:mI lP l i k) (hk:k=0\/∃y x,l[k-1]?=some y/\l[k]?=some x/\y<=x):rx lP l (i+1):=by
 obtain⟨A,x,B,C,rfl,h1,h2,h3,h4,h5⟩:=h;refine⟨?_,h5⟩
 have e:(A++x::(B++C)).take (i+1)=A++x::B:=by
  rw[show A++x::(B++C)=(A++x::B)++C by simp,List.take_append_of_le_length (by simp;omega),List.take_of_length_le (by simp;omega)]
 rw[e];refine zS h3 ?_ h4;intro a ha;rcases hk with hk | ⟨y,z,hy,hz,hyz⟩
 ·obtain rfl:A=[]:=List.eq_nil_of_length_eq_zero (by omega)
  simp at ha
 ·have hz':z=x:=by
   rw[List.getElem?_append_right (by omega),<- h1]at hz;simpa using hz.symm
  subst hz';obtain⟨j,hj,rfl⟩:=List.mem_iff_getElem.1 ha;have hA:A.Pairwise (· <= ·):=(List.pairwise_append.1 h3).1;rw[List.getElem?_append_left (by omega)]at hy;obtain⟨hl,he⟩:=List.getElem?_eq_some_iff.1 hy;rcases Nat.lt_or_ge j (k-1)with aH | hge
  ·have:=List.pairwise_iff_getElem.1 hA j (k-1) hj hl aH
   omega
  ·obtain rfl:j=k-1:=by omega
   omega
theorem J5 {lP l:List Int} {i k:Nat} {x y:Int} (h:mI lP l i (k+1)) (hy:l[k]?=some y) (hx:l[k+1]?=some x) (M8:x<y):mI lP ((l.set (k+1) y).set k x) i k:=by
 obtain⟨A,x',B,C,rfl,h1,h2,h3,h4,h5⟩:=h
 have Bm:x'=x:=by
  rw[List.getElem?_append_right (by omega),<- h1]at hx;simpa using hx
 subst Bm;rw[List.getElem?_append_left (by omega)]at hy;obtain⟨hl,he⟩:=List.getElem?_eq_some_iff.1 hy
 obtain⟨A',hA⟩:∃A',A=A'++[y]:=by
  refine⟨A.take k,?_⟩
  have:A.take (k+1)=A:=List.take_of_length_le (by omega)
  have e2:=List.take_succ_eq_append_getElem hl;rw[this,he]at e2;exact e2
 subst hA;simp only[List.length_append,List.length_cons,List.length_nil,Nat.zero_add]at h1 h2;have hk:A'.length=k:=by omega
 have e:((A'++[y]++x'::(B++C)).set (k+1) y).set k x'=A'++x'::((y::B)++C):=by
  rw[show A'++[y]++x'::(B++C)=A'++(y::x'::(B++C))by simp,List.set_append_right _ _ (by omega),List.set_append_right _ _ (by omega),hk]
  simp
 rw[e]
 refine⟨A',x',y::B,C,rfl,hk,by simp;omega,by simpa using h3,?_,?_⟩
 ·intro b hb;rcases List.mem_cons.1 hb with rfl | hb
  ·omega
  ·exact h4 b hb
 ·refine List.Perm.trans ?_ h5;rw[show A'++[y]++x'::(B++C)=A'++(y::x'::(B++C))by simp]
  exact List.Perm.append_left _ (List.Perm.swap _ _ _)
theorem Eh {lP l:List Int} (h:rx lP l l.length):l=du lP:=by
 have h1:=h.1;rw[List.take_length]at h1;exact oa (h.2.trans (iq _).symm) h1 (fP _)
theorem NS {lP l:List Int} {i k:Nat} (h:mI lP l i k):l.length=lP.length/\k<=i/\i<l.length:=by
 obtain⟨A,x,B,C,rfl,h1,h2,h3,h4,h5⟩:=h
 refine⟨h5.length_eq,by omega,by simp;omega⟩
end Go.Proofs.YtnioemnkfojmkaaGreat
