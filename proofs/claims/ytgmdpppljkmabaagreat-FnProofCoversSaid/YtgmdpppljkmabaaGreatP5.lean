/- Parts of the proof: walks of functions and plain laws. -/
import Derived.Test.YtgmdpppljkmabaaGreatP0
import Derived.Test.YtgmdpppljkmabaaGreatP3
import Derived.Lib.SliceRun
import Derived.Test.YtgmdpppljkmabaaGreatP1
import Derived.Test.YtgmdpppljkmabaaGreatP4
import Derived.Test.YtgmdpppljkmabaaGreatP2
set_option maxRecDepth 100000
set_option maxHeartbeats 16000000
namespace Go.Proofs.YtgmdpppljkmabaaGreat
open Go Go.RowKit
theorem Own.cut {w:World} {base g n c:Nat} {xs:List Int} (h:Own w base (.slice (some ⟨g,0,none⟩) n c) xs) (i:Nat) (hi:i<=n):Own w base (.slice (some ⟨g,0,none⟩) i c) (xs.take i):=by
 obtain rfl:=h.len
 unfold Own at *
 have hl:(xs.take i).length=i:=by simp;omega
 rw[hl];rcases h.2 with⟨h',_⟩ | ⟨g',cap,cur,h',hb,hg,s8,hm,pX,tA⟩
 ·simp at h'
 ·simp only[Value.slice.injEq,Option.some.injEq,Addr.mk.injEq,and_true,true_and]at h';obtain⟨rfl,rfl,rfl⟩:=h'
  refine⟨by simp;omega,.inr ⟨g,c,cur,rfl,hb,hg,by omega,hm,pX,?_⟩⟩
  rw[List.map_take,<- tA,List.take_take];congr 1
  simp;omega
theorem Own.clear {base g n c:Nat} (m:Nat):∀ {w:World} {xs:List Int} (o:Nat),Own w base (.slice (some ⟨g,0,none⟩) n c) xs->∃ys,Own (w.setCells g o (List.replicate m (.int .i64 0))) base (.slice (some ⟨g,0,none⟩) n c) ys/\ys.take o=xs.take o:=by
 induction m with
 | zero=>intro w xs o h;exact⟨xs,h,rfl⟩
 | succ m ih=>
  intro w xs o h;obtain⟨ys,h1,h2⟩:=ih (o+1) (h.set (k:=o) 0);refine⟨ys,h1,?_⟩
  have:=congrArg (List.take o) h2
  rw[List.take_take,List.take_take,Nat.min_eq_left (by omega)]at this;rw[this];apply List.ext_getElem?
  intro j;rw[List.getElem?_take,List.getElem?_take]
  split
  ·rw[List.getElem?_set_ne (by omega)]
  ·rfl
theorem Az {w0:World} {g:Nat} (hg:w0.heap.size<=g) (vs:List Value):∀(w:World) (o:Nat),ab w0 w->ab w0 (w.setCells g o vs):=by
 induction vs with
 | nil=>intro w o h;exact h
 | cons v vs ih=>intro w o h;exact ih _ _ (Below.setCell h hg v)
def fB (p:Int->Bool) (xs:List Int):List Int:=xs.filter fun x => !p x
theorem yr (p:Int->Bool) (xs:List Int):(fB p xs).length<=xs.length:=List.length_filter_le _ _
theorem tT (v:Value) (xs:List Int) (vW:FuncId) (oX:Array Value) (p:Int->Bool) (w w0:World) (h:Own w w0.heap.size v xs) (hs:ab w0 w) (hl:xs.length<=17592186044416) (lW:∀args w,(callFunc vW args).run Tryz.prog w=.ok (.enter vW args) w)
  (hp:mH w0 vW oX p xs):Calls Tryz.prog 100 #[v,.func (.func vW) #[] oX] w fun e w'=>∃u,e=.returned u/\Own w' w0.heap.size u (fB p xs)/\ab w0 w':=by
 have Hp:=zh hp;have HI:=zh h.ints;have hI:=oD v xs vW oX p w h.ints lW (hp.keep hs);have Qi:=zh hI;have eg:=lW;cases tE:xs.any p
 ·have e1:yf p xs = -1:=xl tE
  have e2:fB p xs=xs:=by
   unfold fB;rw[List.filter_eq_self];intro x hx;rw[List.any_eq_false]at tE;simpa using tE x hx
  rw[e2];rw[e1]at Qi;have Ho:=zh h;have Hs:=zh hs;clear h hs hI tE e1 e2 hp lW
  go_enter Tryz.func100,Tryz.ntmps100
  go_wp2_with fail;refine Qi.out.mono ?_;rintro e w1 ⟨rfl,aN⟩;have gO:=zh aN;clear aN;go_wp2;go_ret;exact⟨_,rfl,Ho.out.keep gO.out,ab.trans Hs.out gO.out⟩
 ·rcases h.cases with⟨rfl,rfl⟩ | ⟨g,c,rfl,kE,l7⟩
  ·simp at tE
  ·obtain⟨k0,x0,Fc,lp,jH⟩:∃k x,xs[k]?=some x/\p x=true/\(xs.take k).any p=false:=by
    cases hf:xs.findIdx? p with
    | none=>
     rw[List.findIdx?_eq_none_iff]at hf;rw[List.any_eq_true]at tE;obtain⟨x,hx,zV⟩:=tE
     rw[hf x hx]at zV;cases zV
    | some i=>
     rw[List.findIdx?_eq_some_iff_getElem]at hf;obtain⟨hi,OX,bH⟩:=hf;refine⟨i,xs[i],List.getElem?_eq_getElem hi,OX,?_⟩;rw[List.any_eq_false];intro x hx;obtain⟨j,hj,rfl⟩:=List.mem_take_iff_getElem.1 hx;simpa using bH j (by omega)
   have e1:yf p xs=k0:=tD Fc lp jH;have abN:=al Fc
   have e2:fB p (xs.take (k0+1))=xs.take k0:=by
    rw[aV Fc];unfold fB
    rw[List.filter_append,List.filter_eq_self.2 (fun x hx=>by rw[List.any_eq_false]at jH;simpa using jH x hx)]
    simp[lp]
   rw[e1]at Qi;have hm:=h.bd;unfold maxLen at hm;have Ho:=zh h;have Hs:=zh hs;have E2:=zh e2;have wh:((k0:Int) == -1)=false:=beq_eq_false_iff_ne.2 (by omega)
   have p8:Hid (∀j,(fB p (xs.take j)).length<=j):=fun j=>Nat.le_trans (yr _ _) (by simp;omega)
   clear h hs hI tE e1 e2 hp lW Fc lp jH
   go_enter Tryz.func100,Tryz.ntmps100
   go_wp2_with fail;refine Qi.out.mono ?_;rintro e w1 ⟨rfl,aN⟩;have gO:=zh aN;clear aN;go_wp2
   go_loopw [5,6] (fun i j wr=>∃(jn:Nat) (ys:List Int),k0<jn/\jn<=xs.length/\j=.int .i64 jn/\i=.int .i64 ((fB p (xs.take jn)).length:Nat)/\(fB p (xs.take jn)).length<jn/\Own wr w0.heap.size (.slice (some ⟨g,0,none⟩) xs.length c) ys/\ys.length=xs.length/\ys.take (fB p (xs.take jn)).length=fB p (xs.take jn)/\ys.drop jn=xs.drop jn/\ab w0 wr) (fun _ j _=>xs.length-(intOf j).toNat)
   case atStart=>
    have e3:(fB p (xs.take (k0+1))).length=k0:=by rw[E2.out];simp;omega
    exact⟨k0+1,xs,by omega,by omega,by go_num,by rw[e3],by omega,Ho.out.keep gO.out,rfl,by rw[e3,E2.out],rfl,ab.trans Hs.out gO.out⟩
   case round=>
    obtain⟨jn,ys,rz,xm,rfl,rfl,Sr,ho,MJ,ht,CL,bG⟩:=hrel
    generalize hi:(fB p (xs.take jn)).length=i at *
    have fG:=zh ho;have MK:=zh MJ;have Ht:=zh ht;have Hdr:=zh CL;have Hi:=zh hi;have le:=zh bG
    by_cases az:jn<xs.length
    ·obtain⟨x,hx⟩:=aA xs jn az
     have xr:ys[jn]?=some x:=by
      have:=congrArg (fun l=>l[0]?) CL
      simp only[List.getElem?_drop,Nat.add_zero]at this
      rw[this];exact hx
     have cx:=ho.cell xr;obtain⟨z,hz⟩:=aA ys i (by omega);have cz:=ho.cell hz;have fz:=ho.free i;have Hx:=zh hx
     have Sw:Hid (fB p (xs.take (jn+1))=fB p (xs.take jn)++if p x then [] else [x]):=by
      show _=_
      rw[aV hx];unfold fB;rw[List.filter_append];congr 1
      cases zV:p x <;> simp[zV]
     clear ho MJ ht CL hi bG hx xr hz;cases zV:p x
     ·have F8:=zh zV;clear zV;go_wp2_with fail;refine(Hp.out x (List.mem_of_getElem? Hx.out) _ le.out).mono ?_;rintro e w2 ⟨rfl,bx⟩;rw[F8.out];have ex:=fG.out.keep bx;have cz2:=bc bx cz;have fz2:=ex.free i;have jy:=zh (ex.set (k:=i) x);have gZ:=zh (Below.setCell (p:=⟨g,i,none⟩) (ab.trans le.out bx) kE (.int .i64 x));clear bx ex cz cx fz;go_wp2;go_roundw
      case rel=>
       refine⟨jn+1,ys.set i x,by omega,by omega,by go_num,?_,?_,jy.out,by simp[MK.out],?_,?_,gZ.out⟩
       ·rw[Sw.out,F8.out];simp[Hi.out]
       ·rw[Sw.out,F8.out];simp[Hi.out];omega
       ·rw[Sw.out,F8.out];simp only[Bool.false_eq_true,if_false,List.length_append,List.length_cons,List.length_nil,Nat.zero_add,Hi.out]
        have iE:(ys.set i x)[i]?=some x:=by rw[List.getElem?_set_self (by have:=MK.out;omega)]
        rw[aV iE];congr 1
        rw[<- Ht.out];apply List.ext_getElem?
        intro q;rw[List.getElem?_take,List.getElem?_take]
        split
        ·rw[List.getElem?_set_ne (by omega)]
        ·rfl
       ·have:=congrArg (List.drop 1) Hdr.out
        rw[List.drop_drop,List.drop_drop]at this;rw[<- this];apply List.ext_getElem?
        intro q;rw[List.getElem?_drop,List.getElem?_drop,List.getElem?_set_ne (by omega)]
      case measure=>simp[intOf];omega
     ·have F8:=zh zV;clear zV;go_wp2_with fail;refine(Hp.out x (List.mem_of_getElem? Hx.out) _ le.out).mono ?_;rintro e w2 ⟨rfl,bx⟩;rw[F8.out];have jy:=zh (fG.out.keep bx);have gZ:=zh (ab.trans le.out bx);clear bx cz cx fz;go_wp2;go_roundw
      case rel=>
       refine⟨jn+1,ys,by omega,by omega,by go_num,by rw[Sw.out,F8.out];simp[Hi.out],by rw[Sw.out,F8.out];simp[Hi.out];omega,jy.out,MK.out,by rw[Sw.out,F8.out];simp[Hi.out,Ht.out],?_,gZ.out⟩
       have:=congrArg (List.drop 1) Hdr.out
       rwa [List.drop_drop,List.drop_drop]at this
      case measure=>simp[intOf];omega
    ·obtain rfl:jn=xs.length:=by omega
     have eG:∀ty,(Builtin.clear_ #[25] ty #[.slice (some ⟨g,i,none⟩) (xs.length-i) (c-i)]).run Tryz.prog wr=.ok (.tuple #[]) (wr.setCells g i (List.replicate (xs.length-i) (.int .i64 0))):=
      fun ty=>Lib.run_clear_slice wr _ _ ty _ Tryz.underlying25 (fun w=>by kernel_rfl) rfl rfl g i _ _ (by omega) (fun t ht'=>by
       obtain⟨z,hz⟩:=aA ys (i+t) (by omega)
       rw[ho.cell hz];rfl) (fun t ht'=>ho.free _)
     obtain⟨zs,dh,dt⟩:=ho.clear (m:=xs.length-i) (w:=wr) i;have IH:=zh (dh.cut i (by omega));have Gk:=zh dt;have gZ:=zh (Az kE (List.replicate (xs.length-i) (.int .i64 0)) wr i bG)
     have s8:xs.length<=c/\c<=9223372036854775807:=by
      rcases ho.2 with⟨h',_⟩ | ⟨g',cap,cur,h',hb,hg,s8,hm,pX,tA⟩
      ·simp at h'
      ·simp only[Value.slice.injEq,Option.some.injEq,Addr.mk.injEq,and_true]at h';unfold maxLen at hm;omega
     obtain⟨s8,yt⟩:=s8;have hic:i<=c:=by omega
     clear ho MJ ht CL hi bG dh dt az rz xm hl;go_wp2;go_ret;refine⟨_,rfl,?_,gZ.out⟩;have h1:=IH.out;rw[Gk.out,Ht.out,List.take_length]at h1;exact h1
theorem Own.grown {w w':World} {base:Nat} {v:Value} {xs:List Int} {row:Option Nat} (h:Own w base v xs) (hg:w.grownBy w' row) (hd:∀q,v.ownBlock=some q->row≠some q):Own w' base v xs:=
 aG h fun q hq=>hg.block q (World.ownsRow.lt h q (by simpa using hq)).2 (fun e=>hd q (by simpa using hq) e.symm)
theorem AA {w:World} {ops:Array Oper} {rest:List Oper} {o:Oper} {a:Act} {Q:Exit->Act->World->Prop} (iG:o.guard=none) (s x:Operand)
  (ho:o.op=.call { callee:=.builtin .append,args:=#[s,x],argTypes:=#[25,25] }) {base:Nat} {v:Value} {xs:List Int} (hs:a.eval s=v) (h:Own w base v xs) (b off c:Nat) (ys:List Int)
  (hx:a.eval x=.slice (some ⟨b,off,none⟩) ys.length c) (hc:∀j y,ys[j]?=some y->w.cell? ⟨b,off+j,none⟩=some (.int .i64 y)) (hy:0<ys.length) (hl:xs.length+ys.length<=17592186044416) (gY:base<=w.heap.size)
  (k:∀g cap w',Own w' base (.slice (some ⟨g,0,none⟩) (xs.length+ys.length) cap) (xs++ys)->w.grownBy w' v.ownBlock->(v.ownBlock=some g\/g=w.heap.size)->g<w'.heap.size->wpList Tryz.prog ops Q rest (a.put o.dst (.slice (some ⟨g,0,none⟩) (xs.length+ys.length) cap)) w'):wpList Tryz.prog ops Q (o::rest) a w:=by
 obtain⟨i0,hi,gx,dh,dt⟩:=info_parts jt
 refine wpList_append_lies w iG s x 25 ho base 3 i0 (.int .i64 0) 1 8 Tryz.underlying25 hi gx dh dt rfl (by decide) v xs.length (xs.map (Value.int .i64)) hs h ⟨b,off,none⟩ ys.length c (ys.map (Value.int .i64)) hx (by simp)
  (by
   intro j u hj;rw[List.getElem?_map]at hj
   cases ZI:ys[j]? with
   | none=>rw[ZI]at hj;simp at hj
   | some y=>
    rw[ZI]at hj;simp at hj
    subst hj;rw[Go.Addr.add_lit]
    exact hc j y ZI) (by simp[Value.oneCell']) hy (by unfold maxLen;omega) (by omega) gY w.heap.size rfl ?_
 intro g cap w' h1 h2 h3 h4;refine k g cap w' ?_ h2 h3 h4;unfold Own;simpa using h1
theorem Gl (v:Value) (xs:List Int) (w:World) (h:aO w v xs) (h0':0<xs.length) (hl:xs.length<=17592186044416):
  Calls Tryz.prog 179 #[v] w fun e w'=>∃u,e=.returned u/\Own w' w.heap.size u xs/\Below w.heap.size w w':=by
 obtain⟨A,c,rfl,fg,hm,hA⟩:=h;unfold maxLen at hm;have ho:=fD w [] (by simp[maxLen]);simp only[List.map_nil,List.length_nil]at ho;obtain⟨y0,II⟩:=aA xs 0 (by omega);obtain⟨b,off,rfl,_⟩:=hA 0 y0 II
 have HA:Hid (∀j y,xs[j]?=some y->w.cell? ⟨b,off+j,none⟩=some (.int .i64 y)):=fun j y hj=>by
  obtain⟨b',n7,e,hc⟩:=hA j y hj;cases e;exact hc
 have Ho:=zh ho;clear hA II ho
 go_enter Tryz.func179,Tryz.ntmps179
 go_wp2_with (at_builtin;refine AA rfl _ _ rfl rfl Ho.out b off c xs rfl (fun j y hj=>bc (ai _ _) (HA.out j y hj)) h0' (by simpa using hl) (by simp) ?_;intro g cc w2 cZ l7 _ _)
 simp only[List.length_nil,Nat.zero_add,List.nil_append]at cZ ⊢
 have fG:=zh cZ;have sG:Hid (Below w.heap.size w w2):=(ai w _).grown l7 (by simp) (fun j hj=>(World.ownsRow.lt Ho.out j hj).1)
 clear cZ l7;go_wp2;go_ret;exact⟨_,rfl,fG.out,sG.out⟩
def I1 (W:World) (b:Nat) (x:Int):Prop:=W.heap[b]?=some (.cells #[.int .i64 x] 3)
theorem I1.cells {W:World} {b:Nat} {x:Int} (h:I1 W b x):W.cell? ⟨b,0,none⟩=some (.int .i64 x)/\W.frozen? ⟨b,0,none⟩=false:=by
 unfold I1 at h;simp[World.cell?,World.frozen?,h]
theorem I1.lt {W:World} {b:Nat} {x:Int} (h:I1 W b x):b<W.heap.size:=(Array.getElem?_eq_some_iff.1 h).1
theorem I1.since {W W':World} {b:Nat} {x:Int} (h:I1 W b x) (hs:ab W W'):I1 W' b x:=(hs.below.block b h.lt).trans h
theorem I1.set {W:World} {b:Nat} {x:Int} (h:I1 W b x) (y:Int):I1 (W.setCell ⟨b,0,none⟩ (.int .i64 y)) b y:=by
 unfold I1 at *
 simp[World.setCell,Array.getElem?_modify,h]
theorem I1.new (W:World) (x:Int):I1 (W.alloc (.cells #[.int .i64 x] 3)) W.heap.size x:=by
 show(W.heap.push _)[W.heap.size]?=_
 rw[Array.getElem?_push_size]
theorem Jt (ev:Operand->Value) (d:Option Tmp) (ty:TypeId) (pos:String) (af:Array Edge) (W:World):(execOp ev ⟨d,.alloc 3,ty,pos,af,none⟩).run Tryz.prog W=.ok (.value (Mw W.heap.size)) (W.alloc (.cells #[.int .i64 0] 3)):=by
 unfold Mw
 go_simp
theorem Gm (ev:Operand->Value) (ty:TypeId) (pos:String) (af:Array Edge) (W:World) (p x:Operand) (b:Nat) (q1:Value) (y1:Int) (h1:ev p=Mw b) (h2:ev x=.int .i64 y1) (h3:W.cell? ⟨b,0,none⟩=some q1) (h5:W.frozen? ⟨b,0,none⟩=false):
  (execOp ev ⟨none,.store 3 p x,ty,pos,af,none⟩).run Tryz.prog W=.ok .skip (W.setCell ⟨b,0,none⟩ (.int .i64 y1)):=by
 unfold Mw at h1
 go_simp
theorem AB {W:World} {base b:Nat} {u:Value} {xs:List Int} (h:Own W base u xs) (hd:u.ownBlock≠some b) (v:Value):Own (W.setCell ⟨b,0,none⟩ v) base u xs:=
 aG h fun k hk=>Below.heap_setCell W _ v k (fun e=>hd (by simp at hk;rw[hk,e]))
section
variable {ops : Array Oper}
theorem tU {Q:Exit->Act->World->Prop} {Dr:Nat} {a:Act} {w w0:World} (m d x c s:Nat) (y:Int) (xs:List Int) (hm:Tryz.prog.follows .mixedOrders=true) (hf:p7 ops (m+4)=true) (fO:ops.size=m+4) (aU:ab w0 w) {oc:Oper} (s0:ops[m]?=some oc) (TL:oc.dst=some c)
  (s1:∃ty pos af,ops[m+1]?=some ⟨some d,.alloc 3,ty,pos,af,none⟩) (s2:∃ty pos af,ops[m+2]?=some ⟨none,.store 3 (.tmp d) (.tmp x),ty,pos,af,none⟩) (s3:∃ty pos af,ops[m+3]?=some ⟨some s,.assign (.tmp c),ty,pos,af,none⟩)
  (hx:x≠d/\x≠c/\x≠s) (hd:d<a.tmps.size) (hc:c<a.tmps.size)
  (h:kS Tryz.prog ops w0 (fun A=>A.eval (.tmp x)=.int .i64 y/\(Region.wanted oc (yielded ops A.tmps)=true/\∀W,ab w0 W->j9 Tryz.prog (fun W' u=>Own W' W.heap.size u xs) oc A W) /\
   ∀u b W,ab w0 W->Own W w0.heap.size u xs->I1 W b y->Q .normal (((A.put (some c) u).put (some d) (Mw b)).put (some s) u) W) (ops.toList.take m) a):(Code.region Dr ops true).wp Tryz.prog Q a w:=by
 have ge:=nG hf;obtain⟨acp,F,h0,⟨pN,⟨pf,kE⟩,it⟩,tV⟩:=qd _ a h
 have g_:(ops.toList.take m).length=m:=by simp;omega
 rw[g_]at pN pf kE it
 have p9:∀i o,i<m->ops[i]?=some o->(ops.toList.take m)[i]?=some o:=fun i o hi ho=>by
  rw[List.getElem?_take,if_pos hi];simpa using ho
 obtain⟨ty1,ps1,af1,s1⟩:=s1;obtain⟨ty2,ps2,af2,s2⟩:=s2;obtain⟨ty3,ps3,af3,s3⟩:=s3
 have hF0:∀i,i<=m->aL a ops acp (fun j=>j<i) (F i):=by
  intro i
  induction i with
  | zero=>intro _;rw[h0];exact⟨rfl,rfl,fun j _ _ hj=>absurd hj (by omega),fun _ _=>rfl⟩
  | succ i ih=>
   intro hi;have yh:i<ops.size:=by omega
   have ho:ops[i]?=some ops[i]:=Array.getElem?_eq_getElem yh;rw[(tV i _ (p9 i _ (by omega) ho)).2]
   exact((ih (by omega)).put ho (fun j oj d hj ez hd gC=>by
    have:=ge.acB i _ (by omega) ho j oj (by omega) ez d hd gC
    omega)).same (fun j=>by show(j<i\/j=i)↔j<i+1;omega)
 let V:Value->Nat->Nat->Value:=fun u b j=>if j=m then u else if j=m+1 then Mw b else if j=m+3 then u else acp j
 have v0:∀u b,V u b m=u:=fun u b=>if_pos rfl
 have v1:∀u b,V u b (m+1)=Mw b:=fun u b=>by show(if m+1=m then _ else if m+1=m+1 then _ else _)=_;rw[if_neg (by omega),if_pos rfl]
 have v3:∀u b,V u b (m+3)=u:=fun u b=>by show(if m+3=m then _ else if m+3=m+1 then _ else if m+3=m+3 then _ else _)=_;rw[if_neg (by omega),if_neg (by omega),if_pos rfl]
 have vv:∀u b j,j<m->V u b j=acp j:=fun u b j hj=>by show(if j=m then _ else if j=m+1 then _ else if j=m+3 then _ else acp j)=_;rw[if_neg (by omega),if_neg (by omega),if_neg (by omega)]
 have hF:∀u b i,i<=m->aL a ops (V u b) (fun j=>j<i) (F i):=fun u b i hi=>(hF0 i hi).acp (fun j hj=>(vv u b j (by omega)).symm)
 refine vY hm ge.back (fun D a' W=>ab w0 W/\∃u b,aL a ops (V u b) D a'/\(D m->Own W w0.heap.size u xs)/\(D (m+1)->w0.heap.size<=b/\(D (m+2)->I1 W b y)/\(¬D (m+2)->I1 W b 0))/\(D m->D (m+1)->u.ownBlock≠some b)) ?_ ?_ ?_
 ·exact⟨ah aU,undef,0,⟨rfl,rfl,fun j _ _ hj=>hj.elim,fun _ _=>rfl⟩,fun h=>h.elim,fun h=>h.elim,fun h=>h.elim⟩
 ·rintro D a' W i o ⟨hW,u,b,iZ,hO,hB,iJ⟩ ho lB gD eG
  have d_:i<m+4:=by have:=(Array.getElem?_eq_some_iff.1 ho).1;omega
  have look:∀t∈o.looksAt ops,∀j oj,ops[j]?=some oj->oj.dst=some t->D j/\j<i:=fun t ht j oj ez hd=>by
   have De:j<m+4:=by have:=(Array.getElem?_eq_some_iff.1 ez).1;omega
   have:=ge.looks i o d_ ho t ht j oj De ez hd
   exact⟨gD j this,ge.back i o ho j this⟩
  have pi:∀j oj d,D j->ops[j]?=some oj->o.dst=some d->oj.dst≠some d:=fun j oj d hj ez hd gC=>by
   have De:j<m+4:=by have:=(Array.getElem?_eq_some_iff.1 ez).1;omega
   have:=ge.acB i o d_ ho j oj De ez d hd gC
   subst this;exact lB hj
  have old:∀j,(D j\/j=i)->j≠i->D j:=fun j h hj=>h.elim (fun h=>h) fun e=>absurd e hj
  rcases Nat.lt_or_ge i m with him | him
  ·obtain⟨⟨hw,dG⟩,-⟩:=tV i o (p9 i o him ho);obtain⟨he,tR⟩:=eX (ops:=ops) (a':=a') (A:=F i) (fun t ht=>iZ.agree (hF u b i (by omega)) t (fun j oj hj ez hd=>look t ht j oj ez hd)) (fun cs b=>ge.acA i o cs b ho)
   rw[if_pos (tR.trans hw)];unfold Oper.wp;rw[he,dG W hW];refine⟨hW,u,b,?_,fun h=>hO (old _ h (by omega)),fun h=>?_,fun h h'=>iJ (old _ h (by omega)) (old _ h' (by omega))⟩
   ·have:=iZ.put (i:=i) ho pi
    rwa [vv u b i him]at this
   ·obtain⟨q1,q2,q3⟩:=hB (old _ h (by omega));exact⟨q1,fun h=>q2 (old _ h (by omega)),fun h=>q3 fun hh=>h (.inl hh)⟩
  ·obtain rfl | rfl | rfl | rfl:i=m\/i=m+1\/i=m+2\/i=m+3:=by omega
   ·rw[s0]at ho;cases ho
    obtain⟨he,tR⟩:=eX (ops:=ops) (a':=a') (A:=F i) (fun t ht=>iZ.agree (hF u b i (Nat.le_refl _)) t (fun j oj hj ez hd=>look t ht j oj ez hd)) (fun cs b=>ge.acA i _ cs b s0)
    rw[if_pos (tR.trans pf)];unfold Oper.wp;rw[he];have kF:=kE W hW;unfold j9 at kF;have n3:¬D (i+3):=fun h=>lB (eG _ _ h s3 _ (ge.looks (i+3) _ (by omega) s3 c (by simp[Oper.looksAt,Op.operands]) i _ (by omega) s0 TL))
    have next:∀u' W',Own W' W.heap.size u' xs->ab W W'->ab w0 W'/\∃u b,aL a ops (V u b) (fun j=>D j\/j=i) (a'.put oc.dst u')/\((D i\/i=i)->Own W' w0.heap.size u xs)/\((D (i+1)\/i+1=i)->w0.heap.size<=b/\((D (i+2)\/i+2=i)->I1 W' b y)/\(¬(D (i+2)\/i+2=i)->I1 W' b 0))/\((D i\/i=i)->(D (i+1)\/i+1=i)->u.ownBlock≠some b):=fun u' W' hr hs=>by
     refine⟨hW.after hs,u',b,?_,fun _=>hr.mono hW.below.size,fun h=>?_,fun _ h=>?_⟩
     ·have:=(iZ.acy (v':=V u' b) (fun j De hj=>by
       rcases Nat.lt_or_ge j i with h | h
       ·rw[vv _ _ _ h,vv _ _ _ h]
       ·obtain rfl | rfl | rfl | rfl:j=i\/j=i+1\/j=i+2\/j=i+3:=by omega
        ·exact absurd hj lB
        ·rw[v1,v1]
        ·show(if i+2=i then _ else if i+2=i+1 then _ else if i+2=i+3 then _ else acp (i+2))=(if i+2=i then _ else if i+2=i+1 then _ else if i+2=i+3 then _ else acp (i+2))
         rw[if_neg (by omega),if_neg (by omega),if_neg (by omega),if_neg (by omega),if_neg (by omega),if_neg (by omega)]
        ·exact absurd hj n3)).put (i:=i) s0 pi
      rwa [v0]at this
     ·obtain⟨q1,q2,q3⟩:=hB (old _ h (by omega));exact⟨q1,fun h=>(q2 (old _ h (by omega))).since hs,fun h=>(q3 fun hh=>h (.inl hh)).since hs⟩
     ·obtain⟨q1,q2,q3⟩:=hB (old _ h (by omega))
      have rC:b<W.heap.size:=by
       by_cases h2:D (i+2)
       ·exact(q2 h2).lt
       ·exact(q3 h2).lt
      intro e
      have:=(World.ownsRow.lt hr b e).1
      omega
    generalize (execOp (F i).eval oc).run Tryz.prog W=r at kF ⊢
    cases r with
    | ok nx W'=>
     cases nx with
     | value u'=>exact next u' W' kF.1 kF.2
     | enter f args=>
      simp only at kF
      rw[Oper.upon_enter]
      exact kF.mono fun e lU ⟨u',z_,hr,hs⟩=>by subst z_;exact next u' lU hr hs
     | _=>exact kF.elim
    | halt x W'=>exact kF.elim
   ·rw[s1]at ho;cases ho
    rw[if_pos (show Region.wanted (⟨some d,.alloc 3,ty1,ps1,af1,none⟩:Oper) (yielded ops a'.tmps)=true from rfl)];unfold Oper.wp;rw[Jt];have n2:¬D (m+2):=fun h=>lB (eG _ _ h s2 _ (ge.looks (m+2) _ (by omega) s2 d (by simp[Oper.looksAt,Op.operands]) (m+1) _ (by omega) s1 rfl))
    refine⟨ad _ hW,u,W.heap.size,?_,fun h=>(hO (old _ h (by omega))).since (ad _ (aa _)),fun _=>⟨hW.below.size,fun h=>(n2 (old _ h (by omega))).elim,fun _=>I1.new W 0⟩,fun h _ e=>?_⟩
    ·have:=(iZ.acy (v':=V u W.heap.size) (fun j De hj=>by
      rcases Nat.lt_or_ge j m with h | h
      ·rw[vv _ _ _ h,vv _ _ _ h]
      ·obtain rfl | rfl | rfl | rfl:j=m\/j=m+1\/j=m+2\/j=m+3:=by omega
       ·rw[v0,v0]
       ·exact absurd hj lB
       ·exact absurd hj n2
       ·rw[v3,v3])).put (i:=m+1) s1 pi
     rwa [v1]at this
    ·have:=(World.ownsRow.lt (hO (old _ h (by omega))) _ e).2
     omega
   ·rw[s2]at ho;cases ho
    rw[if_pos (show Region.wanted (⟨none,.store 3 (.tmp d) (.tmp x),ty2,ps2,af2,none⟩:Oper) (yielded ops a'.tmps)=true from rfl)];have Ye:D (m+1):=(look d (by simp[Oper.looksAt,Op.operands]) (m+1) _ s1 rfl).1;obtain⟨q1,q2,q3⟩:=hB Ye;have q:=q3 lB;obtain⟨c1,c2⟩:=q.cells
    have e1:a'.eval (.tmp d)=Mw b:=by
     have:=iZ.on (m+1) _ d Ye s1 rfl hd
     simp only[Act.eval,Array.getD_eq_getD_getElem?,this,Option.getD_some];exact v1 u b
    have e2:a'.eval (.tmp x)=.int .i64 y:=by
     rw[<- pN]
     have:=iZ.agree (hF u b m (Nat.le_refl _)) x (fun j oj hj ez vM=>⟨(look x (by simp[Oper.looksAt,Op.operands]) j oj ez vM).1,by
      have Da:=(look x (by simp[Oper.looksAt,Op.operands]) j oj ez vM).2;rcases Nat.lt_or_ge j m with hh | hh
      ·exact hh
      ·exfalso
       obtain rfl | rfl:j=m\/j=m+1:=by omega
       ·rw[s0]at ez;cases ez
        rw[TL]at vM;exact hx.2.1 (Option.some.inj vM).symm
       ·rw[s1]at ez;cases ez
        exact hx.1 (Option.some.inj vM).symm⟩)
     simp[Act.eval,this]
    unfold Oper.wp;rw[Gm a'.eval _ _ _ W _ _ b _ y e1 e2 c1 c2];refine⟨Below.setCell hW q1 _,u,b,?_,fun h=>AB (hO (old _ h (by omega))) (iJ (old _ h (by omega)) Ye) _,fun _=>⟨q1,fun _=>q.set y,fun h=>(h (.inr rfl)).elim⟩,fun h _=>iJ (old _ h (by omega)) Ye⟩
    exact iZ.put (i:=m+2) s2 pi
   ·rw[s3]at ho;cases ho
    rw[if_pos (show Region.wanted (⟨some s,.assign (.tmp c),ty3,ps3,af3,none⟩:Oper) (yielded ops a'.tmps)=true from rfl)];have hD0:D m:=(look c (by simp[Oper.looksAt,Op.operands]) m _ s0 TL).1
    have e1:a'.eval (.tmp c)=u:=by
     have:=iZ.on m _ c hD0 s0 TL hc
     simp only[Act.eval,Array.getD_eq_getD_getElem?,this,Option.getD_some];exact v0 u b
    unfold Oper.wp
    have dG:(execOp a'.eval ⟨some s,.assign (.tmp c),ty3,ps3,af3,none⟩).run Tryz.prog W=.ok (.value u) W:=by
     rw[<- e1]
     generalize a'.eval=ev
     simp[execOp,go_sem]
    rw[dG];refine⟨hW,u,b,?_,fun h=>hO (old _ h (by omega)),fun h=>?_,fun h h'=>iJ (old _ h (by omega)) (old _ h' (by omega))⟩
    ·have:=iZ.put (i:=m+3) s3 pi
     rwa [v3]at this
    ·obtain⟨q1,q2,q3⟩:=hB (old _ h (by omega));exact⟨q1,fun h=>q2 (old _ h (by omega)),fun h=>q3 fun hh=>h (.inl hh)⟩
 ·rintro D a' W ⟨hW,u,b,iZ,hO,hB,iJ⟩ bH
  have ML:∀i o,i<m+4->ops[i]?=some o->∀j oj d,j<i->ops[j]?=some oj->o.dst=some d->oj.dst≠some d:=fun i o hi ho j oj d hj ez hd gC=>by
   have:=ge.acB i o hi ho j oj (by omega) ez d hd gC
   omega
  have f1:=((hF u b m (Nat.le_refl _)).put (i:=m) s0 (fun j oj d hj ez=>ML m _ (by omega) s0 j oj d hj ez)).same (E:=fun j=>j<m+1) (fun j=>by show(j<m\/j=m)↔j<m+1;omega)
  have f2:=(f1.put (i:=m+1) s1 (fun j oj d hj ez=>ML (m+1) _ (by omega) s1 j oj d hj ez)).same (E:=fun j=>j<m+2) (fun j=>by show(j<m+1\/j=m+1)↔j<m+2;omega)
  have f3:=(f2.put (i:=m+2) s2 (fun j oj d hj ez=>ML (m+2) _ (by omega) s2 j oj d hj ez)).same (E:=fun j=>j<m+3) (fun j=>by show(j<m+2\/j=m+2)↔j<m+3;omega)
  have f4:=(f3.put (i:=m+3) s3 (fun j oj d hj ez=>ML (m+3) _ (by omega) s3 j oj d hj ez)).same (E:=fun j=>j<m+4) (fun j=>by show(j<m+3\/j=m+3)↔j<m+4;omega)
  have e:=iZ.ext f4 (fun j hj=>⟨fun _=>by omega,fun _=>bH j hj⟩)
  rw[e,v0,v1,v3,TL];exact it u b W hW (hO (bH m (by omega))) ((hB (bH (m+1) (by omega))).2.1 (bH (m+2) (by omega)))
end
theorem nL {W:World} {base b k:Nat} {u:Value} {xs:List Int} (h:Own W base u xs) (hd:u.ownBlock≠some b) (v:Value):Own (W.setCell ⟨b,k,none⟩ v) base u xs:=
 aG h fun j hj=>Below.heap_setCell W _ v j (fun e=>hd (by simp at hj;rw[hj,e]))
theorem iq {ls:List Int} {v:Nat} (h:v<ls.length):ls[v]?=some (ls.getD v 0):=by rw[zDd,List.getElem?_eq_getElem h];rfl
theorem yu {xs ys zs:List Int} {i:Nat} {x:Int} (h:zs=xs++ys) (hx:xs[i]?=some x):zs[i]?=some x:=by
 rw[h,List.getElem?_append_left (al hx)];exact hx
theorem iv (ve vi vn:Value) (n:aj) (v:Nat) (w:World) (h:aC w ve vi vn n) (hn:ak n=true) (hv:v<n.ends.length):
  Calls Tryz.prog 166 #[.agg #[ve,vi,vn],.int .i64 v] w fun e w'=>∃u,e=.returned u/\Own w' w.heap.size u (bC n v)/\Below w.heap.size w w':=by
 have gT:=aB hn;have Hn:=zh hn
 obtain⟨w0,A,c,A2,c2,A3,c3,rfl,rfl,rfl,fg,hm,f8,fP,HA,bS,aT,H,dP,d9,dV⟩:=zB h;clear h
 obtain⟨cA,TM⟩:∃x,x=c:=⟨_,rfl⟩
 subst TM;obtain⟨R,hR⟩:∃R,R=bC n v:=⟨_,rfl⟩
 have HR:=zh hR;rw[<- hR];have aU:ab w0 w0:=aa _;clear hn hR
 go_enter Tryz.func166,Tryz.ntmps166
 go_upto_region 1 with(fail);rw[<- bS.out]
 go_wp2_with (at_make;refine jm _ rfl _ _ rfl _ _ n.ends.length rfl rfl rfl rfl (by omega) ?_;intro w1 gR aN dh)
 obtain⟨g,hg⟩:∃g,g=w0.heap.size:=⟨_,rfl⟩
 rw[<- hg]at gR dh ⊢;have Hg:=zh hg;clear hg dh;go_wp2
 go_loopw [17] (fun i wr=>∃k:Nat,k<=n.ends.length/\i=.int .i64 k/\Own wr w0.heap.size (.slice (some ⟨g,0,none⟩) n.ends.length n.ends.length) (List.replicate k (-1)++List.replicate (n.ends.length-k) 0)/\ab w0 wr) (fun i _=>n.ends.length-(intOf i).toNat)
 case atStart=>exact⟨0,Nat.zero_le _,rfl,by have:=gR;simpa[Hg.out]using this,aN⟩
 case round=>
  obtain⟨k,hk,rfl,ho,hs⟩:=hrel;have Ho:=zh ho;have Hs:=zh hs;clear gR aN ho hs aU
  by_cases az:k<n.ends.length
  ·obtain⟨y,hy⟩:=aA (List.replicate k (-1:Int)++List.replicate (n.ends.length-k) 0) k (by simp;omega)
   have cz:=Ho.out.cell hy;have fz:=Ho.out.free k;clear hy;go_wp2;go_roundw
   case rel=>
    refine⟨k+1,by omega,by go_num,?_,Below.setCell Hs.out (by show w0.heap.size<=g;rw[Hg.out];exact Nat.le_refl _) _⟩
    have:=Ho.out.set (k:=k) (-1)
    have e:(List.replicate k (-1:Int)++List.replicate (n.ends.length-k) 0).set k (-1)=List.replicate (k+1) (-1)++List.replicate (n.ends.length-(k+1)) 0:=by
     rw[List.set_append_right _ _ (by simp),List.length_replicate,Nat.sub_self,show n.ends.length-k=(n.ends.length-(k+1))+1 by omega,List.replicate_succ,List.set_cons_zero,List.replicate_succ',List.append_assoc]
     rfl
    rwa [e]at this
   case measure=>simp[intOf];omega
  ·obtain rfl:k=n.ends.length:=by omega
   have fG:Hid (Own wr w0.heap.size (.slice (some ⟨g,0,none⟩) n.ends.length n.ends.length) (List.replicate n.ends.length (-1))):=by
    have:=Ho.out
    rwa [Nat.sub_self,List.replicate_zero,List.append_nil]at this
   have cz:=fG.out.cell (iq (show v<(List.replicate n.ends.length (-1:Int)).length by simpa using hv))
   have fz:=fG.out.free v
   have Mc:Hid (w0.heap.size<=g):=by rw[Hg.out];exact Nat.le_refl _
   obtain⟨w3,i8⟩:∃w3,w3=wr.setCell ⟨g,v,none⟩ (.int .i64 0):=⟨_,rfl⟩
   have jy:Hid (Own w3 w0.heap.size (.slice (some ⟨g,0,none⟩) n.ends.length n.ends.length) (bn n v).1):=by rw[i8];exact fG.out.set (k:=v) 0
   have gZ:Hid (ab w0 w3):=by rw[i8];exact Below.setCell Hs.out Mc.out _
   obtain⟨g2,l7⟩:∃g2,g2=wr.heap.size:=⟨_,rfl⟩
   have e3:w3.heap.size=wr.heap.size:=by rw[i8];simp
   obtain⟨w4,gU⟩:∃w4,w4=w3.alloc (.cells #[.int .i64 v] 3):=⟨_,rfl⟩
   have vN:Hid (Own w4 w0.heap.size (.slice (some ⟨g,0,none⟩) n.ends.length n.ends.length) (bn n v).1):=by rw[gU];exact jy.out.since (ad _ (aa _))
   have ZJ:Hid (Own w4 w0.heap.size (.slice (some ⟨g2,0,none⟩) (bn n v).2.length 1) (bn n v).2):=by
    rw[gU,l7,<- e3]
    have:=fD w3 [(v:Int)] (by simp[maxLen])
    exact this.mono gZ.out.below.size
   have te:Hid (ab w0 w4):=by rw[gU];exact ad _ gZ.out
   have mE:g2≠g:=by have:=(World.ownsRow.lt jy.out g rfl).2;omega
   clear e3;have AC:=zh i8;have Ju:=zh gU;have yv:=zh l7;clear i8 gU l7;go_upto_region 9 with(fail);rw[<- AC.out,<- yv.out,<- Ju.out];clear cz fz;go_wp2
   go_loopw [7,8] (fun u i wr=>∃(f k:Nat) (st:List Int×List Int) (gu cu:Nat),i=.int .i64 k/\u=.slice (some ⟨gu,0,none⟩) st.2.length cu/\gu≠g/\BI n.ends.length st/\qp n f st k=R/\n.ends.length+1<=f+k/\k<=st.2.length/\Own wr w0.heap.size (.slice (some ⟨g,0,none⟩) n.ends.length n.ends.length) st.1/\Own wr w0.heap.size u st.2/\ab w0 wr) (fun _ i _=>n.ends.length+1-(intOf i).toNat)
   case atStart=>exact⟨n.ends.length+1,0,bn n v,g2,1,rfl,rfl,mE,BI.start hv,HR.out.symm,by omega,Nat.zero_le _,vN.out,ZJ.out,te.out⟩
   case round=>
    obtain⟨f,k,st,gu,cu,rfl,rfl,OY,AD,xt,hf,hk,ho,OZ,hs⟩:=hrel;have O0:=zh AD;have Aa:=zh xt;have Ho:=zh ho;have Jv:=zh OZ;have Hs:=zh hs;have vO:=AD.bd;clear AD xt ho OZ hs mE
    by_cases az:k<st.2.length
    ·obtain⟨f,rfl⟩:∃f',f=f'+1:=⟨f-1,by omega⟩
     obtain⟨x,hx⟩:=aA st.2 k az;have yw:=O0.out.walk x (List.mem_of_getElem? hx);obtain⟨c,rfl⟩:=Int.eq_ofNat_of_zero_le yw.1;have hc:c<n.ends.length:=by omega
     have cx:=ae (Jv.out.cell hx);have Qj:=zh yw
     have TO:Hid (st.2.getD k 0=(c:Int)):=by show _=_;rw[zDd,hx];rfl
     have Hx:=zh hx;obtain⟨es,bM⟩:=aA n.ends c hc;obtain⟨sI,-⟩:=bV Hn.out bM;have jZ:=zh bM;obtain⟨i9,rD⟩:∃s,s=dW n c:=⟨_,rfl⟩
     have n_:Hid (es.map (·.1)=i9):=by show _=_;rw[rD,dW,Int.toNat_natCast,zDd,bM];rfl
     have Qk:Hid (∀y∈i9,0<=y/\y<n.ends.length):=by rw[rD];exact lZ Hn.out Qj.out
     have Jw:=zh rD
     have yx:i9.length<=6:=by rw[<- n_.out,List.length_map];exact sI
     have AG:Hid (∀W,ab wr W->Calls Tryz.prog 186 #[.agg #[.slice A n.ends.length cA,.slice A2 n.ids.length c2,.slice A3 n.acn.length c3],.int .i64 c] W fun e w'=>∃u,e=.returned u/\Own w' wr.heap.size u i9/\Below W.heap.size W w'):=fun W hW=>by
      have:=iu _ _ _ n c es W (H.out.keep (Hs.out.after hW).below) jZ.out (by omega)
      rw[n_.out]at this;exact this.mono fun e w' ⟨u,h1,h2,h3⟩=>⟨u,h1,h2.mono (ab.below hW).size,h3⟩
     have q0:=ag dP Hs.out;have q1:=ag d9 Hs.out;have q2:=ag dV Hs.out;clear hx yw bM rD;go_upto_region 12 with(fail);refine eP (w0:=wr) 8 [false,false,false,false,false,true,true,false] (by kernel_rfl) (by kernel_rfl) (aa _) ?_;simp only[er,dS,zT]
     iterate 6 (apply bv rfl;(intro W hW;go_simp;with_reducible rfl);simp only[zA])
     intro W hW;refine Or.inl ⟨rfl,?_⟩
     go_simp
     (with_reducible refine(AG.out W hW).mono ?_)
     rintro e W' ⟨un,rfl,eH,hb⟩;refine⟨_,rfl,hW.trans hb,?_⟩
     replace hW:=hW.trans hb
     obtain⟨Bn,dn,rfl,_⟩:=id eH.ints
     (try simp only[zA])
     refine de (v:=?_) rfl ?_ hW ?_;rotate_left;(go_simp;with_reducible rfl)
     simp only[zA];simp only[bh];have sJ:=zh (eH.mono Hs.out.below.size);have yy:=fun q hq=>(World.ownsRow.lt eH q hq).1
     have O1:(Value.slice Bn i9.length dn).ownBlock≠some g:=fun e=>by have:=yy g e;have:=(World.ownsRow.lt Ho.out g rfl).2;omega
     have TP:(Value.slice Bn i9.length dn).ownBlock≠some gu:=fun e=>by have:=yy gu e;have:=(World.ownsRow.lt Jv.out gu rfl).2;omega
     have Jy:=zh (Ho.out.since hW);have Ql:=zh (Jv.out.since hW);have tf:=zh (Hs.out.after hW);have ZK:=zh O1;have ZL:=zh TP;have O2:Hid (∀j,∃ys,((i9.take j).foldl (aQ c) st).2=st.2++ys):=fun j=>jg _ _ _
     clear eH yy O1 TP hW cx q0 q1 q2;go_wp2
     go_loopw [7,42] (fun u i wr=>∃(j gu cu:Nat) (dp:List Int×List Int),j<=i9.length/\i=.int .i64 j/\dp=(i9.take j).foldl (aQ c) st/\u=.slice (some ⟨gu,0,none⟩) dp.2.length cu/\gu≠g/\BI n.ends.length dp/\Own wr w0.heap.size (.slice (some ⟨g,0,none⟩) n.ends.length n.ends.length) dp.1/\Own wr w0.heap.size u dp.2 /\
      Own wr w0.heap.size (.slice Bn i9.length dn) i9/\(Value.slice Bn i9.length dn).ownBlock≠some gu/\ab w0 wr) (fun _ i _=>i9.length-(intOf i).toNat)
     case atStart=>exact⟨0,gu,cu,st,Nat.zero_le _,rfl,rfl,rfl,OY,O0.out,Jy.out,Ql.out,sJ.out,ZL.out,tf.out⟩
     case round=>
      obtain⟨j,gv,cv,dp,hj,rfl,tV,rfl,kF,tW,kR,Jz,JA,JB,MM⟩:=hrel;have mP:=zh tW;have AH:=zh kR;have yz:=zh Jz;have yA:=zh JA;have IJ:=zh MM;have oe:=zh tV;have Qm:=zh JB;have TQ:=tW.bd;clear tV tW kR Jz JA MM JB OY
      by_cases lq:j<i9.length
      ·obtain⟨y,hy⟩:=aA i9 j lq;have JC:=Qk.out y (List.mem_of_getElem? hy);obtain⟨d,rfl⟩:=Int.eq_ofNat_of_zero_le JC.1;have hd:d<n.ends.length:=by omega
       rcases yA.out.cases with⟨-,e1⟩ | ⟨gn,cn,en,ZM,ZN⟩
       ·rw[e1]at lq;simp at lq
       injection en with en1 en2 en3
       subst en1;have cy:=yA.out.cell hy;have vP:dp.1.length=n.ends.length:=mP.out.len;have cd:=AH.out.cell (iq (show d<dp.1.length by omega))
       have fd:=AH.out.free d;obtain⟨z,hz⟩:∃z,z=dp.1.getD d 0:=⟨_,rfl⟩
       rw[<- hz]at cd;have Hz:=zh hz;have Hy:=zh hy
       have pP:Hid ((i9.take (j+1)).foldl (aQ c) st=aQ c dp d):=by show _=_;rw[rv hy,<- oe.out]
       have Sx:=zh vP;have m3:IntKind.i64.wrap ((j:Int)+1)=(j:Int)+1:=aH _ (by omega) (by omega);clear hz hy JC vP en2 en3
       by_cases mv:z<0
       ·have eG:c<dp.1.length:=by rw[Sx.out];exact hc
        obtain⟨q,hq⟩:∃q,q=dp.1.getD c 0:=⟨_,rfl⟩
        have cq:=AH.out.cell (iq eG);rw[<- hq]at cq
        have ZO : -1<=q/\q<dp.2.length:=by rw[hq];exact mP.out.val _ (List.mem_of_getElem? (iq eG))
        obtain⟨ys,zE⟩:=O2.out j
        have cw:=yz.out.cell (yu (show dp.2=st.2++ys by rw[oe.out];exact zE) Hx.out)
        have pQ:k<dp.2.length:=al (yu (show dp.2=st.2++ys by rw[oe.out];exact zE) Hx.out)
        have m4:IntKind.i64.wrap (q+1)=q+1:=aH _ (by omega) (by omega)
        have tX:Hid (aQ c dp d=(dp.1.set d (q+1),dp.2++[(d:Int)])):=by show _=_;unfold aQ;rw[Int.toNat_natCast,Int.toNat_natCast,<- Hz.out,if_pos mv,<- hq]
        have TR:Hid (BI n.ends.length (aQ c dp d)):=mP.out.step (by omega) (by omega);obtain⟨w5,mG⟩:∃w5,w5=wr.setCell ⟨g,d,none⟩ (.int .i64 (q+1)):=⟨_,rfl⟩
        have JD:Hid (Own w5 w0.heap.size (.slice (some ⟨g,0,none⟩) n.ends.length n.ends.length) (dp.1.set d (q+1))):=by rw[mG];exact AH.out.set (k:=d) (q+1)
        have AO:Hid (Own w5 w0.heap.size (.slice (some ⟨gv,0,none⟩) dp.2.length cv) dp.2):=by rw[mG];exact nL yz.out (by simpa[Value.ownBlock]using kF) _
        have AW:Hid (Own w5 w0.heap.size (.slice (some ⟨gn,0,none⟩) i9.length dn) i9):=by rw[mG];exact nL yA.out ZK.out _
        have Ds:Hid (ab w0 w5):=by rw[mG];exact Below.setCell IJ.out Mc.out _
        have Dt:=zh mG;have Fm:=zh kF
        have dz:Hid (dp.2.length+1<=17592186044416):=by show _<=_;omega
        clear hq mG zE;go_upto_region 17 with(fail);rw[<- Dt.out];clear cy cd fd cq cw m4
        go_wp2_with (at_builtin;refine nJ rfl _ _ rfl rfl (AO.out.since (ad _ (aa _))) w5.heap.size d rfl (by simp[go_sem]) dz.out (by have:=Ds.out.below.size;simp;omega) ?_;intro g7 c7 w7 TS Fo sK _)
        change World.grownBy _ w7 (some gv)at Fo
        change (some gv=some g7\/g7=_)at sK
        have Gn:Hid (Own w7 w0.heap.size (.slice (some ⟨g,0,none⟩) n.ends.length n.ends.length) (dp.1.set d (q+1))):=Own.grown (JD.out.keep (ai w5 _)) Fo (fun x hx e=>by simp[Value.ownBlock]at hx;cases e;exact Fm.out hx.symm)
        have Qn:Hid (Own w7 w0.heap.size (.slice (some ⟨gn,0,none⟩) i9.length dn) i9):=Own.grown (AW.out.keep (ai w5 _)) Fo (fun x hx e=>by cases e;exact Qm.out hx)
        have Qo:Hid (Own w7 w0.heap.size (.slice (some ⟨g7,0,none⟩) (dp.2.length+1) c7) (dp.2++[(d:Int)])):=TS;have JE:=zh (World.ownsRow.lt JD.out g rfl).2;have Qp:=zh (World.ownsRow.lt AW.out gn rfl).2
        have TT:Hid (g7≠g):=by
         rcases sK with e | e
         ·cases e;exact Fm.out
         ·simp at e;exact fun e2=>by have:=JE.out;omega
        have Qq:Hid ((Value.slice (some ⟨gn,0,none⟩) i9.length dn).ownBlock≠some g7):=by
         rcases sK with e | e
         ·cases e;exact Qm.out
         ·simp at e;exact fun e2=>by simp[Value.ownBlock]at e2;have:=Qp.out;omega
        have Gp:Hid (ab w0 w7):=Below.grown (show Below w0.heap.size w0 _ from ad _ Ds.out) Fo (by have:=Ds.out.below.size;simp;omega) (fun x hx=>by cases hx;exact(World.ownsRow.lt AO.out gv rfl).1)
        clear TS Fo sK;go_wp2;go_roundw
        case rel=>exact⟨j+1,g7,c7,aQ c dp d,by omega,by go_num,pP.out.symm,by rw[tX.out];simp,TT.out,TR.out,by rw[tX.out];exact Gn.out,by rw[tX.out];exact Qo.out,Qn.out,Qq.out,Gp.out⟩
        case measure=>simp[intOf];omega
       ·have AY:Hid (aQ c dp d=dp):=by show _=_;unfold aQ;rw[Int.toNat_natCast,<- Hz.out,if_neg mv]
        go_wp2;go_roundw
        case rel=>exact⟨j+1,gv,cv,dp,by omega,by go_num,by rw[pP.out,AY.out],rfl,kF,mP.out,AH.out,yz.out,yA.out,Qm.out,IJ.out⟩
        case measure=>simp[intOf];omega
      ·obtain rfl:j=i9.length:=by omega
       have yB:Hid (dp=i9.foldl (aQ c) st):=by show _=_;rw[oe.out,List.take_length]
       have TU:Hid (qp n f dp (k+1)=R):=by
        show _=_
        rw[<- Aa.out,qp,if_pos az,TO.out,<- Jw.out,<- yB.out]
       have Qr:Hid (k+1<=dp.2.length):=by
        obtain⟨ys,zE⟩:=O2.out i9.length;show _<=_
        rw[oe.out,zE,List.length_append];omega
       have m3:IntKind.i64.wrap ((k:Int)+1)=(k:Int)+1:=aH _ (by omega) (by omega);go_wp2;go_roundw
       case rel=>exact⟨f,k+1,dp,gv,cv,by go_num,rfl,kF,mP.out,TU.out,by omega,Qr.out,AH.out,yz.out,IJ.out⟩
       case measure=>simp[intOf];omega
    ·have TV:Hid (R=st.1):=by
      rw[<- Aa.out]
      obtain⟨f,rfl⟩ | h0:(∃f',f=f'+1)\/f=0:=by
       rcases Nat.eq_zero_or_pos f with h | h
       ·exact .inr h
       ·exact .inl ⟨f-1,by omega⟩
      ·show qp _ _ _ _=_
       rw[qp,if_neg az]
      ·subst h0;exact rfl
     go_wp2;go_ret
     exact⟨_,rfl,by rw[TV.out];exact Ho.out.mono aT.out.size,ab.after aT.out Hs.out⟩
abbrev Ed:=Int×Int×Int×Int
def mx (e:Ed):List Value:=[.int .i64 e.1,.int .i64 e.2.1,.int .i64 e.2.2.1,.int .i64 e.2.2.2]
theorem Gq:(Tryz.prog.info? 136).map (fun i=>(i.zero,i.size,i.bytes))=some (some (.agg #[.int .i64 0,.int .i64 0,.int .i64 0,.int .i64 0]),4,32):=by kernel_rfl
def oh (w:World) (base:Nat) (v:Value) (xs:List Ed):Prop:=w.ownsRow base 136 4 v xs.length (xs.flatMap mx)
theorem AZ:∀ {xs:List Ed} {k:Nat} {x:Ed},xs[k]?=some x->(xs.flatMap mx)[k*4]?=some (.int .i64 x.1)/\(xs.flatMap mx)[k*4+1]?=some (.int .i64 x.2.1)/\(xs.flatMap mx)[k*4+2]?=some (.int .i64 x.2.2.1)/\(xs.flatMap mx)[k*4+3]?=some (.int .i64 x.2.2.2)
 | [],_,_,h=>by simp at h
 | y::xs,0,x,h=>by simp at h;subst h;simp[mx]
 | y::xs,k+1,x,h=>by
  obtain⟨h1,h2,h3,h4⟩:=AZ (xs:=xs) (k:=k) (x:=x) (by simpa using h)
  have e:∀j,((y::xs).flatMap mx)[(k+1)*4+j]?=(xs.flatMap mx)[k*4+j]?:=fun j=>by
   rw[List.flatMap_cons,List.getElem?_append_right (by simp[mx];omega)]
   congr 1
   simp[mx];omega
  exact⟨(e 0).trans h1,(e 1).trans h2,(e 2).trans h3,(e 3).trans h4⟩
theorem oh.keep {w w':World} {base:Nat} {v:Value} {xs:List Ed} (h:oh w base v xs) (hb:ab w w'):oh w' base v xs:=aG h fun k hk=>hb.below.block k (World.ownsRow.lt h k (by simpa using hk)).2
theorem oh.mono {w:World} {base iI:Nat} {v:Value} {xs:List Ed} (h:oh w base v xs) (hb:iI<=base):oh w iI v xs:=j1 h hb
theorem JF (w:World) (base:Nat):oh w base (.slice none 0 0) []:=World.ownsRow_nil w base _ _
def TW (W:World) (v:Value) (xs:List Ed):Prop:=∃A c,v=.slice A xs.length c/\c<=maxLen/\xs.length<=c/\∀k x,xs[k]?=some x->∃b,A=some ⟨b,0,none⟩/\W.cell? ⟨b,k*4,none⟩=some (.int .i64 x.1)/\W.cell? ⟨b,k*4+1,none⟩=some (.int .i64 x.2.1)/\W.cell? ⟨b,k*4+2,none⟩=some (.int .i64 x.2.2.1)/\W.cell? ⟨b,k*4+3,none⟩=some (.int .i64 x.2.2.2)
theorem oh.read {w:World} {base:Nat} {v:Value} {xs:List Ed} (h:oh w base v xs):TW w v xs:=by
 have h':=h;rcases h.2 with⟨rfl,hn⟩ | ⟨g,cap,cur,rfl,hb,hg,s8,yt,fO,htk⟩
 ·have:xs=[]:=List.eq_nil_of_length_eq_zero hn
  subst this;exact⟨none,0,rfl,Nat.zero_le _,Nat.le_refl _,fun k x hk=>by simp at hk⟩
 ·refine⟨_,cap,rfl,yt,s8,fun k x hk=>⟨g,rfl,?_⟩⟩
  obtain⟨h1,h2,h3,h4⟩:=AZ hk;have pQ:=al hk
  exact⟨by rw[World.ownsRow.cellAt (cap:=cap) h' _ (by omega)];exact h1,by rw[World.ownsRow.cellAt (cap:=cap) h' _ (by omega)];exact h2,by rw[World.ownsRow.cellAt (cap:=cap) h' _ (by omega)];exact h3,by rw[World.ownsRow.cellAt (cap:=cap) h' _ (by omega)];exact h4⟩
theorem JG {w w0:World} {ops:Array Oper} {rest:List Oper} {o:Oper} {a:Act} {Q:Exit->Act->World->Prop} (iG:o.guard=none) (s x:Operand)
  (ho:o.op=.call { callee:=.builtin .append,args:=#[s,x],argTypes:=#[133,133] }) {v:Value} {xs:List Ed} (hs:a.eval s=v) (h:oh w w0.heap.size v xs) (b:Nat) (y:Ed)
  (hx:a.eval x=.slice (some ⟨b,0,none⟩) 1 1) (IK:w.cell? ⟨b,0,none⟩=some (.int .i64 y.1)) (eD:w.cell? ⟨b,1,none⟩=some (.int .i64 y.2.1)) (rg:w.cell? ⟨b,2,none⟩=some (.int .i64 y.2.2.1)) (CE:w.cell? ⟨b,3,none⟩=some (.int .i64 y.2.2.2)) (hl:xs.length+1<=1000000) (vK:ab w0 w)
  (k:∀g cap w',oh w' w0.heap.size (.slice (some ⟨g,0,none⟩) (xs.length+1) cap) (xs++[y])->ab w0 w'->wpList Tryz.prog ops Q rest (a.put o.dst (.slice (some ⟨g,0,none⟩) (xs.length+1) cap)) w'):wpList Tryz.prog ops Q (o::rest) a w:=by
 obtain⟨i0,hi,gx,dh,dt⟩:=info_parts Gq
 refine wpList_append_lies w iG s x 133 ho w0.heap.size 136 i0 _ 4 32 Tryz.underlying133 hi gx dh dt rfl (by decide) v xs.length (xs.flatMap mx) hs h ⟨b,0,none⟩ 1 1 (mx y) hx rfl
  (by
   intro j u hj;rw[Go.Addr.add_lit,Nat.zero_add]
   match j,hj with
   | 0,hj=>simp[mx]at hj;subst hj;exact IK
   | 1,hj=>simp[mx]at hj;subst hj;exact eD
   | 2,hj=>simp[mx]at hj;subst hj;exact rg
   | 3,hj=>simp[mx]at hj;subst hj;exact CE
   | j+4,hj=>simp[mx]at hj) (by simp[mx,Value.oneCell']) (by omega) (by unfold maxLen;omega) (by omega) vK.below.size w.heap.size rfl ?_
 intro g cap w' h1 h2 h3 h4;refine k g cap w' ?_ (Below.grown vK h2 vK.below.size (fun q hq=>(World.ownsRow.lt h q hq).1))
 unfold oh;simpa using h1
def ja (v i:Nat) (e:Int×Int):Bool:=decide ((v:Int)<e.1)||(((v:Int)==e.1)&&decide ((i:Int)<=e.2))
def qu (v i:Nat) (e:Int×Int):List Ed:=if ja v i e then [((v:Int),(i:Int),e.1,e.2)] else []
def my (v:Nat) (es:List (Int×Int)) (i:Nat):List Ed:=(List.range i).flatMap fun j=>qu v j (es.getD j (0,0))
def dA (n:aj) (u:Nat):List (Int×Int):=n.ends.getD u []
def ey (n:aj) (v:Nat):List Ed:=(List.range v).flatMap fun u=>my u (dA n u) (dA n u).length
def cj (n:aj):List Ed:=ey n n.ends.length
theorem xC (v:Nat) (es:List (Int×Int)) (i:Nat):my v es (i+1)=my v es i++qu v i (es.getD i (0,0)):=by
 unfold my;rw[List.range_succ,List.flatMap_append];simp
theorem qv (n:aj) (v:Nat):ey n (v+1)=ey n v++my v (dA n v) (dA n v).length:=by
 unfold ey;rw[List.range_succ,List.flatMap_append];simp
theorem A4 (v:Nat) (es:List (Int×Int)) (i:Nat):(my v es i).length<=i:=by
 induction i with
 | zero=>simp[my]
 | succ i ih=>
  rw[xC,List.length_append]
  have:(qu v i (es.getD i (0,0))).length<=1:=by unfold qu;split <;> simp
  omega
theorem sb {n:aj} (hn:ak n=true) (v:Nat):(ey n v).length<=6*v:=by
 induction v with
 | zero=>simp[ey]
 | succ v ih=>
  rw[qv,List.length_append];have h1:=A4 v (dA n v) (dA n v).length
  have h2:(dA n v).length<=6:=by
   unfold dA;rw[zDd]
   cases h:n.ends[v]? with
   | none=>simp
   | some es=>exact(bV hn h).1
  omega
theorem Gr {n:aj} {e:Ed}:e∈cj n↔∃v i,v<n.ends.length/\i<(dA n v).length/\ja v i ((dA n v).getD i (0,0))=true/\e=((v:Int),(i:Int),((dA n v).getD i (0,0)).1,((dA n v).getD i (0,0)).2):=by
 unfold cj ey my
 simp only[List.mem_flatMap,List.mem_range];constructor
 ·rintro⟨v,hv,i,hi,he⟩;unfold qu at he
  split at he
  ·rename_i hk
   exact⟨v,i,hv,hi,hk,by simpa using he⟩
  ·simp at he
 ·rintro⟨v,i,hv,hi,hk,rfl⟩
  exact⟨v,hv,i,hi,by unfold qu;rw[if_pos hk];simp⟩
theorem Gs (ve vi vn:Value) (n:aj) (w:World) (h:aC w ve vi vn n) (hn:ak n=true):
  Calls Tryz.prog 124 #[.agg #[ve,vi,vn]] w fun e w'=>∃u,e=.returned u/\oh w' w.heap.size u (cj n)/\Below w.heap.size w w':=by
 have pj:=(aB hn).2
 obtain⟨w0,A,c,A2,c2,A3,c3,rfl,rfl,rfl,fg,hm,f8,fP,HA,bS,aT,H,dP,d9,dV⟩:=zB h;clear h
 have Hn:=zh hn;have aU:ab w0 w0:=aa _;clear hn
 go_enter Tryz.func124,Tryz.ntmps124
 go_upto_region 1 with(fail);rw[<- bS.out];go_wp2
 go_loopw [3,11] (fun u i wr=>∃k:Nat,k<=n.ends.length/\i=.int .i64 k/\oh wr w0.heap.size u (ey n k)/\ab w0 wr) (fun _ i _=>n.ends.length-(intOf i).toNat)
 case atStart=>exact⟨0,Nat.zero_le _,rfl,by simpa[ey]using JF _ w0.heap.size,aU⟩
 case round=>
  obtain⟨k,hk,rfl,ho,hs⟩:=hrel;have Ho:=zh ho;have Hs:=zh hs;clear aU ho hs
  by_cases az:k<n.ends.length
  ·obtain⟨es,bM⟩:=aA n.ends k az;obtain⟨sI,-⟩:=bV Hn.out bM
   have Mx:Hid (dA n k=es):=by show _=_;rw[dA,zDd,bM];rfl
   obtain⟨b,tY,cr,ur,gh,wj,eD,dm⟩:=fi H.out.es bM;cases gh;obtain⟨A1,z1,rfl,dh,dt,gh⟩:=dm;unfold maxLen at dt;have qh:=zh gh;have r1:=ag (ae eD) Hs.out;have q5:=r1 wr (aa _);have q0:=dP wr Hs.out;have IL:=sb Hn.out k;have Sy:=zh IL;clear bM eD gh IL;go_wp2
   go_loopw [3,18] (fun u i wr=>∃j:Nat,j<=es.length/\i=.int .i64 j/\oh wr w0.heap.size u (ey n k++my k es j)/\ab w0 wr) (fun _ i _=>es.length-(intOf i).toNat)
   case atStart=>exact⟨0,Nat.zero_le _,rfl,by simpa[my]using Ho.out,Hs.out⟩
   case round=>
    obtain⟨j,hj,rfl,ho,hs⟩:=hrel;have fG:=zh ho;have cW:=zh hs;clear ho hs
    by_cases lq:j<es.length
    ·obtain⟨⟨x1,x2⟩,hx⟩:=aA es j lq;obtain⟨b1,mJ,rfl,ju,gC⟩:=qh.out j _ hx;have t1:=ae ju wr cW.out;have t2:=ae gC wr cW.out;have iR:Hid (es.getD j (0,0)=(x1,x2)):=ao hx;obtain⟨w8,jV⟩:∃w8,w8=wr.alloc (.cells #[.int .i64 x1,.int .i64 x2] 83):=⟨_,rfl⟩
     obtain⟨be,ln⟩:∃be,be=wr.heap.size:=⟨_,rfl⟩
     have d0:∀W,ab w8 W->W.cell? ⟨be,0,none⟩=some (.int .i64 x1):=ae (by rw[jV,ln];simp)
     have d1:∀W,ab w8 W->W.cell? ⟨be,1,none⟩=some (.int .i64 x2):=ae (by rw[jV,ln];simp)
     have pR:Hid (oh w8 w0.heap.size u3 (ey n k++my k es j)):=by rw[jV];exact fG.out.keep (ad _ (aa _))
     have iS:Hid (ab w0 w8):=by rw[jV];exact ad _ cW.out
     have Gt:=zh jV;have Sz:=zh ln;have m3:IntKind.i64.wrap ((j:Int)+1)=(j:Int)+1:=aH _ (by omega) (by omega);clear hx ju gC jV ln;go_upto_region 8 with(fail);rw[<- Gt.out,<- Sz.out];clear t1 t2;refine aE 16 (ab w8) (aa _) ?_;simp only[zT]
     iterate 5 (refine b_ rfl ?_;simp only[zA])
     iterate 5 (refine iL rfl rfl ?_;simp only[zA])
     iterate 4 (apply gF rfl rfl;(intro hb bx;intro W hW;go_simp;with_reducible rfl);simp only[zA])
     refine je rfl rfl rfl ?_;simp only[zA]
     (first | refine dE rfl rfl ?_ | (refine b_ rfl ?_));simp only[zA]
     intro W hW;have Yf:=zh (iS.out.after hW);have Du:=zh (pR.out.keep hW);have c0:=d0 W hW;have c1:=d1 W hW
     have dz:Hid ((ey n k++my k es j).length+1<=1000000):=by
      have h1:=Sy.out;have h2:=A4 k es j;show _<=_
      rw[List.length_append];omega
     have pP:Hid (ey n k++my k es (j+1)=(ey n k++my k es j)++qu k j (x1,x2)):=by show _=_;rw[xC,iR.out,List.append_assoc]
     cases hg:(decide ((k:Int)<x1)||((k:Int)==x1&&decide ((j:Int)<=x2)))
     ·have pc:Hid (qu k j (x1,x2)=[]):=by show _=_;unfold qu;rw[if_neg];rw[show ja k j (x1,x2)=false from hg];simp
      clear hg hW d0 d1 c0 c1;go_wp2;go_roundw
      case rel=>exact⟨j+1,by omega,by go_num,by rw[pP.out,pc.out,List.append_nil];exact Du.out,Yf.out⟩
      case measure=>simp[intOf];omega
     ·have ZP:Hid (qu k j (x1,x2)=[((k:Int),(j:Int),x1,x2)]):=by show _=_;unfold qu;rw[if_pos (show ja k j (x1,x2)=true from hg)]
      clear hg hW d0 d1
      go_wp2_with (at_builtin;refine JG rfl _ _ rfl rfl (Du.out.keep (ad _ (aa _))) W.heap.size ((k:Int),(j:Int),x1,x2) rfl (by simp[go_sem]) (by simp[go_sem]) (by simp[go_sem]) (by simp[go_sem]) dz.out (ad _ Yf.out) ?_;intro g9 c9 w9 gP JH)
      have tg:=zh gP;have Dv:=zh JH;clear gP JH c0 c1;go_wp2;go_roundw
      case rel=>exact⟨j+1,by omega,by go_num,by rw[pP.out,ZP.out];have:=tg.out;first | exact this | (rw[List.length_append]at this;exact this),Dv.out⟩
      case measure=>simp[intOf];omega
    ·obtain rfl:j=es.length:=by omega
     have pP:Hid (ey n (k+1)=ey n k++my k es es.length):=by show _=_;rw[qv,Mx.out]
     have m3:IntKind.i64.wrap ((k:Int)+1)=(k:Int)+1:=aH _ (by omega) (by omega);go_wp2;go_roundw
     case rel=>exact⟨k+1,by omega,by go_num,by rw[pP.out];exact fG.out,cW.out⟩
     case measure=>simp[intOf];omega
  ·obtain rfl:k=n.ends.length:=by omega
   go_wp2;go_ret;exact⟨_,rfl,Ho.out.mono aT.out.size,ab.after aT.out Hs.out⟩
inductive jI (E:List (Nat×Nat)) (a:Nat):Nat->Prop
 | refl:jI E a a
 | step {b c:Nat}:jI E a b->((b,c)∈E\/(c,b)∈E)->jI E a c
theorem jI.trans {E:List (Nat×Nat)} {a b c:Nat} (h:jI E a b) (k:jI E b c):jI E a c:=by
 induction k with
 | refl=>exact h
 | step _ hs ih=>exact ih.step hs
theorem jI.one {E:List (Nat×Nat)} {a b:Nat} (h:(a,b)∈E\/(b,a)∈E):jI E a b:=jI.refl.step h
theorem jI.symm {E:List (Nat×Nat)} {a b:Nat} (h:jI E a b):jI E b a:=by
 induction h with
 | refl=>exact .refl
 | step _ hs ih=>exact(jI.one hs.symm).trans ih
theorem jI.sub {E F:List (Nat×Nat)} (hs:∀e∈E,e∈F) {a b:Nat} (h:jI E a b):jI F a b:=by
 induction h with
 | refl=>exact .refl
 | step _ k ih=>exact ih.step (k.imp (hs _) (hs _))
theorem jI.acE {E:List (Nat×Nat)} {x y a b:Nat}:jI ((a,b)::E) x y↔jI E x y\/(jI E x a/\jI E b y)\/(jI E x b/\jI E a y):=by
 constructor
 ·intro h
  induction h with
  | refl=>exact .inl .refl
  | @step u v _ k ih=>
   have k':(u=a/\v=b)\/(u=b/\v=a)\/((u,v)∈E\/(v,u)∈E):=by
    rcases k with k | k
    ·rcases List.mem_cons.1 k with e | k
     ·cases e;exact .inl ⟨rfl,rfl⟩
     ·exact .inr (.inr (.inl k))
    ·rcases List.mem_cons.1 k with e | k
     ·cases e;exact .inr (.inl ⟨rfl,rfl⟩)
     ·exact .inr (.inr (.inr k))
   rcases k' with⟨rfl,rfl⟩ | ⟨rfl,rfl⟩ | k'
   ·rcases ih with ih | ⟨i1,i2⟩ | ⟨i1,i2⟩
    ·exact .inr (.inl ⟨ih,.refl⟩)
    ·exact .inr (.inl ⟨i1,.refl⟩)
    ·exact .inl i1
   ·rcases ih with ih | ⟨i1,i2⟩ | ⟨i1,i2⟩
    ·exact .inr (.inr ⟨ih,.refl⟩)
    ·exact .inl i1
    ·exact .inr (.inr ⟨i1,.refl⟩)
   ·rcases ih with ih | ⟨i1,i2⟩ | ⟨i1,i2⟩
    ·exact .inl (ih.step k')
    ·exact .inr (.inl ⟨i1,i2.step k'⟩)
    ·exact .inr (.inr ⟨i1,i2.step k'⟩)
 ·have s:∀ {u v},jI E u v->jI ((a,b)::E) u v:=fun h=>h.sub fun e he=>List.mem_cons_of_mem _ he
  have e:jI ((a,b)::E) a b:=jI.one (.inl (by simp))
  rintro(h | ⟨h1,h2⟩ | ⟨h1,h2⟩)
  ·exact s h
  ·exact(s h1).trans (e.trans (s h2))
  ·exact(s h1).trans (e.symm.trans (s h2))
def oL (E:List (Nat×Nat)) (v:Nat):Prop:=∀u,jI E v u->v<=u
theorem xD (E:List (Nat×Nat)):∀(k a:Nat),a<=k->∃m,jI E a m/\oL E m:=by
 intro k
 induction k with
 | zero=>intro a ha;exact⟨a,.refl,fun u _=>by omega⟩
 | succ k ih=>
  intro a ha
  by_cases h:oL E a
  ·exact⟨a,.refl,h⟩
  ·unfold oL at h
   have ⟨u,hu⟩:=Classical.not_forall.1 h
   have ⟨h1,h2⟩:=Classical.not_imp.1 hu
   obtain⟨m,g1,g2⟩:=ih u (by omega);exact⟨m,h1.trans g1,g2⟩
theorem oL.eq {E:List (Nat×Nat)} {a b:Nat} (ha:oL E a) (hb:oL E b) (h:jI E a b):a=b:=Nat.le_antisymm (ha b h) (hb a h.symm)
open Classical in
noncomputable def jb (E:List (Nat×Nat)) (n:Nat):Nat:=(List.range n).countP fun v=>decide (oL E v)
def Dw (E:List (Nat×Nat)) (n:Nat):Prop:=∀e∈E,e.1<n/\e.2<n
theorem Gu {n m:Nat} (P Q:Nat->Bool) (hm:m<n) (hq:Q m=true) (h:∀v,v<n->P v=(Q v&&v != m)):(List.range n).countP P+1=(List.range n).countP Q:=by
 induction n with
 | zero=>omega
 | succ n ih=>
  rw[List.range_succ,List.countP_append,List.countP_append]
  by_cases he:m=n
  ·subst he
   have e1:(List.range m).countP P=(List.range m).countP Q:=by
    apply List.countP_congr
    intro v hv;have SA:=List.mem_range.1 hv;rw[h v (by omega)]
    simp;omega
   have e2:P m=false:=by rw[h m (by omega)];simp
   rw[e1];simp[e2,hq]
  ·have i:=ih (by omega) (fun v hv=>h v (by omega))
   have e2:P n=Q n:=by rw[h n (by omega)];simp;omega
   rw[<- i];simp[e2]
   omega
open Classical in
theorem tZ {E:List (Nat×Nat)} {n a b:Nat} (h:jI E a b):jb ((a,b)::E) n=jb E n:=by
 unfold jb;apply List.countP_congr
 intro v _
 have:∀u,jI ((a,b)::E) v u↔jI E v u:=by
  intro u;rw[jI.acE]
  exact⟨fun k=>by
   rcases k with k | ⟨k1,k2⟩ | ⟨k1,k2⟩
   ·exact k
   ·exact(k1.trans h).trans k2
   ·exact(k1.trans h.symm).trans k2,.inl⟩
 rw[decide_eq_true_eq,decide_eq_true_eq];exact forall_congr' fun u=>by rw[this]
open Classical in
theorem t_ {E:List (Nat×Nat)} {n a b:Nat} (h:¬jI E a b) (ha:a<n) (hb:b<n):jb ((a,b)::E) n+1=jb E n:=by
 obtain⟨la,a1,a2⟩:=xD E a a (Nat.le_refl _);obtain⟨lb,b1,b2⟩:=xD E b b (Nat.le_refl _);have Fp:la<=a:=a2 a a1.symm;have qw:lb<=b:=b2 b b1.symm
 have iJ:la≠lb:=fun e=>h (a1.trans (by rw[e];exact b1.symm))
 unfold jb;refine Gu (m:=max la lb) _ _ (by omega) ?_ ?_
 ·rcases Nat.le_total la lb with k | k
  ·rw[Nat.max_eq_right k];simpa using b2
  ·rw[Nat.max_eq_left k];simpa using a2
 ·intro v _;rw[Bool.eq_iff_iff];simp only[decide_eq_true_eq,Bool.and_eq_true,bne_iff_ne,ne_eq];have hj:jI ((a,b)::E) la lb:=jI.acE.2 (.inr (.inl ⟨a1.symm,b1⟩));constructor
  ·intro hv;refine⟨fun u hu=>hv u (jI.acE.2 (.inl hu)),fun e=>?_⟩
   rcases Nat.le_total la lb with k | k
   ·rw[Nat.max_eq_right k]at e;subst e;have:=hv la hj.symm;omega
   ·rw[Nat.max_eq_left k]at e;subst e;have:=hv lb hj;omega
  ·rintro⟨hv,hm⟩ u hu;rcases jI.acE.1 hu with k | ⟨k1,k2⟩ | ⟨k1,k2⟩
   ·exact hv u k
   ·have e:=oL.eq hv a2 (k1.trans a1)
    have:=b2 u (b1.symm.trans k2)
    omega
   ·have e:=oL.eq hv b2 (k1.trans b1)
    have:=a2 u (a1.symm.trans k2)
    omega
open Classical in
theorem xE (n:Nat):jb [] n=n:=by
 unfold jb;rw[List.countP_eq_length.2]
 ·simp
 ·intro v _
  have:oL [] v:=by
   intro u hu
   have:∀ {x y},jI [] x y->x=y:=by
    intro x y h
    induction h with
    | refl=>rfl
    | step _ k _=>simp at k
   rw[this hu];exact Nat.le_refl _
  simpa using this
theorem JI {E:List (Nat×Nat)} {n:Nat} (h:Dw E n):n<=jb E n+E.length:=by
 induction E with
 | nil=>rw[xE];simp
 | cons e E ih=>
  obtain⟨a,b⟩:=e;have i:=ih fun e he=>h e (List.mem_cons_of_mem _ he)
  have yk:=h (a,b) (by simp)
  by_cases hc:jI E a b
  ·rw[tZ hc];simp;omega
  ·have:=t_ hc yk.1 yk.2
   simp;omega
open Classical in
theorem Dx {E F:List (Nat×Nat)} {n:Nat} (h:∀e,e∈E↔e∈F):jb E n=jb F n:=by
 unfold jb;apply List.countP_congr
 intro v _
 have:∀u,jI E v u↔jI F v u:=fun u=>⟨jI.sub fun e=>(h e).1,jI.sub fun e=>(h e).2⟩
 rw[decide_eq_true_eq,decide_eq_true_eq];exact forall_congr' fun u=>by rw[this]
theorem oM {α:Type} {E:List α} {i:Nat} {e:α} (h:E[i]?=some e) (x:α):x∈E↔x∈e::E.eraseIdx i:=by
 obtain⟨hl,rfl⟩:=List.getElem?_eq_some_iff.1 h;rw[List.eraseIdx_eq_take_drop_succ];have e:E=E.take i++E[i]::E.drop (i+1):=by rw[<- List.drop_eq_getElem_cons hl,List.take_append_drop]
 have e2:x∈E↔x∈E.take i++E[i]::E.drop (i+1):=by rw[<- e]
 rw[e2];simp only[List.mem_append,List.mem_cons];constructor
 ·rintro(k | k | k)
  ·exact .inr (.inl k)
  ·exact .inl k
  ·exact .inr (.inr k)
 ·rintro(k | k | k)
  ·exact .inr (.inl k)
  ·exact .inl k
  ·exact .inr (.inr k)
theorem Dy {E:List (Nat×Nat)} {n:Nat} (h:Dw E n):jb E n+E.length=n↔∀(i:Nat) (e:Nat×Nat),E[i]?=some e->¬jI (E.eraseIdx i) e.1 e.2:=by
 constructor
 ·intro hn i e he hc;obtain⟨hl,_⟩:=List.getElem?_eq_some_iff.1 he;have e1:jb E n=jb (e::E.eraseIdx i) n:=Dx (oM he);have e2:=tZ (n:=n) hc;have e3:=JI (E:=E.eraseIdx i) (n:=n) fun x hx=>h x (List.mem_of_mem_eraseIdx hx)
  rw[List.length_eraseIdx_of_lt hl]at e3;rw[show(e.1,e.2)=e from rfl]at e2;omega
 ·intro hb
  induction E with
  | nil=>rw[xE];simp
  | cons e E ih=>
   obtain⟨a,b⟩:=e;have yk:=h (a,b) (by simp);have h0:=hb 0 (a,b) rfl;simp only[List.eraseIdx_cons_zero]at h0
   have i:=ih (fun e he=>h e (List.mem_cons_of_mem _ he)) fun i e he hc=>hb (i+1) e (by simpa using he) (hc.sub fun x hx=>by rw[List.eraseIdx_cons_succ];exact List.mem_cons_of_mem _ hx)
   have:=t_ h0 yk.1 yk.2
   simp;omega
end Go.Proofs.YtgmdpppljkmabaaGreat
