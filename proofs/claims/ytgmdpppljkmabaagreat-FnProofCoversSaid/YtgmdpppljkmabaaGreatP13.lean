/- Parts of the proof: walks of functions and plain laws. -/
import Derived.Test.YtgmdpppljkmabaaGreatP0
import Derived.Test.YtgmdpppljkmabaaGreatP1
import Derived.Test.YtgmdpppljkmabaaGreatP12
import Derived.Test.YtgmdpppljkmabaaGreatP6
import Derived.Test.YtgmdpppljkmabaaGreatP5
import Derived.Test.YtgmdpppljkmabaaGreatP4
import Derived.Test.YtgmdpppljkmabaaGreatP10
set_option maxRecDepth 100000
set_option maxHeartbeats 16000000
namespace Go.Proofs.YtgmdpppljkmabaaGreat
open Go Go.RowKit
def Vf (b:Bool):List Value:=[.bool b]
theorem rQ (xs:List Bool):xs.flatMap Vf=xs.map Value.bool:=by
 induction xs with
 | nil=>rfl
 | cons x xs ih=>rw[List.flatMap_cons,ih];rfl
def kv:World->Nat->Value->List Bool->List Nat->Prop:=Jg 4 1 Vf
theorem G5:fh kv:=Ag _ _ _
def k6:World->Nat->Value->List (List Bool)->List Nat->Prop:=bu 198 kv
theorem sp:fh k6:=jv _ G5
theorem G6:(Tryz.prog.info? 4).map (fun i=>(i.zero,i.size,i.bytes))=some (some (.bool false),1,1):=by kernel_rfl
theorem G7:(Tryz.prog.info? 198).map (fun i=>(i.zero,i.size,i.bytes))=some (some (.slice none 0 0),1,24):=by kernel_rfl
theorem kv.row {w:World} {base:Nat} {v:Value} {xs:List Bool} {S:List Nat} (h:kv w base v xs S):w.ownsRow base 4 1 v xs.length (xs.map Value.bool):=by
 have:=h.1
 rwa [rQ]at this
theorem kv.mk {w:World} {base:Nat} {v:Value} {xs:List Bool} (h:w.ownsRow base 4 1 v xs.length (xs.map Value.bool)):kv w base v xs v.ownBlock.toList:=⟨by rw[rQ];exact h,rfl⟩
theorem kv.cell {w:World} {base g c n:Nat} {xs:List Bool} {S:List Nat} {k:Nat} {x:Bool} (h:kv w base (.slice (some ⟨g,0,none⟩) n c) xs S) (hk:xs[k]?=some x):w.cell? ⟨g,k,none⟩=some (.bool x):=by
 have h':=h.row;obtain rfl:=fA h'
 have az:k<xs.length:=al hk
 rw[World.ownsRow.cellAt h' k (by omega)];simp[hk]
theorem kv.set {w:World} {base g c n:Nat} {xs:List Bool} {S:List Nat} (k:Nat) (x:Bool) (h:kv w base (.slice (some ⟨g,0,none⟩) n c) xs S):kv (w.setCell ⟨g,k,none⟩ (.bool x)) base (.slice (some ⟨g,0,none⟩) n c) (xs.set k x) S:=by
 have hS:=h.2;have h':=h.row;obtain rfl:=fA h'
 have:=(World.ownsRow.stored h' k (.bool x)).1
 refine⟨?_,hS⟩;rw[rQ,List.length_set,List.map_set];exact this
def BL (w:World) (v:Value) (xs:List Bool):Prop:=
 ∃(A:Option Addr) (c:Nat),v=.slice A xs.length c/\xs.length<=c/\c<=maxLen/\∀k x,xs[k]?=some x->∃b off,A=some ⟨b,off,none⟩/\w.cell? ⟨b,off+k,none⟩=some (.bool x)
def nl (w:World) (v:Value) (zK:List (List Bool)):Prop:=
 ∃(A:Option Addr) (c:Nat),v=.slice A zK.length c/\zK.length<=c/\c<=maxLen /\
  (∀k xs,zK[k]?=some xs->∃b off u,A=some ⟨b,off,none⟩/\w.cell? ⟨b,off+k,none⟩=some u/\BL w u xs)
theorem BL.keep {w w':World} {v:Value} {xs:List Bool} (h:BL w v xs) (hb:Below w.heap.size w w'):BL w' v xs:=by
 obtain⟨A,c,hv,hc,hm,hA⟩:=h;refine⟨A,c,hv,hc,hm,fun k x hk=>?_⟩
 obtain⟨b,off,yc,h1⟩:=hA k x hk;exact⟨b,off,yc,bc hb h1⟩
theorem nl.keep {w w':World} {v:Value} {xs:List (List Bool)} (h:nl w v xs) (hb:Below w.heap.size w w'):nl w' v xs:=by
 obtain⟨A,c,hv,hc,hm,hA⟩:=h;refine⟨A,c,hv,hc,hm,fun k x hk=>?_⟩
 obtain⟨b,off,u,yc,h1,h2⟩:=hA k x hk;exact⟨b,off,u,yc,bc hb h1,h2.keep hb⟩
theorem kv.read {w:World} {base:Nat} {v:Value} {xs:List Bool} {S:List Nat} (h:kv w base v xs S):BL w v xs:=by
 rcases dF h.row with⟨rfl,h0⟩ | ⟨g,c,rfl,hb,hg,hc,hm⟩
 ·obtain rfl:xs=[]:=List.eq_nil_of_length_eq_zero h0
  exact⟨none,0,rfl,Nat.le_refl _,Nat.zero_le _,fun k x hk=>by simp at hk⟩
 ·exact⟨_,c,rfl,hc,hm,fun k x hk=>⟨g,0,rfl,by rw[Nat.zero_add];exact h.cell hk⟩⟩
theorem k6.read {w:World} {base:Nat} {v:Value} {fv:List (List Bool)} {S:List Nat} (h:k6 w base v fv S):nl w v fv:=by
 obtain⟨vs,Ss,h1,h2,h3,h4,h5⟩:=h;rcases dF h1 with⟨rfl,h0⟩ | ⟨g,c,rfl,hb,hg,hc,hm⟩
 ·obtain rfl:fv=[]:=List.eq_nil_of_length_eq_zero h0
  exact⟨none,0,rfl,Nat.le_refl _,Nat.zero_le _,fun k x hk=>by simp at hk⟩
 ·have CF:vs.length=fv.length:=by simpa using h1.1
  refine⟨_,c,rfl,hc,hm,fun k x hk=>?_⟩
  have az:=al hk;obtain⟨u,hu⟩:=aA vs k (by omega);obtain⟨T,hT⟩:=aA Ss k (by omega)
  exact⟨g,0,u,rfl,by rw[Nat.zero_add,h1.cellAt (cap:=c) _ (by omega)];exact hu,kv.read (h3 k u x T hu hk hT)⟩
theorem G8 (w:World) (base:Nat):k6 w base (.slice none 0 0) [] []:=⟨[],[],World.ownsRow_nil w base _ _,rfl,fun k u x T h=>by simp at h,by simp[Value.ownBlock],by simp⟩
section
variable {ops : Array Oper} {rest : List Oper} {o : Oper} {a : Act} {Q : Exit → Act → World → Prop}
theorem Kx (w:World) (hg:o.guard=none) (l c:Operand) (s_:o.op=Op.makeSlice 198 l c) (L C:Int) (n:Nat) (hl:a.eval l=.int .i64 L) (hc:a.eval c=.int .i64 C) (hL:L=(n:Int)) (hC:C=(n:Int)) (hn:n<=17592186044416)
  (hK:∀w',kv w' w.heap.size (.slice (some ⟨w.heap.size,0,none⟩) n n) (List.replicate n false) [w.heap.size]->Below w.heap.size w w'->wpList Tryz.prog ops Q rest (a.put o.dst (.slice (some ⟨w.heap.size,0,none⟩) n n)) w'):wpList Tryz.prog ops Q (o::rest) a w:=by
 obtain⟨i0,hi,gx,dh,dt⟩:=info_parts G6
 refine wpList_make_full w hg l c 198 s_ w.heap.size 4 i0 (.bool false) 1 Tryz.underlying198 hi gx dh .i64 .i64 L C n hl hc hL hC (by rw[dt];omega) (by unfold maxLen;omega) (Nat.le_refl _) ?_
 intro w' ho vJ
 have kR:kv w' w.heap.size (.slice (some ⟨w.heap.size,0,none⟩) n n) (List.replicate n false) (Value.slice (some ⟨w.heap.size,0,none⟩) n n).ownBlock.toList:=by
  refine kv.mk ?_;rw[List.length_replicate,List.map_replicate];rw[show(Value.bool false).cells=#[Value.bool false]from rfl,toList_madeCells_one]at ho
  simpa using ho
 exact hK w' kR (rZ vJ)
theorem G9 {w:World} (iG:o.guard=none) (s x:Operand)
  (ho:o.op=.call { callee:=.builtin .append,args:=#[s,x],argTypes:=#[196,196] }) {base:Nat} {v u:Value} {zK:List (List Bool)} {S T:List Nat} {xs:List Bool} (hs:a.eval s=v) (h:k6 w base v zK S)
  (b:Nat) (hx:a.eval x=.slice (some ⟨b,0,none⟩) 1 1) (hc:w.cell? ⟨b,0,none⟩=some u) (hu:kv w base u xs T) (hd:∀j∈T,j∉S) (hl:zK.length+1<=4000000) (Mg:base<=w.heap.size)
  (k:∀g cap w' S',k6 w' base (.slice (some ⟨g,0,none⟩) (zK.length+1) cap) (zK++[xs]) S'->Below base w w'->wpList Tryz.prog ops Q rest (a.put o.dst (.slice (some ⟨g,0,none⟩) (zK.length+1) cap)) w'):wpList Tryz.prog ops Q (o::rest) a w:=by
 obtain⟨i0,hi,gx,dh,dt⟩:=info_parts G7;have hvr:=sp.range h;have h1b:=h;obtain⟨vs,Ss,r1,r2,r3,r4,r5⟩:=h;obtain⟨A,m,c,rfl⟩:=G5.one hu
 refine wpList_append_lies w iG s x 196 ho base 198 i0 _ 1 24 Tryz.underlying196 hi gx dh dt rfl (by decide) v zK.length vs hs r1 ⟨b,0,none⟩ 1 1 [.slice A m c] hx rfl
  (by intro j u hj;match j,hj with | 0,hj=>(simp at hj;subst hj;simpa[Addr.add]using hc) | j+1,hj=>simp at hj) (by simp[Value.oneCell']) (by omega) (by unfold maxLen;omega) (by omega) Mg w.heap.size rfl ?_
 intro g cap w' q1 q2 q3 q4;obtain⟨S',o1,-⟩:=bu.snoc G5 h1b hu hd vs Ss r1 r2 r3 r4 r5 q1 q2 q3
 exact k g cap w' S' o1 (Below.grown (Below.refl base w |>.mono (Nat.le_refl _)) q2 Mg (fun q hq=>(hvr q (by rw[r4,hq];simp)).1))
end
def jW (n:aj) (k:Nat):List (List Bool):=(n.ends.take k).map fun es=>List.replicate es.length true
theorem Eg {n:aj} {k:Nat} {es:List (Int×Int)} (h:n.ends[k]?=some es):jW n (k+1)=jW n k++[List.replicate es.length true]:=by
 unfold jW;rw[aV h,List.map_append];rfl
theorem nT {n:aj} {k:Nat} (h:k<=n.ends.length):(jW n k).length=k:=by simp[jW];omega
theorem G_ (ve vi vn:Value) (n:aj) (w:World) (h:aC w ve vi vn n) (hn:ak n=true):
  Calls Tryz.prog 238 #[.agg #[ve,vi,vn]] w fun e w'=>∃u S,e=.returned u/\k6 w' w.heap.size u (jW n n.ends.length) S/\Below w.heap.size w w':=by
 have gT:=aB hn;have ul:=gT.1;have uq:=gT.2;have Hn:=zh hn
 obtain⟨w0,A,c,A2,c2,A3,c3,rfl,rfl,rfl,fg,hm,f8,fP,HA,bS,aT,H,dP,d9,dV⟩:=zB h;clear h
 have aU:ab w0 w0:=aa _;clear hn gT
 go_enter Tryz.func238,Tryz.ntmps238
 go_upto_region 1 with(fail);rw[<- bS.out];go_wp2
 go_loopw [3,11] (fun u i wr=>∃(k:Nat) (S:List Nat),k<=n.ends.length/\i=.int .i64 k/\k6 wr w0.heap.size u (jW n k) S/\ab w0 wr) (fun _ i _=>n.ends.length-(intOf i).toNat)
 case atStart=>exact⟨0,[],Nat.zero_le _,rfl,G8 _ _,aU⟩
 case round=>
  obtain⟨k,S,hk,rfl,ho,bG⟩:=hrel;have Ho:=zh ho;have Hs:=zh bG;clear aU ho
  by_cases az:k<n.ends.length
  ·obtain⟨es,bM⟩:=aA n.ends k az;have sI:=(bV Hn.out bM).1;obtain⟨b,tY,cr,ur,gh,wj,eD,vQ⟩:=fi H.out.es bM;cases gh;obtain⟨A1,z1,rfl,dh,dt,gh⟩:=vQ;unfold maxLen at dt;have r1:=ag (ae eD) Hs.out;have q5:=r1 wr (aa _);have m4:IntKind.i64.wrap ((k:Int)+1)=(k:Int)+1:=aH _ (by omega) (by omega);have pP:=zh (Eg bM)
   have dz:Hid ((jW n k).length+1<=4000000):=by show _<=_;rw[nT hk];omega
   clear bM eD gh
   go_wp2_with (at_make;refine Kx _ rfl _ _ rfl _ _ es.length rfl rfl rfl rfl (by omega) ?_;intro w1 gR aN)
   obtain⟨g,hg⟩:∃g,g=wr.heap.size:=⟨_,rfl⟩
   rw[<- hg]at gR ⊢;have Hg:=zh hg
   have vS:Hid (kv w1 g (.slice (some ⟨g,0,none⟩) es.length es.length) (List.replicate 0 true++List.replicate (es.length-0) false) [g]):=by show kv _ _ _ _ _;simpa using gR
   have HR1:=zh (sp.keep Ho.out aN);have dM:Hid (ab w0 w1):=Hs.out.after aN
   have HSg:Hid (∀j∈S,j<g):=fun j hj=>by rw[hg];exact(sp.range Ho.out j hj).2
   have Eh:Hid (w0.heap.size<=g):=by show _<=_;rw[hg];exact Hs.out.below.size
   clear gR aN hg bG;go_wp2
   go_loopw [20] (fun i wq=>∃j:Nat,j<=es.length/\i=.int .i64 j/\kv wq g (.slice (some ⟨g,0,none⟩) es.length es.length) (List.replicate j true++List.replicate (es.length-j) false) [g]/\k6 wq w0.heap.size u3 (jW n k) S/\ab w0 wq) (fun i _=>es.length-(intOf i).toNat)
   case atStart=>exact⟨0,Nat.zero_le _,rfl,vS.out,HR1.out,dM.out⟩
   case round=>
    obtain⟨j,hj,rfl,rN,Vg,nk⟩:=hrel;have Kd:=zh rN;have Vh:=zh Vg;have i_:=zh nk;clear rN Vg
    by_cases lq:j<es.length
    ·have m3:IntKind.i64.wrap ((j:Int)+1)=(j:Int)+1:=aH _ (by omega) (by omega)
     obtain⟨y,hy⟩:=aA (List.replicate j true++List.replicate (es.length-j) false) j (by simp;omega)
     have cz:=Kd.out.cell hy;have fz:=qj Kd.out.row j
     have He:Hid ((List.replicate j true++List.replicate (es.length-j) false).set j true=List.replicate (j+1) true++List.replicate (es.length-(j+1)) false):=by
      show _=_
      rw[List.set_append_right _ _ (by simp),List.length_replicate,Nat.sub_self,show es.length-j=(es.length-(j+1))+1 by omega,List.replicate_succ,List.set_cons_zero,List.replicate_succ',List.append_assoc]
      rfl
     clear hy nk;go_wp2;go_roundw
     case rel=>exact⟨j+1,by omega,by first | rfl | go_num,by rw[<- He.out];exact Kd.out.set j true,sp.aco Vh.out (fun i hi=>Below.heap_setCell wr _ _ i (by have:=HSg.out i hi;show i≠g;omega)),Below.setCell i_.out Eh.out _⟩
     case measure=>simp[intOf];omega
    ·obtain rfl:j=es.length:=by omega
     have wU:Hid (kv wr w0.heap.size (.slice (some ⟨g,0,none⟩) es.length es.length) (List.replicate es.length true) [g]):=by
      have:=Kd.out
      rw[Nat.sub_self,List.replicate_zero,List.append_nil]at this;exact G5.mono this Eh.out
     obtain⟨wA,IU⟩:∃wA,wA=wr.alloc (.cells #[.slice (some ⟨g,0,none⟩) es.length es.length] 198):=⟨_,rfl⟩
     have NA:Hid (ab w0 wA):=by rw[IU];exact ad _ i_.out
     have HBA:Hid (kv wA w0.heap.size (.slice (some ⟨g,0,none⟩) es.length es.length) (List.replicate es.length true) [g]):=by rw[IU];exact G5.keep wU.out (ai _ _)
     have HOA:Hid (k6 wA w0.heap.size u3 (jW n k) S):=by rw[IU];exact sp.keep Vh.out (ai _ _)
     have HcA:Hid (wA.cell? ⟨wr.heap.size,0,none⟩=some (.slice (some ⟨g,0,none⟩) es.length es.length)):=by show _=_;rw[IU];simp
     have Yu:=zh IU
     have HD:Hid (∀j∈[g],j∉S):=fun j hj hS=>by have:=HSg.out j hS;simp at hj;omega
     clear IU nk
     go_wp2_with (at_builtin;rw[<- Yu.out];refine G9 rfl _ _ rfl rfl HOA.out wr.heap.size rfl HcA.out HBA.out HD.out dz.out NA.out.below.size ?_;intro g3 Bf w3 S3 ex bB;have jy:=zh ex;have FL:=zh bB;clear ex bB)
     go_wp2;go_roundw
     case rel=>exact⟨k+1,S3,by omega,by first | rfl | go_num,by rw[pP.out];exact jy.out,Below.trans NA.out FL.out⟩
     case measure=>simp[intOf];omega
  ·obtain rfl:k=n.ends.length:=by omega
   obtain⟨A9,m9,c9,rfl⟩:=sp.one Ho.out;clear hk az bG;go_wp2;go_ret;exact⟨_,_,rfl,sp.mono Ho.out aT.out.size,ab.after aT.out Hs.out⟩
theorem xX {n:aj} (h:ak n=true):n.ids.length<=40:=by
 have hl:=aB h;unfold ak at h;simp only[Bool.and_eq_true]at h;have h2:=h.1.1.2;unfold sF at h2;rw[Bool.or_eq_true]at h2;rcases h2 with h2 | h2
 ·have:n.ids=[]:=List.isEmpty_iff.1 h2
  rw[this];simp
 ·rw[Bool.and_eq_true]at h2
  have:(n.ids.length:Int)=n.ends.length:=by simpa using h2.1
  omega
def qT (n:aj) (k:Nat):Prop:=((cj n).take k).any (l_ n)=false
theorem y8 (n:aj):qT n 0:=rfl
theorem BM {n:aj} (h:qT n (cj n).length):kK n=true:=by
 unfold qT at h;rw[List.take_length]at h;unfold kK
 rw[h];rfl
theorem BO {n:aj} {k:Nat} {x:Ed} (hx:(cj n)[k]?=some x) (h:l_ n x=true):kK n=false:=by
 unfold kK
 rw[List.any_eq_true.2 ⟨x,List.mem_of_getElem? hx,h⟩];rfl
theorem Hh {n:aj} (hn:ak n=true) {k:Nat} {x:Ed} (hx:(cj n)[k]?=some x):∃(v i y j:Nat),x=((v:Int),(i:Int),(y:Int),(j:Int))/\v<n.ends.length/\y<n.ends.length:=by
 obtain⟨v,i,f,hv,hp,_,rfl⟩:=bN.1 (List.mem_of_getElem? hx);obtain⟨p1,p2,p3,p4,p5⟩:=cY hn hp;exact⟨v,i,f.1.toNat,f.2.toNat,by rw[show((f.1.toNat:Nat):Int)=f.1 by omega,show((f.2.toNat:Nat):Int)=f.2 by omega],hv,by omega⟩
theorem rR (ve vi vn:Value) (n:aj) (w:World) (h:aC w ve vi vn n) (hn:ak n=true):
  Calls Tryz.prog 48 #[.agg #[ve,vi,vn]] w fun e w'=>∃u,e=.returned (.tuple #[u,.bool (kK n)])/\Own w' w.heap.size u (if kK n=true then lf n else [])/\Below w.heap.size w w':=by
 have gT:=aB hn;have ul:=gT.1;have uq:=gT.2
 have sk:Hid (n.ids.length<=17592186044416):=by show _<=_;have:=xX hn;omega
 have Hn:=zh hn
 obtain⟨w0,A,c,A2,c2,A3,c3,rfl,rfl,rfl,fg,hm,f8,fP,HA,bS,aT,H,dP,d9,dV⟩:=zB h;clear h
 have aU:ab w0 w0:=aa _;obtain⟨rb,iy⟩:∃rb,kK n=rb:=⟨_,rfl⟩
 have iH:=zh iy;rw[iy];clear hn gT iy
 go_enter Tryz.func48,Tryz.ntmps48
 go_upto_region 1 with(fail);rw[<- bS.out];go_wp2_with fail;refine(ec _ _ _ n w0 H.out sk.out).mono ?_;rw[Hn.out];rintro e w1 ⟨rfl,aN⟩;have dM:Hid (ab w0 w1):=aN;have dr:=dM.out;clear aN aU;go_wp2_with fail;refine(uQ _ _ _ n w1 (H.out.keep dM.out.below) Hn.out).mono ?_;rintro e w2 ⟨u2,rfl,cZ,bx⟩;have eG:(bW n).length=n.ends.length:=by simp[bW]
 obtain⟨gc,cc,rfl⟩:∃gc cc,u2=.slice (some ⟨gc,0,none⟩) n.ends.length cc:=by
  rcases cZ.cases with⟨-,e1⟩ | ⟨gc,cc,rfl,kE,l7⟩
  ·have:=congrArg List.length e1;rw[eG,List.length_nil]at this;omega
  ·exact⟨gc,cc,by rw[eG]⟩
 have fG:=zh cZ;have cW:=zh (dM.out.after bx);clear cZ bx eG dr;go_wp2
 go_loopw [4,15] (fun u i wr=>∃k:Nat,k<=n.ends.length/\i=.int .i64 k/\Own wr w2.heap.size u ((List.range k).map (fC n))/\ab w2 wr) (fun _ i _=>n.ends.length-(intOf i).toNat)
 case atStart=>exact⟨0,Nat.zero_le _,rfl,by simpa using bU _ w2.heap.size,aa _⟩
 case round=>
  obtain⟨k,hk,rfl,ho,bG⟩:=hrel;have Ho:=zh ho;have Hs:=zh bG;clear ho bG
  by_cases az:k<n.ends.length
  ·have m3:IntKind.i64.wrap ((k:Int)+1)=(k:Int)+1:=aH _ (by omega) (by omega);obtain⟨p,hp⟩:∃p,p=am n k:=⟨_,rfl⟩
   have Be:p<n.ends.length:=by rw[hp];exact dX Hn.out az
   have c1:=(fG.out.since Hs.out).cell (show(bW n)[k]?=some (p:Int)by rw[hp];unfold bW;rw[List.getElem?_map,List.getElem?_range az];rfl)
   have qU:=zh (cW.out.after Hs.out);have wV:=qU.out;have Hp:=zh hp
   have dz:Hid (((List.range k).map (fC n)).length+1<=17592186044416):=by show _<=_;simp;omega
   have kG:=zh (Gy n k);clear hp;go_wp2_with fail;refine(kZ _ _ _ n p wr (H.out.keep qU.out.below) Hn.out Be).mono ?_;obtain⟨ds,xF⟩:∃ds,ds=bC n p:=⟨_,rfl⟩
   rw[<- xF];rintro e w3 ⟨u3,rfl,ex,bB⟩
   have zF:ds.length=n.ends.length:=by rw[xF];exact j2 Hn.out _ _ _ (BI.start Be)
   obtain⟨d,hd⟩:=aA ds k (by omega)
   obtain⟨gd,cd,rfl⟩:∃gd cd,u3=.slice (some ⟨gd,0,none⟩) n.ends.length cd:=by
    rcases ex.cases with⟨-,e1⟩ | ⟨gd,cd,rfl,kE,l7⟩
    ·have:=congrArg List.length e1;rw[List.length_nil]at this;omega
    ·exact⟨gd,cd,by rw[zF]⟩
   have JM:=ex.cell hd;obtain⟨y,hy⟩:∃y,y=fC n k:=⟨_,rfl⟩
   have QV:Int.tmod d 2=y:=by rw[hy];exact Fr Hn.out az (by rw[<- Hp.out,<- xF];exact hd)
   have IT:0<=d:=by have:=(ut Hn.out az).1;rw[<- Hp.out,<- xF,ao hd]at this;exact this
   have UW:d%2=y:=by rw[<- QV];exact(Int.tmod_eq_emod_of_nonneg IT).symm
   have gZ:=zh (Hs.out.after bB);have jy:=zh (Ho.out.since bB);rw[<- hy]at kG;clear ex bB hd hy xF zF c1 IT wV
   go_wp2_with (at_builtin;refine c_ rfl _ _ rfl rfl (jy.out.since (ad _ (aa _))) w3.heap.size y rfl (by simp[go_sem]) dz.out (ad _ gZ.out) ?_;intro g cx w4 mW zI)
   have vN:=zh mW;have te:=zh zI;clear mW zI;go_wp2;go_roundw
   case rel=>exact⟨k+1,by omega,by first | rfl | go_num,by rw[kG.out];have:=vN.out;simpa using this,te.out⟩
   case measure=>simp[intOf];omega
  ·obtain rfl:k=n.ends.length:=by omega
   have gZ:=zh (cW.out.after Hs.out);have jJ:=gZ.out
   obtain⟨A9,c9,rfl⟩:∃gd cd,u4=.slice (some ⟨gd,0,none⟩) n.ends.length cd:=by
    rcases Ho.out.cases with⟨-,e1⟩ | ⟨gd,cd,rfl,kE,l7⟩
    ·have:=congrArg List.length e1;rw[List.length_map,List.length_range,List.length_nil]at this;omega
    ·exact⟨gd,cd,by simp⟩
   have HT:Hid (Own wr w2.heap.size (.slice (some ⟨A9,0,none⟩) n.ends.length c9) (lf n)):=Ho.out;have Hlt:=zh az;clear hk az Ho;go_wp2_with fail;refine(Gs _ _ _ n wr (H.out.keep gZ.out.below) Hn.out).mono ?_;rintro e w5 ⟨u5,rfl,vU,pS⟩;obtain⟨A5,c5,rfl,Qb,hl5,yM⟩:=vU.read;unfold maxLen at Qb;have ZY:=zh yM;have tf:Hid (ab wr w5):=pS;have IL:=sb Hn.out n.ends.length
   have Sy:Hid ((cj n).length<=1000000):=by show _<=_;show(ey n n.ends.length).length<=_;omega
   have Vi:=Sy.out;clear vU pS yM jJ IL;go_wp2
   go_loopw [34] (fun i wq=>∃j:Nat,j<=(cj n).length/\i=.int .i64 j/\qT n j/\ab w5 wq) (fun i _=>(cj n).length-(intOf i).toNat)
   case atStart=>exact⟨0,Nat.zero_le _,rfl,y8 n,aa _⟩
   case round=>
    obtain⟨j,hj,rfl,s8,nk⟩:=hrel;have UX:=zh s8;have i_:=zh nk;clear s8 nk
    by_cases lq:j<(cj n).length
    ·obtain⟨x,hx⟩:=aA (cj n) j lq;obtain⟨v,i,y,z,rfl,hv,hy⟩:=Hh Hn.out hx;obtain⟨b,rfl,q0,q1,q2,q3⟩:=ZY.out j _ hx;have r0:=ae q0 wr i_.out;have r1:=ae q1 wr i_.out;have r2:=ae q2 wr i_.out;have r3:=ae q3 wr i_.out;have UY:=zh (HT.out.since (tf.out.after i_.out));have t1:=ae (UY.out.cell (mS hv));have t2:=ae (UY.out.cell (mS hy));have m2:IntKind.i64.wrap ((j:Int)+1)=(j:Int)+1:=aH _ (by omega) (by omega);obtain⟨w8,jV⟩:∃w8,w8=wr.alloc (.cells #[.int .i64 v,.int .i64 i,.int .i64 y,.int .i64 z] 136):=⟨_,rfl⟩
     obtain⟨be,ln⟩:∃be,be=wr.heap.size:=⟨_,rfl⟩
     have d0:∀W,ab w8 W->W.cell? ⟨be,0,none⟩=some (.int .i64 v):=ae (by rw[jV,ln];simp)
     have d2:∀W,ab w8 W->W.cell? ⟨be,2,none⟩=some (.int .i64 y):=ae (by rw[jV,ln];simp)
     have kH:ab wr w8:=by rw[jV];exact ad _ (aa _)
     have t1:=ag t1 kH;have t2:=ag t2 kH;have iS:=zh kH;have Gt:=zh jV;have Sz:=zh ln;have Hx:=zh hx;obtain⟨a1,BJ⟩:∃a,fC n v=a:=⟨_,rfl⟩
     obtain⟨a2,Pe⟩:∃a,fC n y=a:=⟨_,rfl⟩
     have Nz:Hid (l_ n ((v:Int),(i:Int),(y:Int),(z:Int))=(a1==a2)):=by
      show _=_
      unfold l_;simp only[Int.toNat_natCast];rw[fm hv,fm hy,BJ,Pe]
     rw[BJ]at t1;rw[Pe]at t2;clear hx q0 q1 q2 q3 jV ln kH BJ Pe;go_upto_region 12 with(fail);rw[<- Gt.out,<- Sz.out];clear r0 r1 r2 r3;refine av 11 (ab w8) (by kernel_rfl) (by kernel_rfl) (by simp) (ah (aa _)) ?_;simp only[zT]
     iterate 11 (refine b_ rfl ?_;simp only[zA])
     intro W hW;have HW:=zh (i_.out.after (iS.out.after hW));clear hW d0 d2 t1 t2;cases hg:(a1==a2)
     ·have pc:Hid (qT n (j+1)):=by
       show _=_
       rw[aV Hx.out,List.any_append,show((cj n).take j).any (l_ n)=false from UX.out];simp only[List.any_cons,List.any_nil,Nz.out,hg,Bool.or_false]
      go_wp2;go_roundw
      case rel=>exact⟨j+1,by omega,by first | rfl | go_num,pc.out,HW.out⟩
      case measure=>simp[intOf];omega
     ·have UZ:=BO Hx.out (by rw[Nz.out];exact hg)
      rw[iH.out]at UZ;subst UZ;go_wp2
      go_ret2
      exact⟨.slice none 0 0,rfl,by simpa using bU _ _,ab.after aT.out (gZ.out.after (tf.out.after HW.out))⟩
    ·obtain rfl:j=(cj n).length:=by omega
     have CU:=BM UX.out;rw[iH.out]at CU;subst CU;go_wp2
     go_ret2
     refine⟨.slice (some ⟨A9,0,none⟩) n.ends.length c9,rfl,?_,ab.after aT.out (gZ.out.after (tf.out.after i_.out))⟩;exact(HT.out.since (tf.out.after i_.out)).mono (Nat.le_trans aT.out.size cW.out.below.size)
section
variable {P : Program} {ops : Array Oper}
theorem ch {S:World->Prop} {dD:Act->World->Prop} {o:Oper} {rest:List Oper} {A:Act} {W:World} {ob:Obj} {v:Value} (hw:Region.wanted o (yielded ops A.tmps)=true) (h:(execOp A.eval o).run P W=.ok (.value v) (W.alloc ob)) (hS:S (W.alloc ob))
  (hr:∀W',W'=W.alloc ob->S W'->bh P ops S dD rest (A.put o.dst v) W'):bh P ops S dD (o::rest) A W:=
 xA hw h hS (hr _ rfl hS)
end
structure pz (n:aj) (K:List (List Bool)) (kf:Nat->Nat->Bool):Prop where
 len:K.length=n.ends.length
 row:∀(v:Nat) (es:List (Int×Int)),n.ends[v]?=some es->∃row,K[v]?=some row/\row.length=es.length/\∀i,i<es.length->row[i]?=some (kf v i)
def iW (kf:Nat->Nat->Bool) (v m:Nat):List Int:=(List.range m).map fun i=>((h_ kf v i:Nat):Int)
theorem Ei (kf:Nat->Nat->Bool) (v m:Nat):iW kf v (m+1)=iW kf v m++[((h_ kf v m:Nat):Int)]:=by unfold iW;rw[List.range_succ,List.map_append];rfl
theorem xY (kf:Nat->Nat->Bool) (v m:Nat):(iW kf v m).length=m:=by simp[iW]
theorem Hj (kf:Nat->Nat->Bool) (v:Nat) {m i:Nat} (h:i<m):(iW kf v m)[i]?=some ((h_ kf v i:Nat):Int):=by
 unfold iW
 rw[List.getElem?_map,List.getElem?_range h];rfl
def mB (n:aj) (kf:Nat->Nat->Bool) (k j:Nat):List (List Int):=(List.range n.ends.length).map fun v=>if v<k then iW kf v (n.ends.getD v []).length else if v=k then iW kf k j else []
theorem uS (n:aj) (kf:Nat->Nat->Bool) (k j:Nat):(mB n kf k j).length=n.ends.length:=by simp[mB]
theorem nm {n:aj} {kf:Nat->Nat->Bool} {k j v:Nat} (h:v<n.ends.length):(mB n kf k j)[v]?=some (if v<k then iW kf v (n.ends.getD v []).length else if v=k then iW kf k j else []):=by
 unfold mB
 rw[List.getElem?_map,List.getElem?_range h];rfl
theorem Hw (n:aj) (kf:Nat->Nat->Bool):mB n kf 0 0=List.replicate n.ends.length []:=by
 unfold mB;apply List.ext_getElem?
 intro i;rw[List.getElem?_map,List.getElem?_replicate]
 by_cases h:i<n.ends.length
 ·rw[List.getElem?_range h,if_pos h];simp only[Option.map_some,Option.some.injEq];rw[if_neg (by omega)]
  split <;> rfl
 ·rw[List.getElem?_eq_none (by simpa using h),if_neg h];rfl
theorem Ky {n:aj} {kf:Nat->Nat->Bool} {k j:Nat} (hk:k<n.ends.length):(mB n kf k j).set k (iW kf k (j+1))=mB n kf k (j+1):=by
 apply List.ext_getElem?
 intro i;rw[List.getElem?_set]
 by_cases h:k=i
 ·subst h;rw[if_pos rfl,uS,if_pos hk,nm hk,if_neg (by omega),if_pos rfl]
 ·rw[if_neg h]
  by_cases h2:i<n.ends.length
  ·rw[nm h2,nm h2,if_neg (c:=i=k) (by omega),if_neg (c:=i=k) (by omega)]
  ·rw[List.getElem?_eq_none (by rw[uS];omega),List.getElem?_eq_none (by rw[uS];omega)]
theorem HH (n:aj) (kf:Nat->Nat->Bool) (k:Nat):mB n kf k (n.ends.getD k []).length=mB n kf (k+1) 0:=by
 unfold mB;apply List.map_congr_left
 intro v hv
 by_cases h1:v<k
 ·rw[if_pos h1,if_pos (by omega)]
 ·rw[if_neg h1]
  by_cases h2:v=k
  ·rw[if_pos h2,if_pos (by omega),h2]
  ·rw[if_neg h2,if_neg (by omega)]
   split <;> rfl
theorem HV {n:aj} {kf:Nat->Nat->Bool} {k j:Nat} {es:List (Int×Int)} {x:Int×Int} (bM:n.ends.getD k []=es) (hx:es[j]?=some x):eR n kf k (j+1)=eR n kf k j++(if kf k j=true then [(x.1,((h_ kf x.1.toNat x.2.toNat:Nat):Int))] else []):=by
 rw[l9]
 have:(dA n k).getD j (0,0)=x:=by unfold dA;rw[bM];exact ao hx
 rw[this]
theorem y_ {n:aj} (kf:Nat->Nat->Bool) (k:Nat):(List.range (k+1)).map (jh n kf)=(List.range k).map (jh n kf)++[jh n kf k]:=by rw[List.range_succ,List.map_append];rfl
theorem il (W:World) (x y:Value) (t:TypeId):(W.alloc (.cells #[x,y] t)).cell? ⟨W.heap.size,0,none⟩=some x/\(W.alloc (.cells #[x,y] t)).cell? ⟨W.heap.size,1,none⟩=some y:=⟨by simp,by simp⟩
theorem im {w:World} {ops:Array Oper} {rest:List Oper} {o:Oper} {a:Act} {Q:Exit->Act->World->Prop} (iG:o.guard=none) (s x:Operand)
  (ho:o.op=.call { callee:=.builtin .append,args:=#[s,x],argTypes:=#[81,81] }) {base:Nat} {v:Value} {xs:List (Int×Int)} {T:List Nat} (hs:a.eval s=v) (h:dU w base v xs T) (b:Nat) (y:Int×Int)
  (hx:a.eval x=.slice (some ⟨b,0,none⟩) 1 1) (hc:w.cell? ⟨b,0,none⟩=some (.int .i64 y.1)) (eD:w.cell? ⟨b,1,none⟩=some (.int .i64 y.2)) (hl:xs.length+1<=1000000) (vK:base<=w.heap.size)
  (k:∀g cap w',dU w' base (.slice (some ⟨g,0,none⟩) (xs.length+1) cap) (xs++[y]) [g]->w.grownBy w' v.ownBlock->(v.ownBlock=some g\/g=w.heap.size)->wpList Tryz.prog ops Q rest (a.put o.dst (.slice (some ⟨g,0,none⟩) (xs.length+1) cap)) w'):wpList Tryz.prog ops Q (o::rest) a w:=by
 obtain⟨i0,hi,gx,dh,dt⟩:=info_parts Ai
 refine wpList_append_lies w iG s x 81 ho base 83 i0 _ 2 16 Tryz.underlying81 hi gx dh dt rfl (by decide) v xs.length (xs.flatMap mL) hs h.1 ⟨b,0,none⟩ 1 1 [.int .i64 y.1,.int .i64 y.2] hx rfl
  (by intro j u hj;match j,hj with | 0,hj=>(simp at hj;subst hj;simpa[Addr.add]using hc) | 1,hj=>(simp at hj;subst hj;simpa[Addr.add]using eD) | j+2,hj=>simp at hj) (by simp[Value.oneCell']) (by omega) (by unfold maxLen;omega) (by omega) vK w.heap.size rfl ?_
 intro g cap w' q1 q2 q3 q4;have hq:w'.ownsRow base 83 2 (.slice (some ⟨g,0,none⟩) (xs.length+1) cap) (xs++[y]).length ((xs++[y]).flatMap mL):=by simpa[mL]using q1
 exact k g cap w' ⟨hq,by simp[Value.ownBlock]⟩ q2 q3
theorem H0 (ve vi vn vk:Value) (n:aj) (K:List (List Bool)) (kf:Nat->Nat->Bool) (w:World) (h:aC w ve vi vn n) (hn:ak n=true) (hK:nl w vk K) (TY:pz n K kf):
  Calls Tryz.prog 239 #[.agg #[ve,vi,vn],vk] w (o_ w (ij n kf)):=by
 have pj:=(aB hn).2;have abV:=zh pj
 have uI:Hid (n.ids.length<=17592186044416):=by show _<=_;have:=xX hn;omega
 have gT:Hid (n.acn.length<=17592186044416):=by show _<=_;rw[(xW hn).1];omega
 have Hn:=zh hn;have Hkf:=zh TY;have yT:Hid (∀(k:Nat) (es:List (Int×Int)),n.ends[k]?=some es->es.length<=6):=fun (k:Nat) (es:List (Int×Int)) he=>(bV hn he).1
 obtain⟨w0,A,c,A2,c2,A3,c3,rfl,rfl,rfl,fg,hm,f8,fP,HA,bS,aT,H,dP,d9,dV⟩:=zB h;clear h
 obtain⟨wz,QZ⟩:∃wz,wz=w0.alloc (.cells #[.slice none 0 0,.slice none 0 0,.slice none 0 0] 27):=⟨_,rfl⟩
 have fO:ab w0 wz:=by rw[QZ];exact ad _ (aa _)
 have HRz:Hid (∀X,ab wz X->aS X w0.heap.size (.slice none 0 0) (.slice none 0 0) (.slice none 0 0)):=fun X hX=>by
  refine aS.since (W:=wz) ?_ hX;rw[QZ];show(w0.heap.push _)[w0.heap.size]?=_
  rw[Array.getElem?_push_size]
 have HKz:Hid (∀X,ab wz X->nl X vk K):=fun X hX=>(hK.keep (aT.out)).keep (fO.after hX).below
 have zH:Hid (wz.heap.size=w0.heap.size+1):=by show _=_;rw[QZ];simp
 have z00:=ag dP fO;have z01:=ag d9 fO;have z02:=ag dV fO;have Hwz:=zh QZ;have lm:=zh fO;obtain⟨AK,cK,rfl,hlK,hmK,-⟩:=hK;unfold maxLen at hmK;have hKl:=TY.len;have HKl:=zh hKl;clear QZ fO dP d9 dV hn TY;rw[hKl]at hlK HKz ⊢;clear hKl
 go_enter Tryz.func239,Tryz.ntmps239
 go_upto_region 1 with(fail);rw[<- bS.out,<- Hwz.out]
 go_upto_region 2 with(at_make;refine Kp _ rfl _ _ rfl n.ends.length rfl rfl (by omega) ?_;intro w1 gR aN;have dr:ab wz w1:=aN)
 obtain⟨g,hg⟩:∃g,g=wz.heap.size:=⟨_,rfl⟩
 rw[<- hg]at gR ⊢
 have Hg:Hid (wz.heap.size<=g):=by rw[hg];exact Nat.le_refl _
 have vS:Hid (oS w1 wz.heap.size (.slice (some ⟨g,0,none⟩) n.ends.length n.ends.length) (mB n kf 0 0) [g]):=by rw[Hw];exact UL.mono gR Hg.out
 have dM:Hid (ab wz w1):=dr;clear gR aN hg;go_wp2;clear dr
 go_loopw [23] (fun i wr=>∃(k:Nat) (S:List Nat),k<=n.ends.length/\i=.int .i64 k/\oS wr wz.heap.size (.slice (some ⟨g,0,none⟩) n.ends.length n.ends.length) (mB n kf k 0) S/\ab wz wr) (fun i _=>n.ends.length-(intOf i).toNat)
 case atStart=>exact⟨0,_,Nat.zero_le _,rfl,vS.out,dM.out⟩
 case round=>
  obtain⟨k,S,hk,rfl,ho,bG⟩:=hrel;have Ho:=zh ho;have Hs:=zh bG;clear ho
  by_cases az:k<n.ends.length
  ·obtain⟨es,bM⟩:=aA n.ends k az;have sI:=yT.out k es bM;obtain⟨b,tY,cr,ur,gh,wj,eD,vQ⟩:=fi H.out.es bM;cases gh;obtain⟨A1,y1,rfl,dh,dt,gh⟩:=vQ;unfold maxLen at dt;have r1:=ag (ae eD) lm.out;have r1:=ag r1 Hs.out;have q5:=r1 wr (aa _);have m4:IntKind.i64.wrap ((k:Int)+1)=(k:Int)+1:=aH _ (by omega) (by omega);obtain⟨kr,wj,Q1,Kz⟩:=Hkf.out.row k es bM;have Q5:=zh Kz;have iR:Hid (n.ends.getD k []=es):=ao bM;clear bM eD gh Kz bG;go_wp2
   go_loopw [8,30] (fun c8 i wq=>∃(j:Nat) (T:List Nat),j<=es.length/\i=.int .i64 j/\c8=.int .i64 (h_ kf k j:Nat)/\oS wq wz.heap.size (.slice (some ⟨g,0,none⟩) n.ends.length n.ends.length) (mB n kf k j) T/\ab wz wq) (fun _ i _=>es.length-(intOf i).toNat)
   case atStart=>exact⟨0,S,Nat.zero_le _,rfl,rfl,Ho.out,Hs.out⟩
   case round=>
    obtain⟨j,T,hj,rfl,rfl,ez,nk⟩:=hrel;have SK:=zh ez;have i_:=zh nk;clear ez;have SL:=yF kf k j
    by_cases lq:j<es.length
    ·have m3:IntKind.i64.wrap ((j:Int)+1)=(j:Int)+1:=aH _ (by omega) (by omega);obtain⟨cn,hcn⟩:∃cn,h_ kf k j=cn:=⟨_,rfl⟩
     rw[hcn]at SL ⊢;have m5:IntKind.i64.wrap ((cn:Int)+1)=(cn:Int)+1:=aH _ (by omega) (by omega);have KA:(mB n kf k j)[k]?=some (iW kf k j):=by rw[nm az,if_neg (by omega),if_pos rfl]
     obtain⟨u,U,eD,hu,hUT,hgU,mp⟩:=bu.grow gm SK.out KA;obtain⟨Au,mu,cu,rfl⟩:=gm.one hu;have c2:=eD;have Hu:=zh hu;have KB:=zh mp;have HgU:=zh hgU
     have dz:Hid ((iW kf k j).length+1<=17592186044416):=by show _<=_;rw[xY];omega
     have Ej:=zh (Ky (kf:=kf) (j:=j) az);have Ml:=zh (Ei kf k j);have Hcn:=zh hcn;have Mg:Hid (wz.heap.size<=wr.heap.size):=i_.out.below.size
     have Ay:∀X:World,(X.heap[g]?=wr.heap[g]?)->X.frozen? ⟨g,k,none⟩=false/\X.cell? ⟨g,k,none⟩=some (.slice Au mu cu):=fun X hX=>by
      obtain⟨_,_,SI,hf9,-⟩:=bu.at_ SK.out KA;constructor
      ·rw[<- hf9];simp only[World.frozen?,hX]
      ·rw[<- eD];exact World.cell?_of_block hX
     have Pm:=zh Ay;have tq:g<wr.heap.size:=World.block_lt_of_cell? wr _ eD;have SN:=zh tq;clear KA eD hu hUT hgU mp hcn Ay tq nk
     go_upto_region 10 with(at_builtin;(refine nJ (base:=wz.heap.size) (v:=.slice Au mu cu) (xs:=iW kf k j) rfl _ _ rfl rfl (Hu.out.1.keep (ad _ (aa _))) wr.heap.size cn rfl (by simp[go_sem]) dz.out (Nat.le_trans Mg.out (by simp)) ?_;intro g9 cx w4 mW JT Vj aak;have vN:=zh mW;have Hg4:=zh JT;have Hl4:=zh Vj;have hkg:w4.heap[g]?=wr.heap[g]?:=(JT.block g (by have:=SN.out;simp;omega) (fun e=>HgU.out (by rw[Hu.out.2,<- e];simp))).trans (Below.heap_alloc wr _ g SN.out);have cz:=(Pm.out w4 hkg).2;have fz:=(Pm.out w4 hkg).1;clear mW JT Vj aak hkg))
     have eH:aX U wr w4:=((aX.refl U wr).alloc _).trans (by have h7:=aX.acq Hg4.out;rw[<- Hu.out.2]at h7;exact h7)
     have O1:∀q∈[g9],q∈U\/wr.heap.size<=q:=fun q hq=>by
      obtain rfl:q=g9:=by simpa using hq
      rcases Hl4.out with h8 | h8
      ·exact .inl (by rw[Hu.out.2,h8];simp)
      ·exact .inr (by rw[h8];simp)
     obtain⟨T2,Jk,-⟩:=KB.out (.slice (some ⟨g9,0,none⟩) ((iW kf k j).length+1) cx) (iW kf k j++[(cn:Int)]) [g9] w4 ⟨vN.out,by simp[Value.ownBlock]⟩ eH O1
     rw[<- Hcn.out,<- Ml.out,Ej.out]at Jk;obtain⟨w5,mG⟩:∃w5,w5=w4.setCell ⟨g,k,none⟩ (.slice (some ⟨g9,0,none⟩) ((iW kf k j).length+1) cx):=⟨_,rfl⟩
     have tf:Hid (ab wz w5):=by
      show ab _ _
      rw[mG];exact Below.setCell (Below.grown (i_.out.below.alloc (i_.out.below.size) _) Hg4.out (Nat.le_trans Mg.out (by simp)) (fun q hq=>(World.ownsRow.lt Hu.out.1 q hq).1)) Hg.out _
     rw[<- mG]at Jk
     have NB:Hid (oS w5 wz.heap.size (.slice (some ⟨g,0,none⟩) n.ends.length n.ends.length) (mB n kf k (j+1)) T2):=by
      show oS _ _ _ _ _
      have h7:=Jk;exact h7
     rw[<- mG];clear Jk mG eH O1 c2 cz fz;obtain⟨Ak0,ck0,e0,-,-,KC⟩:=HKz.out w5 tf.out;simp only[Value.slice.injEq]at e0;obtain⟨rfl,-,rfl⟩:=e0;obtain⟨bk,ofk,uk,rfl,BP,Ak1,ck1,rfl,Q6,Q7,KD⟩:=KC k kr wj;obtain⟨bk1,aal,rfl,H4⟩:=KD j _ (Q5.out j lq);rw[Q1]at BP Q6;unfold maxLen at Q7;clear KC KD;cases DA:kf k j
     ·rw[DA]at H4
      have Q8:Hid (h_ kf k (j+1)=cn):=by show _=_;rw[nM,DA,Hcn.out];simp
      go_wp2;go_roundw
      case rel=>exact⟨j+1,T2,by omega,by first | rfl | go_num,by rw[Q8.out],NB.out,tf.out⟩
      case measure=>simp[intOf];omega
     ·rw[DA]at H4
      have Q8:Hid (h_ kf k (j+1)=cn+1):=by show _=_;rw[nM,DA,Hcn.out];simp
      go_wp2;go_roundw
      case rel=>exact⟨j+1,T2,by omega,by first | rfl | go_num,by rw[Q8.out];first | rfl | go_num,NB.out,tf.out⟩
      case measure=>simp[intOf];omega
    ·obtain rfl:j=es.length:=by omega
     have pP:=HH n kf k;rw[iR.out]at pP;have HNx:=zh pP;clear pP nk;go_wp2;go_roundw
     case rel=>exact⟨k+1,T,by omega,by first | rfl | go_num,by rw[<- HNx.out];exact SK.out,i_.out⟩
     case measure=>simp[intOf];omega
  ·obtain rfl:k=n.ends.length:=by omega
   have HTO:=zh (show ∀X,ab wr X->BG X (.slice (some ⟨g,0,none⟩) n.ends.length n.ends.length) (mB n kf n.ends.length 0)from fun X hX=>(oS.read Ho.out).keep hX.below)
   have yU:=ag z00 bG;have DX:=ag z01 bG;have DY:=ag z02 bG;have SE:=zh (show ∀X,ab wr X->lx X (.slice A n.ends.length c) n.ends from fun X hX=>(H.out.keep (lm.out.after (bG.after hX)).below).es)
   have QJ:=zh (show ∀X,ab wr X->aO X (.slice A2 n.ids.length c2) n.ids from fun X hX=>by have:=H.out.keep (lm.out.after (bG.after hX)).below;exact this.2.1)
   have QK:=zh (show ∀X,ab wr X->aO X (.slice A3 n.acn.length c3) n.acn from fun X hX=>by have:=H.out.keep (lm.out.after (bG.after hX)).below;exact this.2.2)
   have HKa:=zh (show ∀X,ab wr X->nl X (.slice AK n.ends.length cK) K from fun X hX=>HKz.out X (bG.after hX))
   have CQ:=zh (show ∀X,ab wr X->aS X w0.heap.size (.slice none 0 0) (.slice none 0 0) (.slice none 0 0)from fun X hX=>HRz.out X (bG.after hX))
   have vT:Hid (ab w0 wr):=lm.out.after bG
   have Hzb:Hid (w0.heap.size+1<=wr.heap.size):=by show _<=_;have h7:=zH.out;have h8:=bG.below.size;omega
   obtain⟨wa,Vk⟩:∃wa,wr=wa:=⟨_,rfl⟩
   rw[Vk]at HTO yU DX DY SE QJ QK HKa CQ vT Hzb ⊢;have sk:=uI;have Hnl:=gT;clear Vk bG hk az Ho Hs z00 z01 z02 vS dM;go_upto_region 14 with(fail);refine mO (w0:=wa) 9 [0,0,1,0,0,1,1,2,3] (fun _ W u=>mg W wa.heap.size u) (fun _ W W' u h hs=>h.keep hs) (by kernel_rfl) (by kernel_rfl) (aa _) ?_
   rw[show rB 2 ([0,0,1,0,0,1,1,2,3]:List Nat)=[7]from by decide]
   simp only[jM,List.take_succ_cons,List.take_zero,List.drop_succ_cons,List.drop_zero,if_true,if_false,reduceCtorEq,Nat.reduceEqDiff,reduceIte,Nat.zero_ne_one,Nat.one_ne_zero]
   iterate 4 (apply bv rfl;(intro W hW;go_simp;with_reducible rfl);simp only[zA])
   refine⟨?_,?_⟩
   ·intro j hj;obtain rfl:=List.mem_singleton.1 hj
    intro o ho;cases ho;refine⟨rfl,fun W hW=>?_⟩
    unfold j9
    go_simp
    all_goals (first | exact mg.new _ hW.below.size | exact⟨mg.new _ hW.below.size,ad _ (aa _)⟩)
   intro W hW;intro W1 h1;have yV:=ab.after hW h1;refine⟨rfl,?_⟩
   go_simp
   (with_reducible refine(lH _ n.ids W1 (QJ.out W1 yV) sk.out).mono ?_)
   rintro e W ⟨u1,rfl,ho,hb⟩;refine⟨_,rfl,hb,?_⟩;have hW:=yV.after (hb)
   have HI:=zh (show ∀X,ab W X->Own X wa.heap.size u1 n.ids from fun X hX=>(ho.since hX).mono yV.below.size);clear ho hb
   (try simp only[zA])
   intro W1 h1;have yV:=ab.after hW h1;refine⟨rfl,?_⟩
   go_simp
   (with_reducible refine(lH _ n.acn W1 (QK.out W1 yV) Hnl.out).mono ?_)
   rintro e W ⟨u2,rfl,ho,hb⟩;refine⟨_,rfl,hb,?_⟩;have hW:=yV.after (hb)
   have Nc:=zh (show ∀X,ab W X->Own X wa.heap.size u1 n.ids from fun X hX=>HI.out X ((h1.trans hb).after hX));have Nd:=zh (show ∀X,ab W X->Own X wa.heap.size u2 n.acn from fun X hX=>(ho.since hX).mono yV.below.size);have Uy:=zh (show ∀j,u1.ownBlock=some j->u2.ownBlock≠some j from fun j hj hk=>by have:=(World.ownsRow.lt (HI.out W1 h1) j hj).2;have:=(World.ownsRow.lt ho j hk).1;omega);clear ho hb HI;obtain⟨BI,dI,rfl,_⟩:=id (Nc.out W (aa _)).ints;obtain⟨BN,dN,rfl,_⟩:=id (Nd.out W (aa _)).ints
   (try simp only[zA])
   intro W1 h1;have yV:=ab.after hW h1;refine⟨rfl,?_⟩
   go_simp
   have Uz:=h1;have hW:=yV
   (try simp only[zA])
   intro us W h1 hU;have hW:=ab.after hW h1;have QL:(fun _ W u=>mg W wa.heap.size u) 7 W (us 7):=by first | exact hU 7 (by simp) | exact hU
   (try simp only[]at QL)
   simp only[ap,zG]
   (try simp only[zA])
   obtain⟨u7,O8⟩:∃x,x=us 7:=⟨_,rfl⟩
   rw[<- O8]at QL ⊢;clear O8;clear hU us
   obtain⟨ob,rfl,rN,dT⟩:=QL;have Nf:=zh (Nc.out _ (Uz.after h1));have pu:=zh (Nd.out _ (Uz.after h1));have FB:=zh dT;obtain⟨c0,c1,wI,f0,f1,f2⟩:=dT.box.cells
   refine sj (W':=?_) rfl ?_ ?_ ?_;rotate_left
   (go_simp;with_reducible rfl)
   exact(((hW.setCell rN _).setCell rN _).setCell rN _)
   (try simp only[zA])
   simp only[bh];have DZ:aS (((W.setCell ⟨ob,0,none⟩ (.slice none 0 0)).setCell ⟨ob,1,none⟩ (.slice BI n.ids.length dI)).setCell ⟨ob,2,none⟩ (.slice BN n.acn.length dN)) ob (.slice none 0 0) (.slice BI n.ids.length dI) (.slice BN n.acn.length dN):=((FB.out.acF _).acI _).acJ _;obtain⟨w4,gU⟩:∃w4,w4=((W.setCell ⟨ob,0,none⟩ (.slice none 0 0)).setCell ⟨ob,1,none⟩ (.slice BI n.ids.length dI)).setCell ⟨ob,2,none⟩ (.slice BN n.acn.length dN):=⟨_,rfl⟩
   rw[<- gU]at DZ ⊢
   have O9:Hid (ab wa w4):=by show ab _ _;rw[gU];exact(((hW.setCell rN _).setCell rN _).setCell rN _)
   have qP:aX [ob] W w4:=by rw[gU];exact((((aX.refl _ _).setCell (.inl (by simp)) _).setCell (.inl (by simp)) _).setCell (.inl (by simp)) _)
   have wh:=qN Nf.out FB.out;have pw:=qN pu.out FB.out
   have GV:Hid (ar w4 wa.heap.size (.slice none 0 0) (.slice BI n.ids.length dI) (.slice BN n.acn.length dN) ⟨[],n.ids,n.acn⟩ ((Value.slice BI n.ids.length dI).ownBlock.toList++(Value.slice BN n.acn.length dN).ownBlock.toList)/\ob∉(Value.slice BI n.ids.length dI).ownBlock.toList++(Value.slice BN n.acn.length dN).ownBlock.toList):=by
    show _/\_
    refine⟨?_,fun hm=>(List.mem_append.1 hm).elim (fun hm=>wh (by simpa using hm)) (fun hm=>pw (by simpa using hm))⟩
    have h1:Own w4 wa.heap.size (.slice BI n.ids.length dI) n.ids:=aG Nf.out (fun j hj=>qP.block j (World.ownsRow.lt Nf.out j (by simpa using hj)).2 (fun e=>wh (by simp at e;subst e;simpa using hj)))
    have h2:Own w4 wa.heap.size (.slice BN n.acn.length dN) n.acn:=aG pu.out (fun j hj=>qP.block j (World.ownsRow.lt pu.out j (by simpa using hj)).2 (fun e=>pw (by simp at e;subst e;simpa using hj)))
    exact rM (S1:=[]) ⟨[],[],World.ownsRow_nil _ _ _ _,rfl,fun k u x T h=>by simp at h,rfl,by simp⟩ h1 h2 (by simp) (by simp) Uy.out
   have GF:=zh DZ;have Kd:=zh rN;clear DZ gU qP wh pw Nc Nd Uy Nf pu FB c0 c1 wI f0 f1 f2 hW rN;have zI:=O9.out;go_wp2
   go_loopw [64] (fun i wr=>∃(k:Nat) (v:Value) (S:List Nat),k<=n.ends.length/\i=.int .i64 k/\ar wr wa.heap.size v (.slice BI n.ids.length dI) (.slice BN n.acn.length dN) ⟨(List.range k).map (jh n kf),n.ids,n.acn⟩ S/\ob∉S/\(∀q,v.ownBlock=some q->ob+1<=q)/\aS wr ob v (.slice BI n.ids.length dI) (.slice BN n.acn.length dN)/\ab wa wr) (fun i _=>n.ends.length-(intOf i).toNat)
   case atStart=>exact⟨0,_,_,Nat.zero_le _,rfl,by simpa using GV.out.1,GV.out.2,by simp[Value.ownBlock],GF.out,O9.out⟩
   case round=>
    obtain⟨k,v,S,hk,rfl,eH,By,QM,dT,bG⟩:=hrel;obtain⟨AV,cV,hV,_⟩:=id eH.read.1;obtain⟨mV,QN⟩:∃m,m=((List.range k).map (jh n kf)).length:=⟨_,rfl⟩
    simp only[<- QN]at hV;have HmV:=zh QN;clear QN;subst hV;have sJ:=zh eH;have D3:=zh By;have QO:=zh QM;have uJ:=zh dT;clear zI eH By QM
    by_cases az:k<n.ends.length
    ·obtain⟨es,bM⟩:=aA n.ends k az;have sI:=yT.out k es bM;obtain⟨b,tY,cr,ur,gh,wj,eD,dm⟩:=fi (SE.out wa (aa _)) bM;cases gh;obtain⟨A1,y1,rfl,dh,dt,gh⟩:=dm;unfold maxLen at dt;have q5:=ag (ae eD) bG;have q55:=q5 wr (aa _);have qh:=zh (show ∀(k:Nat) (x:Int×Int),es[k]?=some x->_ from gh);obtain⟨kr,wj,Q1,Kz⟩:=Hkf.out.row k es bM;have Q5:=zh Kz;have Hkr:=zh wj;have iR:Hid (n.ends.getD k []=es):=ao bM;have jZ:=zh bM;have le:=zh bG;obtain⟨wo,Yv⟩:∃wo,wo=wr:=⟨_,rfl⟩
     have Vl:Hid (ab wa wo):=by rw[Yv];exact bG
     rw[<- Yv]at sJ uJ
     have Q9:Hid (ab wo wr):=by show ab _ _;rw[Yv];exact aa _
     clear eD gh bM dT Kz wj Yv;go_wp2
     go_loopw [13,71] (fun u i wq=>∃(j:Nat) (T:List Nat),j<=es.length/\i=.int .i64 j/\dU wq wo.heap.size u (eR n kf k j) T/\ab wo wq) (fun _ i _=>es.length-(intOf i).toNat)
     case atStart=>exact⟨0,[],Nat.zero_le _,rfl,⟨World.ownsRow_nil _ _ _ _,by simp[Value.ownBlock]⟩,Q9.out⟩
     case round=>
      obtain⟨j,T,hj,rfl,OM,nk⟩:=hrel;have KE:=zh OM;have i_:=zh nk;clear bG OM;have H5:=Vl.out.after i_.out
      by_cases lq:j<es.length
      ·obtain⟨⟨x1,x2⟩,hx⟩:=aA es j lq
       have IV:aZ n k j (x1,x2):=by unfold aZ;rw[iR.out];exact hx
       obtain⟨-,p2,p3,p4,p5⟩:=cY Hn.out IV;obtain⟨a1,rfl⟩:=Int.eq_ofNat_of_zero_le p2;obtain⟨a2,rfl⟩:=Int.eq_ofNat_of_zero_le p4;simp only[Int.toNat_natCast]at p5;have BJ:a1<n.ends.length:=by omega
       obtain⟨Fp,-⟩:=fJ.1 p5;obtain⟨b1,mJ,rfl,ju,gC⟩:=qh.out j _ hx;have t1:=bc H5 ju;have t2:=bc H5 gC
       obtain⟨gt,ot,Lt,y,ct,s1,hLt,s2⟩:∃gt ot Lt y ct,(∀W,ab wa W->W.cell? ⟨g,a1,none⟩=some (.slice (some ⟨gt,ot,none⟩) Lt ct)/\Lt<=ct/\ct<=9223372036854775807)/\a2<Lt/\∀W,ab wa W->W.cell? ⟨gt,ot+a2,none⟩=some (.int .i64 ((y:Nat):Int))/\y=h_ kf a1 a2:=by
        obtain⟨AT,cT,e0,-,-,hAT⟩:=HTO.out wa (aa _);simp only[Value.slice.injEq]at e0;obtain⟨rfl,-,rfl⟩:=e0;have yK:(mB n kf n.ends.length 0)[a1]?=some (iW kf a1 (n.ends.getD a1 []).length):=by rw[nm BJ,if_pos BJ]
        obtain⟨b0,o0,u0,e0,IK,AT1,cT1,rfl,vP,ru,aam⟩:=hAT a1 _ yK;simp only[Option.some.injEq,Addr.mk.injEq,and_true]at e0;obtain⟨rfl,rfl⟩:=e0;obtain⟨b2,o2,rfl,rg⟩:=aam a2 _ (Hj kf a1 Fp);rw[xY]at IK vP;rw[Nat.zero_add]at IK;unfold maxLen at ru;exact⟨b2,o2,_,_,cT1,fun W hW=>⟨bc hW IK,vP,by omega⟩,Fp,fun W hW=>⟨bc hW rg,rfl⟩⟩
       have s3:=fun W hW=>(s1 W hW).1
       have s4:=fun W hW=>(s2 W hW).1
       have KF:=(s1 wa (aa _)).2;have abW:=KF.1;have abX:=KF.2;have Hy:Hid (y=h_ kf a1 a2):=(s2 wa (aa _)).2;obtain⟨AU,mU,cU,rfl⟩:=gj.one KE.out;obtain⟨w8,jV⟩:∃w8,w8=wr.alloc (.cells #[.int .i64 (a1:Int),.int .i64 (a2:Int)] 83):=⟨_,rfl⟩
       obtain⟨eb,za⟩:∃eb,eb=wr.heap.size:=⟨_,rfl⟩
       have kH:ab wr w8:=by rw[jV];exact ad _ (aa _)
       have k0:w8.cell? ⟨eb,0,none⟩=some (.int .i64 (a1:Int)):=by rw[jV,za];simp
       have k1:w8.cell? ⟨eb,1,none⟩=some (.int .i64 (a2:Int)):=by rw[jV,za];simp
       have hS0:ab wa w8/\w8.cell? ⟨eb,0,none⟩=some (.int .i64 (a1:Int))/\w8.cell? ⟨eb,1,none⟩=some (.int .i64 (a2:Int)):=⟨H5.after kH,k0,k1⟩;have oy:=zh hS0;have Hoc:Hid (dU w8 wo.heap.size (.slice AU mU cU) (eR n kf k j) T):=gj.keep KE.out kH.below
       have NC:Hid ((Value.slice AU mU cU).ownBlock≠some eb):=fun e=>by have h7:=(gj.range KE.out eb (by rw[KE.out.2,e];simp)).2;omega
       have iS:=zh (i_.out.after kH);have Gt:=zh jV;have aan:=zh za;have pP:=zh (HV (kf:=kf) iR.out hx)
       have Hln:Hid ((eR n kf k j).length+1<=1000000):=by show _<=_;rw[iw];have:=yF kf k j;omega
       have m3:IntKind.i64.wrap ((j:Int)+1)=(j:Int)+1:=aH _ (by omega) (by omega);obtain⟨Ak0,ck0,e0,-,-,KC⟩:=HKa.out w8 hS0.1;simp only[Value.slice.injEq]at e0;obtain⟨rfl,-,rfl⟩:=e0;obtain⟨bk,ofk,uk,rfl,BP,Ak1,ck1,rfl,Q6,Q7,KD⟩:=KC k kr Hkr.out;obtain⟨bk1,aal,rfl,H4⟩:=KD j _ (Q5.out j lq);rw[Q1]at BP Q6;unfold maxLen at Q7;clear KC KD hx IV p2 p3 p4 p5 ju gC kH hS0 k0 k1 jV za s1 s2 KF;go_upto_region 22 with(fail);rw[<- Gt.out,<- aan.out];clear t1 t2;cases DA:kf k j
       ·rw[DA]at H4 pP;clear H5;go_wp2;go_roundw
        case rel=>exact⟨j+1,T,by omega,by first | rfl | go_num,by have h7:=pP.out;simp only[Bool.false_eq_true,if_false,List.append_nil]at h7;rw[h7];exact Hoc.out,iS.out⟩
        case measure=>simp[intOf];omega
       ·rw[DA]at H4 pP;clear H5;go_upto_region 23 with(fail);clear BP H4;refine ax (fun W=>ab wa W/\W.cell? ⟨eb,0,none⟩=some (.int .i64 (a1:Int))/\W.cell? ⟨eb,1,none⟩=some (.int .i64 (a2:Int))) 15 [false,false,false,false,false,false,false,false,false,false,false,false,false,true,true] (by kernel_rfl) (by kernel_rfl) (show ab wa (World.drew w8)/\(World.drew w8).cell? ⟨eb,0,none⟩=some (.int .i64 (a1:Int))/\(World.drew w8).cell? ⟨eb,1,none⟩=some (.int .i64 (a2:Int))from⟨ah oy.out.1,oy.out.2.1,oy.out.2.2⟩) ?_
        simp only[er,dS,zT]
        iterate 13 (apply bs rfl;(intro W hW;(obtain⟨hW,k0,k1⟩:=hW);go_simp;with_reducible rfl);simp only[zA])
        obtain⟨W,cS⟩:∃W,W=World.drew w8:=⟨_,rfl⟩
        rw[<- cS];have hW:=(show ab wa (World.drew w8)/\(World.drew w8).cell? ⟨eb,0,none⟩=some (.int .i64 (a1:Int))/\(World.drew w8).cell? ⟨eb,1,none⟩=some (.int .i64 (a2:Int))from⟨ah oy.out.1,oy.out.2.1,oy.out.2.2⟩);rw[<- cS]at hW;have eY:=zh cS;clear cS
        refine ch (v:=?_) (ob:=?_) rfl ?_ ?_ ?_;rotate_left 2
        (go_simp;first | with_reducible rfl | (refine⟨?_,?_⟩ <;> with_reducible rfl))
        exact⟨ad _ hW.1,bc (ai _ _) hW.2.1,bc (ai _ _) hW.2.2⟩;intro w9 Vm Vn
        replace hW:=Vn
        clear Vn
        have Hd9:Hid (w9=(World.drew w8).alloc (.cells #[.int .i64 (a1:Int),.int .i64 ((y:Nat):Int)] 83)):=by show _=_;rw[Vm,eY.out]
        have tg:Hid (dU w9 wo.heap.size (.slice AU mU cU) (eR n kf k j) T):=by show dU _ _ _ _ _;rw[Hd9.out];exact gj.keep (gj.keep Hoc.out (ah (aa _)).below) (ai _ _)
        have Yw:Hid (w9.cell? ⟨w8.heap.size,0,none⟩=some (.int .i64 (a1:Int))/\w9.cell? ⟨w8.heap.size,1,none⟩=some (.int .i64 ((y:Nat):Int))):=by show _/\_;rw[Hd9.out];exact il (World.drew w8) _ _ _
        have Q_:Hid (ab wo w9):=by show ab _ _;rw[Hd9.out];exact ad _ (ah iS.out)
        rw[show W.heap.size=w8.heap.size from by rw[eY.out];rfl]
        clear Vm eY
        (try simp only[zA])
        refine df (fun Q' HQ=>?_)
        (refine im (base:=wo.heap.size) (v:=.slice AU mU cU) (xs:=eR n kf k j) rfl _ _ rfl rfl tg.out w8.heap.size ((a1:Int),((y:Nat):Int)) rfl Yw.out.1 Yw.out.2 Hln.out Q_.out.below.size ?_);intro g9 zb zd Vo ND aao;have KG:(∀q,(Value.slice AU mU cU).ownBlock=some q->wo.heap.size<=q):=(fun q hq=>(gj.range tg.out q (by rw[tg.out.2,hq];simp)).1);have Vp:ab wa zd:=(Below.grown hW.1 ND hW.1.below.size (fun q hq=>Nat.le_trans Vl.out.below.size (KG q hq)));have KH:=aX.acq ND;have hen:(⟨eb,0,none⟩:Addr).block∉(Value.slice AU mU cU).ownBlock.toList:=(fun hq=>NC.out (by simpa using hq));refine HQ _ _ ⟨Vp,KH.cell hen hW.2.1,KH.cell (p:=⟨eb,1,none⟩) hen hW.2.2⟩ ?_;have aap:=zh Vo;have aaq:Hid (ab wo zd):=(show ab _ _ from Below.grown Q_.out ND Q_.out.below.size KG);clear Vo ND aao KG Vp KH hen hW
        (try simp only[zA])
        simp only[bh];go_wp2;go_roundw
        case rel=>exact⟨j+1,[g9],by omega,by first | rfl | go_num,by have h7:=pP.out;simp only[if_true,Int.toNat_natCast]at h7;rw[h7,<- Hy.out];have h8:=aap.out;simpa using h8,aaq.out⟩
        case measure=>simp[intOf];omega
      ·obtain rfl:j=es.length:=by omega
       obtain⟨AQ,mQ,cQ,rfl⟩:=gj.one KE.out
       have HE:Hid (dU wr wo.heap.size (.slice AQ mQ cQ) (jh n kf k) T):=by
        have h7:=KE.out
        rw[show es.length=(dA n k).length from by unfold dA;rw[iR.out]]at h7
        exact h7
       have rC:ob+1<=wo.heap.size:=uJ.out.lt;obtain⟨wT,Mh⟩:∃wT,wT=kX wo (ob+1):=⟨_,rfl⟩
       have UA:ab wT wo:=by rw[Mh];exact ne wo rC
       have SF:wT.heap.size=ob+1:=by rw[Mh];exact kq wo rC
       have SG:ab wa wT:=by rw[Mh];exact si Vl.out rC (Nat.le_succ_of_le Kd.out)
       obtain⟨wA,IU⟩:∃wA,wA=wr.alloc (.cells #[.slice AQ mQ cQ] 81):=⟨_,rfl⟩
       have Dt:Hid (ab wo wA):=by show ab _ _;rw[IU];exact ad _ i_.out
       have HTA:Hid (ab wT wA):=UA.after Dt.out
       have O_:Hid (dU wA wa.heap.size (.slice AQ mQ cQ) (jh n kf k) T):=by show dU _ _ _ _ _;rw[IU];exact gj.mono (gj.keep HE.out (ai _ _)) Vl.out.below.size
       have CR:Hid (wA.cell? ⟨wr.heap.size,0,none⟩=some (.slice AQ mQ cQ)):=by show _=_;rw[IU];simp
       have Bz:=zh (sJ.out.keep Dt.out.below);have UC:Hid (∀j∈T,wo.heap.size<=j):=fun j hj=>(gj.range HE.out j hj).1
       have Hd5:=zh (show ∀j∈T,j∉S from fun j hj hS=>by have:=UC.out j hj;have:=(sJ.out.range j hS).2;omega)
       have Hl5:Hid (((List.range k).map (jh n kf)).length+1<=1000000):=by show _<=_;simp;omega
       have CS:Hid (wa.heap.size<=wA.heap.size):=(Vl.out.after Dt.out).below.size
       have Hq5:Hid (∀q,(Value.slice AV mV cV).ownBlock=some q->wT.heap.size<=q):=fun q hq=>by rw[SF];exact QO.out q hq
       have Yu:=zh IU;have aar:=zh SG;have SH:=zh rC;have Hws:Hid (wr.heap.size=wr.heap.size):=rfl;have lV:=(uJ.out.since i_.out).box.cells.1;have m4:IntKind.i64.wrap ((k:Int)+1)=(k:Int)+1:=aH _ (by omega) (by omega);obtain⟨so,hso⟩:∃so,so=wr.heap.size:=⟨_,rfl⟩
       have Vq:Hid (wo.heap.size<=so):=by show _<=_;rw[hso];exact i_.out.below.size
       have aas:=zh hso;have FD:((List.range k).map (jh n kf)++[jh n kf k]).length=k+1:=by simp
       have Vr:=zh FD;clear Mh UA SF SG IU rC H5 hso FD
       go_wp2_with (at_builtin;rw[<- Yu.out];refine qO (wT:=wT) (v:=.slice AV mV cV) (u:=.slice AQ mQ cQ) rfl _ _ rfl rfl Bz.out wr.heap.size rfl CR.out O_.out Hd5.out Hl5.out HTA.out CS.out Hq5.out ?_;intro v6 w6 S6 UD sO UE sP yx;have HvT:=zh UD;obtain⟨A6,c6,UG,_⟩:=id sO.read.1;simp only[Vr.out]at UG;subst UG;have FC:=zh sO;have HS6:=zh UE;have UF:=zh sP;have NE:Hid (ab wa w6):=aar.out.after yx;have GW:=zh ((uJ.out.since Dt.out).only sP D3.out);have c0:=GW.out.box.cells.1;have f0:=GW.out.box.cells.2.2.2.1;clear UD sO UE sP yx)
       go_roundw
       case rel=>
        have abY:wA.heap.size=so+1:=by rw[Yu.out,aas.out];simp
        have Ke:ob∉S6:=fun hm=>by
         have h9:=SH.out;have h10:=Vq.out;rcases HS6.out ob hm with h | h | h
         ·exact D3.out h
         ·have:=UC.out ob h;omega
         ·omega
        refine⟨k+1,.slice A6 (k+1) c6,S6,by omega,by go_num,?_,Ke,?_,GW.out.acF _,NE.out.setCell Kd.out _⟩
        ·have hx:=FC.out.aco (w':=w6.setCell ⟨ob,0,none⟩ (.slice A6 (k+1) c6)) (fun j hj=>Below.heap_setCell w6 _ _ j (fun e=>Ke (by have e':j=ob:=e;exact e' ▸ hj)))
         rw[y_];exact hx
        ·intro q hq;rcases HvT.out q hq with h | h
         ·exact QO.out q h
         ·have:=SH.out;have:=Vq.out;omega
       case measure=>simp[intOf];omega
    ·obtain rfl:k=n.ends.length:=by omega
     have kY:w0.heap.size=w.heap.size+1:=by rw[bS.out];simp
     have HR:=CQ.out wr bG;rw[kY]at HR
     have QQ:Hid (w.heap.size+1<wa.heap.size):=by show _<_;have:=Hzb.out;omega
     obtain⟨c0,c1,wI,_,_,_⟩:=uJ.out.box.cells;obtain⟨d0,d1,d2,f0,f1,f2⟩:=HR.box.cells;have le:=zh bG;have HR':=zh HR;clear HR dT bG az hk kY;go_wp2;refine bodyPost_ret (v:=.agg #[.slice AV mV cV,.slice BI n.ids.length dI,.slice BN n.acn.length dN]) (by simp[results,Tryz.results239,go_sem, *]) rfl ?_;have hx:=sJ.out;refine⟨_,_,_,S,rfl,?_,?_⟩
     ·refine(hx.aco (fun j hj=>?_)).mono (Nat.le_trans aT.out.size vT.out.below.size)
      have rz:=(sJ.out.range j hj).1;have xm:=QQ.out;rw[Below.heap_setCell _ _ _ j (by simp;omega),Below.heap_setCell _ _ _ j (by simp;omega),Below.heap_setCell _ _ _ j (by simp;omega)]
     ·exact(((Below.trans aT.out ((vT.out.after le.out).below.mono aT.out.size)).setCell (by simp) _).setCell (by simp) _).setCell (by simp) _
end Go.Proofs.YtgmdpppljkmabaaGreat
