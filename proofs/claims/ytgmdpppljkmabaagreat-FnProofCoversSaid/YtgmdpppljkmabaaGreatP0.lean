/- Parts of the proof: walks of functions and plain laws. -/
import Derived.Test.YtgmdpppljkmabaaGreatRows
import Derived.WalkKit
import Derived.ProofKit
import Derived.OpenShut
import Derived.Outline
import Derived.Lib.Hide
import Derived.Deep.QuietTactic
import Derived.BigQuiet
import Derived.StillTailTactics
import Derived.Deep.RegionHeld3
import Derived.RegionTactic
import Derived.ChangeAlike
import Derived.LoopTactic
import Derived.Deep.LoopGhost
import Derived.Deep.DeepCutAuto
import Derived.Deep.RegionWith
import Derived.Deep.RegionLaw
import Derived.WalkLawsBesides
import Derived.WalkSpells
import Derived.OwnWalk
import Derived.Handy
import Derived.PlainAid
import Derived.Deep.DeepFit
import Derived.Deep.DeepMust
import Derived.Laws.AppendOwn
import Derived.Laws.MakeOwn
import Derived.Deep.AppendLies
import Derived.Deep.Draws
import Derived.Laws.OwnMore
import Derived.Laws.Rows
import Derived.Maps.AppendAt
import Derived.Deep.Slices
import Derived.Deep.Fields
import Derived.Lib.SmallJoins
import Derived.ChangeSame
import Derived.ShutString
import Derived.ChangeOld
import Derived.Shelf.Abstract
import Derived.Shelf.Small.Bits
import Derived.Shelf.Small.Wraps
import Derived.Shelf.Strconv.Itoa0
import Derived.Shelf.Sort.Plain
import Derived.Shelf.Bits.Mul64
import Derived.Shelf.Slices.Reverse
import Derived.Ground.Names2Prog
import Derived.Shelf.Slices.Clone
import Derived.Shelf.Slices.SearchI
import Derived.Shelf.Slices.Cells
import Derived.Shelf.Slices.In.SortNone
import Derived.Test.YtgmdpppljkmabaaGreatProg
namespace Go.Proofs.YtgmdpppljkmabaaGreat
open Go Go.RowKit
theorem zA : (∀ (a : Act) (d : Nat) (v : Value), a.put (some d) v = { a with tmps := a.tmps.setIfInBounds d v }) ∧ (∀ (a : Act) (v : Value), a.put none v = a) ∧ (∀ (l : List Value) (i : Nat) (a : Value), (List.toArray l).setIfInBounds i a = (l.set i a).toArray) ∧ (∀ (x : Value) (l : List Value) (i : Nat) (a : Value), (x :: l).set (i + 1) a = x :: l.set i a) ∧ ∀ (x : Value) (l : List Value) (a : Value), (x :: l).set 0 a = a :: l :=
  ⟨fun _ _ _ => rfl, fun _ _ => rfl, fun _ _ _ => List.setIfInBounds_toArray .., fun _ _ _ _ => List.set_cons_succ .., fun _ _ _ => List.set_cons_zero ..⟩
theorem zR9 : List.range 9 = [0, 1, 2, 3, 4, 5, 6, 7, 8] := rfl
theorem zR10 : List.range 10 = [0, 1, 2, 3, 4, 5, 6, 7, 8, 9] := rfl
theorem zR11 : List.range 11 = [0, 1, 2, 3, 4, 5, 6, 7, 8, 9, 10] := rfl
theorem zR19 : List.range 19 = [0, 1, 2, 3, 4, 5, 6, 7, 8, 9, 10, 11, 12, 13, 14, 15, 16, 17, 18] := rfl
theorem zR22 : List.range 22 = [0, 1, 2, 3, 4, 5, 6, 7, 8, 9, 10, 11, 12, 13, 14, 15, 16, 17, 18, 19, 20, 21] := rfl
theorem zh {p : Prop} (h : p) : Hid p := Lib.hid h
theorem zT {α : Type} : (∀ (i : Nat) (a : α) (l : List α), (a :: l).take (i + 1) = a :: l.take i) ∧ (∀ l : List α, l.take 0 = []) ∧ (∀ (i : Nat) (a : α) (l : List α), (a :: l).drop (i + 1) = l.drop i) ∧ ∀ l : List α, l.drop 0 = l :=
 ⟨fun _ _ _ => rfl, fun _ => rfl, fun _ _ _ => rfl, fun _ => rfl⟩
theorem zG {α : Type} : (∀ (l : List α) (i : Nat), l.toArray[i]? = l[i]?) ∧ (∀ (a : α) (l : List α) (i : Nat), (a :: l)[i + 1]? = l[i]?) ∧ ∀ (a : α) (l : List α), (a :: l)[0]? = some a :=
 ⟨fun _ _ => List.getElem?_toArray .., fun _ _ _ => rfl, fun _ _ => rfl⟩
theorem zDd {α : Type} (l : List α) (i : Nat) (a : α) : l.getD i a = l[i]?.getD a := List.getD_eq_getElem?_getD ..
theorem zc {P : Program} {f : FuncId} {a : Array Value} {w : World} {E : Ending} {W : World} (h : Calls P f a w fun e w' => e = E ∧ w' = W) {Q : Ending → World → Prop} (q : Q E W) : Calls P f a w Q := h.mono (by rintro _ _ ⟨rfl, rfl⟩; exact q)
end Go.Proofs.YtgmdpppljkmabaaGreat
set_option maxRecDepth 100000
set_option maxHeartbeats 16000000

namespace Go.Proofs.YtgmdpppljkmabaaGreat
open Go Go.RowKit
theorem aA {α:Type} (xs:List α) (k:Nat) (h:k<xs.length):∃x,xs[k]?=some x:=⟨_,List.getElem?_eq_getElem h⟩
theorem aV {α:Type} {xs:List α} {k:Nat} {x:α} (h:xs[k]?=some x):xs.take (k+1)=xs.take k++[x]:=by
 obtain⟨hk,rfl⟩:=List.getElem?_eq_some_iff.1 h;exact List.take_succ_eq_append_getElem hk
theorem I5 {α:Type} {xs:List α} {k:Nat} {x:α} {p:α->Bool} (h:xs[k]?=some x) (hp:p x=false):xs.all p=false:=by
 rw[List.all_eq_false];exact⟨x,List.mem_of_getElem? h,by simp[hp]⟩
theorem js {α:Type} (xs:List α) {k:Nat} (h:¬k<xs.length):xs.take k=xs:=List.take_of_length_le (by omega)
theorem al {α:Type} {xs:List α} {k:Nat} {x:α} (h:xs[k]?=some x):k<xs.length:=(List.getElem?_eq_some_iff.1 h).1
theorem I6 {α:Type} (z:α) (xs:List α) (k:Nat) (x:α) (h:xs[k]?=some x):(xs.take k++List.replicate (xs.length-k) z).set k x=xs.take (k+1)++List.replicate (xs.length-(k+1)) z:=by
 have hk:=al h
 have hl:(xs.take k).length=k:=by simp;omega
 rw[aV h,show xs.length-k=(xs.length-(k+1))+1 by omega,List.replicate_succ,List.set_append_right _ _ (by omega),hl]
 simp
theorem bc {w w':World} (hb:Below w.heap.size w w') {a:Addr} {u:Value} (h:w.cell? a=some u):w'.cell? a=some u:=(hb.cell (World.block_lt_of_cell? w _ h)).trans h
def aO (w:World) (v:Value) (xs:List Int):Prop:=
 ∃(A:Option Addr) (c:Nat),v=.slice A xs.length c/\xs.length<=c/\c<=maxLen /\
  (∀k x,xs[k]?=some x->∃b off,A=some ⟨b,off,none⟩/\w.cell? ⟨b,off+k,none⟩=some (.int .i64 x))
theorem aO.keep {w w':World} {v:Value} {xs:List Int} (h:aO w v xs) (hb:Below w.heap.size w w'):aO w' v xs:=by
 obtain⟨A,c,hv,hc,hm,hA⟩:=h;refine⟨A,c,hv,hc,hm,fun k x hk=>?_⟩
 obtain⟨b,off,yc,gy⟩:=hA k x hk
 exact⟨b,off,yc,by rw[<- gy];exact hb.cell (p:=⟨b,off+k,none⟩) (World.block_lt_of_cell? w _ gy)⟩
theorem aO.nil (w:World):aO w (.slice none 0 0) []:=⟨none,0,rfl,Nat.le_refl _,Nat.zero_le _,fun k x hk=>by simp at hk⟩
theorem aO.own {w:World} {base:Nat} {e:TypeId} {v:Value} {n:Nat} {xs:List Int} (h:w.ownsRow base e 1 v n (xs.map (Value.int .i64))):aO w v xs:=by
 have hn:xs.length=n:=by simpa using h.1
 subst hn;rcases h.2 with⟨rfl,h0⟩ | ⟨g,cap,cur,rfl,hb,hg,s8,hm,pX,tA⟩
 ·have:xs=[]:=List.eq_nil_of_length_eq_zero h0
  subst this;exact aO.nil w
 ·refine⟨_,cap,rfl,s8,hm,fun k x hk=>⟨g,0,rfl,?_⟩⟩
  have az:k<xs.length:=(List.getElem?_eq_some_iff.1 hk).1;rw[Nat.zero_add,h.cellAt (cap:=cap) k (by omega)];simp[hk]
theorem bJ {a b:Bool} (h:a=b):Ending.returned (.bool a)=.returned (.bool b):=by rw[h]
theorem j7 {b:Bool} (h:b=true):Ending.returned (.bool true)=.returned (.bool b):=by rw[h]
theorem aW {b:Bool} (h:b=false):Ending.returned (.bool false)=.returned (.bool b):=by rw[h]
theorem dr1 (w:World) (n m:Nat):∃k,(w.drewN n).drewN m=w.drewN k:=⟨n+m,World.drewN_drewN w n m⟩
theorem s9 {k:IntKind} {a b:Int} (h:a=b):Ending.returned (.int k a)=.returned (.int k b):=by rw[h]
theorem jt:(Tryz.prog.info? 3).map (fun i=>(i.zero,i.size,i.bytes))=some (some (.int .i64 0),1,8):=by kernel_rfl
def Own (w:World) (base:Nat) (v:Value) (xs:List Int):Prop:=w.ownsRow base 3 1 v xs.length (xs.map (Value.int .i64))
theorem Own.ints {w:World} {base:Nat} {v:Value} {xs:List Int} (h:Own w base v xs):aO w v xs:=aO.own h
theorem Own.mono {w:World} {base iI:Nat} {v:Value} {xs:List Int} (h:Own w base v xs) (hb:iI<=base):Own w iI v xs:=
 ⟨h.1,h.2.imp id fun ⟨g,cap,cur,h1,h2,h3⟩=>⟨g,cap,cur,h1,Nat.le_trans hb h2,h3⟩⟩
theorem Own.keep {w w':World} {base:Nat} {v:Value} {xs:List Int} (h:Own w base v xs) (hb:Below w.heap.size w w'):Own w' base v xs:=by
 refine⟨h.1,h.2.imp id fun ⟨g,cap,cur,h1,h2,h3,h4⟩=>⟨g,cap,cur,h1,h2,?_,h4⟩⟩
 rw[<- h3];exact hb.block g (Array.getElem?_eq_some_iff.1 h3).1
theorem Own.len {w:World} {base g c n:Nat} {xs:List Int} (h:Own w base (.slice (some ⟨g,0,none⟩) n c) xs):xs.length=n:=by
 rcases h.2 with⟨h',_⟩ | ⟨g',sD,cur,h',_⟩
 ·simp at h'
 ·simp only[Value.slice.injEq]at h';exact h'.2.1.symm
theorem Own.cell {w:World} {base g c n:Nat} {xs:List Int} {k:Nat} {x:Int} (h:Own w base (.slice (some ⟨g,0,none⟩) n c) xs) (hk:xs[k]?=some x):w.cell? ⟨g,k,none⟩=some (.int .i64 x):=by
 obtain rfl:=h.len
 have az:k<xs.length:=(List.getElem?_eq_some_iff.1 hk).1
 rw[World.ownsRow.cellAt h k (by omega)];simp[hk]
theorem Own.free {w:World} {base g c n:Nat} {xs:List Int} (k:Nat) (h:Own w base (.slice (some ⟨g,0,none⟩) n c) xs):w.frozen? ⟨g,k,none⟩=false:=by
 rcases h.2 with⟨h',_⟩ | ⟨g',sD,cur,h',_,hg,_⟩
 ·simp at h'
 ·simp only[Value.slice.injEq,Option.some.injEq,Addr.mk.injEq,and_true]at h';obtain⟨rfl,rfl,rfl⟩:=h';exact frozen_of_row w g k cur _ hg
theorem Own.set {w:World} {base g c n:Nat} {xs:List Int} {k:Nat} (x:Int) (h:Own w base (.slice (some ⟨g,0,none⟩) n c) xs):Own (w.setCell ⟨g,k,none⟩ (.int .i64 x)) base (.slice (some ⟨g,0,none⟩) n c) (xs.set k x):=by
 obtain rfl:=h.len
 have:=(World.ownsRow.stored h k (.int .i64 x)).1
 unfold Own;rw[List.length_set,List.map_set];exact this
theorem Own.bd {w:World} {base:Nat} {v:Value} {xs:List Int} (h:Own w base v xs):xs.length<=maxLen:=by
 rcases h.2 with⟨_,h0⟩ | ⟨g,cap,cur,_,_,_,h1,h2,_⟩
 ·omega
 ·omega
theorem Own.blk {w:World} {base g c n:Nat} {xs:List Int} (h:Own w base (.slice (some ⟨g,0,none⟩) n c) xs):base<=g/\g<w.heap.size:=by
 rcases h.2 with⟨h',_⟩ | ⟨g',sD,cur,h',hb,hg,_⟩
 ·simp at h'
 ·simp only[Value.slice.injEq,Option.some.injEq,Addr.mk.injEq,and_true]at h';obtain⟨rfl,rfl,rfl⟩:=h';exact⟨hb,(Array.getElem?_eq_some_iff.1 hg).1⟩
theorem rZ {w w':World} (h:w.grownBy w' none):Below w.heap.size w w':=⟨h.os,h.tape,h.output,h.size,fun k hk=>h.block k hk (by simp)⟩
theorem ai (w:World) (o:Obj):Below w.heap.size w (w.alloc o):=(Below.refl _ _).alloc (Nat.le_refl _) o
theorem bU (w:World) (base:Nat):Own w base (.slice none 0 0) []:=World.ownsRow_nil w base _ 1
theorem fD (w:World) (xs:List Int) (hm:xs.length<=maxLen):Own (w.alloc (.cells (xs.map (Value.int .i64)).toArray 3)) w.heap.size (.slice (some ⟨w.heap.size,0,none⟩) xs.length xs.length) xs:=by
 have:=World.ownsRow_lit (base:=w.heap.size) (e:=3) (size:=1) w (xs.map (Value.int .i64)).toArray xs.length (Nat.le_refl _) hm (by simp)
 simpa[Own]using this
section
variable {ops : Array Oper} {rest : List Oper} {o : Oper} {a : Act} {Q : Exit → Act → World → Prop}
theorem jm (w:World) (hg:o.guard=none) (l c:Operand) (s_:o.op=Op.makeSlice 25 l c) (L C:Int) (n:Nat) (hl:a.eval l=.int .i64 L) (hc:a.eval c=.int .i64 C) (hL:L=(n:Int)) (hC:C=(n:Int)) (hn:n<=17592186044416)
  (hK:∀w',Own w' w.heap.size (.slice (some ⟨w.heap.size,0,none⟩) n n) (List.replicate n 0)->Below w.heap.size w w'->w.heap.size<w'.heap.size->wpList Tryz.prog ops Q rest (a.put o.dst (.slice (some ⟨w.heap.size,0,none⟩) n n)) w'):wpList Tryz.prog ops Q (o::rest) a w:=by
 obtain⟨i0,hi,gx,dh,dt⟩:=info_parts jt
 refine wpList_make_full w hg l c 25 s_ w.heap.size 3 i0 (.int .i64 0) 1 Tryz.underlying25 hi gx dh .i64 .i64 L C n hl hc hL hC (by rw[dt];omega) (by unfold maxLen;omega) (Nat.le_refl _) ?_
 intro w' ho vJ
 have kR:Own w' w.heap.size (.slice (some ⟨w.heap.size,0,none⟩) n n) (List.replicate n 0):=by
  unfold Own;rw[List.length_replicate,List.map_replicate];rw[show(Value.int IntKind.i64 0).cells=#[Value.int .i64 0]from rfl,toList_madeCells_one]at ho
  simpa using ho
 exact hK w' kR (rZ vJ) (by have:=kR.blk;omega)
end
open Go.ChangeShapes Go.WideShapes Go.ChangeAt Go.RowKit
open Go.ChangeShapes Go.WideShapes Go.ChangeAt Go.RowKit
theorem tB (n lo hi:Int) (w:World):
  Calls Tryz.prog 71 #[.int .i64 n,.int .i64 lo,.int .i64 hi] w fun e w'=>e=.returned (.bool (decide (lo<=n)&&decide (n<=hi)))/\w=w':=by
 by_cases h:lo<=n
 ·go_enter Tryz.func71,Tryz.ntmps71
  go_wp2;go_ret;exact⟨by simp[h],rfl⟩
 ·have h':decide (lo<=n)=false:=by simpa using h
  go_enter Tryz.func71,Tryz.ntmps71
  go_wp2;go_ret;exact⟨by simp,rfl⟩
theorem tC (n lo hi:Int) (w:World):
  Calls Tryz.prog 75 #[.int .i64 n,.int .i64 lo,.int .i64 hi] w fun e w'=>e=.returned (.bool (decide (lo<=n)&&decide (n<=hi)))/\w=w':=by
 by_cases h:lo<=n
 ·go_enter Tryz.func75,Tryz.ntmps75
  go_wp2;go_ret;exact⟨by simp[h],rfl⟩
 ·have h':decide (lo<=n)=false:=by simpa using h
  go_enter Tryz.func75,Tryz.ntmps75
  go_wp2;go_ret;exact⟨by simp,rfl⟩
theorem yd (n:Int) (w:World):
  Calls Tryz.prog 69 #[.int .i64 n] w fun e w'=>e=.returned (.bool (decide (1<=n)&&decide (n<=5)))/\w=w':=by
 go_enter Tryz.func69,Tryz.ntmps69
 go_wp2_with (go_at_call 71;refine(tB _ _ _ _).mono ?_;rintro e w' ⟨rfl,rfl⟩)
 go_ret;exact⟨rfl,rfl⟩
theorem ye (n:Int) (w:World):
  Calls Tryz.prog 105 #[.int .i64 n] w fun e w'=>e=.returned (.bool (decide (1<=n)&&decide (n<=5)))/\w=w':=by
 go_enter Tryz.func105,Tryz.ntmps105
 go_wp2_with (go_at_call 75;refine(tC _ _ _ _).mono ?_;rintro e w' ⟨rfl,rfl⟩)
 go_ret;exact⟨rfl,rfl⟩
def fF (lo hi x:Int):Bool:=decide (lo<=x)&&decide (x<=hi)
theorem bz {lo hi x:Int}:fF lo hi x=true↔lo<=x/\x<=hi:=by simp[fF]
theorem gA (n lo hi:Int) (w:World):
  Calls Tryz.prog 71 #[.int .i64 n,.int .i64 lo,.int .i64 hi] w fun e w'=>e=.returned (.bool (fF lo hi n))/\w=w':=tB n lo hi w
theorem jK (n lo hi:Int) (w:World):
  Calls Tryz.prog 75 #[.int .i64 n,.int .i64 lo,.int .i64 hi] w fun e w'=>e=.returned (.bool (fF lo hi n))/\w=w':=tC n lo hi w
theorem C9 (n:Int) (w:World):Calls Tryz.prog 69 #[.int .i64 n] w fun e w'=>e=.returned (.bool (fF 1 5 n))/\w=w':=yd n w
theorem oW (n:Int) (w:World):Calls Tryz.prog 105 #[.int .i64 n] w fun e w'=>e=.returned (.bool (fF 1 5 n))/\w=w':=ye n w
theorem Mv (n lo hi:Int) (b:Bool) (h:fF lo hi n=b) (w:World):
  Calls Tryz.prog 75 #[.int .i64 n,.int .i64 lo,.int .i64 hi] w fun e w'=>e=.returned (.bool b)/\w=w':=h ▸ tC n lo hi w
theorem xk (v:Value) (xs:List Int) (lo hi:Int) (w:World) (h:aO w v xs):
  Calls Tryz.prog 133 #[v,.int .i64 lo,.int .i64 hi] w fun e w'=>e=.returned (.bool (xs.all (fF lo hi)))/\w=w':=by
 obtain⟨A,c,rfl,fg,hm,hA⟩:=h;unfold maxLen at hm;have HA:=zh hA;clear hA
 go_enter Tryz.func133,Tryz.ntmps133
 go_wp2
 go_loop [11] (fun i=>∃k:Nat,k<=xs.length/\i=.int .i64 k/\(xs.take k).all (fF lo hi)=true) (fun i=>xs.length-(intOf i).toNat)
 case atStart=>exact⟨0,Nat.zero_le _,rfl,rfl⟩
 case round=>
  obtain⟨k,hk,rfl,bH⟩:=hrel;have ir:=zh bH;clear bH
  by_cases az:k<xs.length
  ·obtain⟨x,hx⟩:=aA xs k az;obtain⟨b,off,rfl,gy⟩:=HA.out k x hx;have Hx:=zh hx;clear hx;cases hb:fF lo hi x
   all_goals
    have Hb:=zh hb;clear hb
    go_wp2_with (go_at_call 75;refine(Mv _ _ _ _ Hb.out _).mono ?_;rintro e w' ⟨rfl,rfl⟩)
   ·go_ret;exact⟨bJ (I5 Hx.out Hb.out).symm,rfl⟩
   ·go_round
    case rel=>exact⟨k+1,by omega,by go_num,by rw[aV Hx.out];simp[ir.out,Hb.out]⟩
    case measure=>simp[intOf];omega
  ·go_wp2;go_ret;exact⟨bJ (by rw[<- ir.out,js _ az]),rfl⟩
theorem zU {α:Type} {xs ys:List α} {k:Nat} (hl:xs.length=ys.length) (h:xs.take k=ys.take k) (hk:¬k<xs.length):xs=ys:=by
 rw[js xs hk,js ys (by omega)]at h;exact h
def abE (k n:Nat):List Int:=(List.range' k n).map Int.ofNat
theorem Own.cases {w:World} {base:Nat} {v:Value} {xs:List Int} (h:Own w base v xs):(v=.slice none 0 0/\xs=[])\/∃g c,v=.slice (some ⟨g,0,none⟩) xs.length c/\base<=g/\g<w.heap.size:=by
 rcases h.2 with⟨rfl,h0⟩ | ⟨g,cap,cur,rfl,hb,hg,s8,hm,pX,tA⟩
 ·exact .inl ⟨rfl,List.eq_nil_of_length_eq_zero h0⟩
 ·exact .inr ⟨g,cap,rfl,hb,(Array.getElem?_eq_some_iff.1 hg).1⟩
def mH (w0:World) (vW:FuncId) (oX:Array Value) (p:Int->Bool) (xs:List Int):Prop:=
 ∀x∈xs,∀w,Below w0.heap.size w0 w->Calls Tryz.prog vW (#[.int .i64 x]++oX) w fun e w'=>e=.returned (.bool (p x))/\Below w.heap.size w w'
theorem mH.keep {w0 w1:World} {vW:FuncId} {oX:Array Value} {p:Int->Bool} {xs:List Int} (h:mH w0 vW oX p xs) (hb:Below w0.heap.size w0 w1):mH w1 vW oX p xs:=
 fun x hx w hw=>h x hx w (hb.trans (hw.mono hb.size))
def yf (p:Int->Bool) (xs:List Int):Int:=match xs.findIdx? p with | some i=>(i:Int) | none => -1
theorem xl {p:Int->Bool} {xs:List Int} (h:xs.any p=false):yf p xs = -1:=by
 have:xs.findIdx? p=none:=by
  rw[List.findIdx?_eq_none_iff];intro x hx;rw[List.any_eq_false]at h;simpa using h x hx
 simp[yf,this]
theorem tD {p:Int->Bool} {xs:List Int} {k:Nat} {x:Int} (hx:xs[k]?=some x) (hp:p x=true) (h:(xs.take k).any p=false):yf p xs=k:=by
 have:xs.findIdx? p=some k:=by
  obtain⟨hk,rfl⟩:=List.getElem?_eq_some_iff.1 hx;rw[List.findIdx?_eq_some_iff_getElem];refine⟨hk,hp,fun j hj=>?_⟩
  rw[List.any_eq_false]at h
  simpa using h xs[j] (by rw[List.mem_take_iff_getElem];exact⟨j,by omega,rfl⟩)
 simp[yf,this]
theorem I7 (p:Int->Bool) (xs:List Int):decide (0<=yf p xs)=xs.any p:=by
 unfold yf
 cases h:xs.findIdx? p with
 | none=>
  rw[List.findIdx?_eq_none_iff]at h;simp only[decide_eq_false_iff_not.2 (show ¬(0:Int) <= -1 by omega)]
  symm
  rw[List.any_eq_false]
  intro x hx;simp[h x hx]
 | some i=>
  rw[List.findIdx?_eq_some_iff_getElem]at h;obtain⟨hi,hp,_⟩:=h;simp only[Int.natCast_nonneg,decide_true]
  symm
  rw[List.any_eq_true];exact⟨xs[i],List.getElem_mem hi,hp⟩
theorem oD (v:Value) (xs:List Int) (vW:FuncId) (oX:Array Value) (p:Int->Bool) (w:World) (h:aO w v xs) (lW:∀args w,(callFunc vW args).run Tryz.prog w=.ok (.enter vW args) w) (hp:mH w vW oX p xs):
  Calls Tryz.prog 161 #[v,.func (.func vW) #[] oX] w fun e w'=>e=.returned (.int .i64 (yf p xs))/\Below w.heap.size w w':=by
 have H:=zh h;obtain⟨A,c,rfl,fg,hm,hA⟩:=h;unfold maxLen at hm;have HA:=zh hA;clear hA;have Hp:=zh hp;have eg:=lW;clear hp
 go_enter Tryz.func161,Tryz.ntmps161
 go_wp2
 go_loopw [8] (fun i wr=>∃k:Nat,k<=xs.length/\i=.int .i64 k/\(xs.take k).any p=false/\Below w.heap.size w wr) (fun i _=>xs.length-(intOf i).toNat)
 case atStart=>exact⟨0,Nat.zero_le _,rfl,rfl,Below.refl _ _⟩
 case round=>
  obtain⟨k,hk,rfl,tE,hb⟩:=hrel;have P6:=zh tE;have Hb:=zh hb;clear tE hb
  by_cases az:k<xs.length
  ·obtain⟨x,hx⟩:=aA xs k az;obtain⟨b,off,rfl,gy⟩:=HA.out k x hx;have P8:=(Hb.out.cell (p:=⟨b,off+k,none⟩) (World.block_lt_of_cell? w _ gy)).trans gy;have Hx:=zh hx;clear hx gy;cases zV:p x
   all_goals
    have F8:=zh zV;clear zV;go_wp2_with fail;refine(Hp.out x (List.mem_of_getElem? Hx.out) _ Hb.out).mono ?_;rintro e w1 ⟨rfl,aN⟩;rw[F8.out];have gO:=zh (Hb.out.trans (aN.mono Hb.out.size));clear aN;go_wp2
   ·go_roundw
    case rel=>exact⟨k+1,by omega,by go_num,by rw[aV Hx.out,List.any_append,P6.out];simp[F8.out],gO.out⟩
    case measure=>simp[intOf];omega
   ·go_ret;exact⟨s9 (tD Hx.out F8.out P6.out).symm,gO.out⟩
  ·go_wp2;go_ret
   exact⟨s9 (xl (by have:=P6.out;rwa [js xs az]at this)).symm,Hb.out⟩
theorem lw (v:Value) (xs:List Int) (vW:FuncId) (oX:Array Value) (p:Int->Bool) (w:World) (h:aO w v xs) (lW:∀args w,(callFunc vW args).run Tryz.prog w=.ok (.enter vW args) w) (hp:mH w vW oX p xs):
  Calls Tryz.prog 159 #[v,.func (.func vW) #[] oX] w fun e w'=>e=.returned (.bool (xs.any p))/\Below w.heap.size w w':=by
 have hb:=oD v xs vW oX p w h lW hp;have hr:=zh (I7 p xs);have Hb:=zh hb;clear hb h lW hp
 go_enter Tryz.func159,Tryz.ntmps159
 go_wp2_with fail;refine Hb.out.mono ?_;rintro e w1 ⟨rfl,aN⟩;have gO:=zh aN;clear aN;go_wp2;go_ret;exact⟨bJ hr.out,gO.out⟩
theorem tF (x lo hi:Int) (a b:Addr) (w:World) (ha:w.cell? a=some (.int .i64 lo)) (hb:w.cell? b=some (.int .i64 hi)):
  Calls Tryz.prog 160 #[.int .i64 x,.pointer (some a),.pointer (some b)] w fun e w'=>e=.returned (.bool (!fF lo hi x))/\w=w':=by
 go_enter Tryz.func160,Tryz.ntmps160
 go_wp2_with (go_at_call 71;refine(gA _ _ _ _).mono ?_;rintro e w' ⟨rfl,rfl⟩)
 go_ret;exact⟨rfl,rfl⟩
theorem pY:∀args w,(callFunc 160 args).run Tryz.prog w=.ok (.enter 160 args) w:=enters_of Tryz.func160 (by kernel_rfl) rfl
theorem lc (v:Value) (xs:List Int) (lo hi:Int) (w:World) (h:aO w v xs):
  Calls Tryz.prog 99 #[v,.int .i64 lo,.int .i64 hi] w fun e w'=>e=.returned (.bool (xs.all (fF lo hi)))/\Below w.heap.size w w':=by
 have H:=zh h;clear h
 have hr:(!xs.any fun x => !fF lo hi x)=xs.all (fF lo hi):=by rw[List.not_any_eq_all_not];simp
 have Hr:=zh hr;clear hr
 go_enter Tryz.func99,Tryz.ntmps99
 go_wp2_with fail;have hb:Below w.heap.size w ((w.alloc (Obj.cells #[Value.int IntKind.i64 lo] 3)).alloc (Obj.cells #[Value.int IntKind.i64 hi] 3)):=((Below.refl _ _).alloc (Nat.le_refl _) _).alloc (by simp) _;refine(lw _ xs _ _ (fun x => !fF lo hi x) _ (H.out.keep hb) pY ?_).mono ?_
 ·intro x _ w2 iY
  exact(tF x lo hi _ _ w2 ((iY.cell (by simp;try omega)).trans (by simp)) ((iY.cell (by simp;try omega)).trans (by simp))).mono fun _ _ ⟨he,hw⟩=>⟨he,hw ▸ Below.refl _ _⟩
 ·rintro e w1 ⟨rfl,aN⟩
  have gO:=zh (hb.trans (aN.mono (by simp;omega)))
  clear hb aN;go_wp2;go_ret;exact⟨bJ Hr.out,gO.out⟩
def yg (w:World) (v:Value) (es:List (Int×Int)):Prop:=
 ∃(A:Option Addr) (c:Nat),v=.slice A es.length c/\es.length<=c/\c<=maxLen /\
  (∀k e,es[k]?=some e->∃b off,A=some ⟨b,off,none⟩/\w.cell? ⟨b,off+k*2,none⟩=some (.int .i64 e.1)/\w.cell? ⟨b,off+k*2+1,none⟩=some (.int .i64 e.2))
theorem yg.keep {w w':World} {v:Value} {xs:List (Int×Int)} (h:yg w v xs) (hb:Below w.heap.size w w'):yg w' v xs:=by
 obtain⟨A,c,hv,hc,hm,hA⟩:=h;refine⟨A,c,hv,hc,hm,fun k x hk=>?_⟩
 obtain⟨b,off,yc,h1,h2⟩:=hA k x hk;exact⟨b,off,yc,bc hb h1,bc hb h2⟩
def lx (w:World) (v:Value) (fv:List (List (Int×Int))):Prop:=
 ∃(A:Option Addr) (c:Nat),v=.slice A fv.length c/\fv.length<=c/\c<=maxLen /\
  (∀k es,fv[k]?=some es->∃b off u,A=some ⟨b,off,none⟩/\w.cell? ⟨b,off+k,none⟩=some u/\yg w u es)
theorem lx.keep {w w':World} {v:Value} {xs:List (List (Int×Int))} (h:lx w v xs) (hb:Below w.heap.size w w'):lx w' v xs:=by
 obtain⟨A,c,hv,hc,hm,hA⟩:=h;refine⟨A,c,hv,hc,hm,fun k x hk=>?_⟩
 obtain⟨b,off,u,yc,h1,h2⟩:=hA k x hk;exact⟨b,off,u,yc,bc hb h1,h2.keep hb⟩
structure aj where
 ends:List (List (Int×Int))
 ids:List Int
 acn:List Int
 deriving DecidableEq
def aC (w:World) (ve vi vn:Value) (n:aj):Prop:=lx w ve n.ends/\aO w vi n.ids/\aO w vn n.acn
theorem aC.keep {w w':World} {ve vi vn:Value} {n:aj} (h:aC w ve vi vn n) (hb:Below w.heap.size w w'):aC w' ve vi vn n:=⟨h.1.keep hb,h.2.1.keep hb,h.2.2.keep hb⟩
def pZ (x y:Int×Int):Bool:=decide (x=y)
end Go.Proofs.YtgmdpppljkmabaaGreat
/-
 DERIVED: THE SHELF's CONTRACTS AT THIS DUMP,IN PLAIN WORDS (tools/lay-plain.mjs out of 'TryzShelf.lean',which tools/lay-shelf.mjs wrote): THE SAME DECLARATIONS UNDER THE SAME NAMES: 'import','namespace','open','def','theorem' AND NOTHING ELSE: no command of the shelf's: FOR A HAND-IN. Each laying: the table of numbers ('.._ren') and one theorem,a field a fact of the dump's own or the kernel's comparison;each contract: ONE APPLICATION.
-/
namespace Go.Proofs
open Go.Shelf
def Tryz.lays128_ren:Go.Shelf.Ren:=⟨fun | 128=>235 | n=>n,fun | 51=>180 | 3=>3 | 4=>4 | 46=>151 | 5=>5 | 9=>9 | n=>n,fun | n=>n⟩
theorem Tryz.lays128:Go.Proofs.Lays.n128 Tryz.prog Tryz.lays128_ren:={
 mixed:=by kernel_rfl
 f128:=Tryz.func235.trans (congrArg some (by kernel_rfl))
 t3:=Tryz.underlying3
 a3:=Tryz.isAgg3
 z3:=Tryz.sizeOf3
 v3:=Tryz.zeroValue3
 t4:=Tryz.underlying4
 a4:=Tryz.isAgg4
 z4:=Tryz.sizeOf4
 v4:=Tryz.zeroValue4
 t5:=Tryz.underlying5
 a5:=Tryz.isAgg5
 z5:=Tryz.sizeOf5
 v5:=Tryz.zeroValue5
 t9:=Tryz.underlying9
 a9:=Tryz.isAgg9
 z9:=Tryz.sizeOf9
 v9:=Tryz.zeroValue9
 t46:=Tryz.underlying151
 a46:=Tryz.isAgg151
 z46:=Tryz.sizeOf151
 v46:=Tryz.zeroValue151
 t51:=Tryz.underlying180
 a51:=Tryz.isAgg180
 z51:=Tryz.sizeOf180
 v51:=Tryz.zeroValue180 }
theorem Tryz.bits_Len32 (x:Int) (w:World) (h0:0<=x) (h1:x<=4294967295):
  Calls Tryz.prog 235 #[.int .u32 x] w fun e w'=>e=.returned (.int .i64 (Lib.bitLen x.toNat))/\w'=w:=Any.bits_Len32 Tryz.lays128 x w h0 h1
def Tryz.lays125_ren:Go.Shelf.Ren:=⟨fun | 125=>220 | 128=>235 | 129=>107 | n=>n,fun | 46=>151 | 3=>3 | 51=>180 | 53=>76 | 4=>4 | 5=>5 | 9=>9 | n=>n,fun | n=>n⟩
theorem Tryz.lays125:Go.Proofs.Lays.n125 Tryz.prog Tryz.lays125_ren:={
 mixed:=by kernel_rfl
 f125:=Tryz.func220.trans (congrArg some (by kernel_rfl))
 f128:=Tryz.func235.trans (congrArg some (by kernel_rfl))
 f129:=Tryz.func107.trans (congrArg some (by kernel_rfl))
 t3:=Tryz.underlying3
 a3:=Tryz.isAgg3
 z3:=Tryz.sizeOf3
 v3:=Tryz.zeroValue3
 t4:=Tryz.underlying4
 a4:=Tryz.isAgg4
 z4:=Tryz.sizeOf4
 v4:=Tryz.zeroValue4
 t5:=Tryz.underlying5
 a5:=Tryz.isAgg5
 z5:=Tryz.sizeOf5
 v5:=Tryz.zeroValue5
 t9:=Tryz.underlying9
 a9:=Tryz.isAgg9
 z9:=Tryz.sizeOf9
 v9:=Tryz.zeroValue9
 t46:=Tryz.underlying151
 a46:=Tryz.isAgg151
 z46:=Tryz.sizeOf151
 v46:=Tryz.zeroValue151
 t51:=Tryz.underlying180
 a51:=Tryz.isAgg180
 z51:=Tryz.sizeOf180
 v51:=Tryz.zeroValue180
 t53:=Tryz.underlying76
 a53:=Tryz.isAgg76
 z53:=Tryz.sizeOf76
 v53:=Tryz.zeroValue76 }
theorem Tryz.bits_Len (x:Int) (w:World) (h0:0<=x) (h1:x<=18446744073709551615):
  Calls Tryz.prog 220 #[.int .u64 x] w fun e w'=>e=.returned (.int .i64 (Lib.bitLen x.toNat))/\w'=w:=Any.bits_Len Tryz.lays125 x w h0 h1
def Tryz.lays215_ren:Go.Shelf.Ren:=⟨fun | 215=>245 | n=>n,fun | 3=>3 | 4=>4 | n=>n,fun | n=>n⟩
theorem Tryz.lays215:Go.Proofs.Lays.n215 Tryz.prog Tryz.lays215_ren:={
 mixed:=by kernel_rfl
 f215:=Tryz.func245.trans (congrArg some (by kernel_rfl))
 t3:=Tryz.underlying3
 a3:=Tryz.isAgg3
 z3:=Tryz.sizeOf3
 v3:=Tryz.zeroValue3
 t4:=Tryz.underlying4
 a4:=Tryz.isAgg4
 z4:=Tryz.sizeOf4
 v4:=Tryz.zeroValue4 }
open Go.RowKit in
theorem Tryz.cmp_isNaN_int (x:Int) (w:World):
  Calls Tryz.prog 245 #[.int .i64 x] w fun e w'=>e=.returned (.bool false)/\w'=w:=Any.cmp_isNaN_int Tryz.lays215 x w
def Tryz.lays129_ren:Go.Shelf.Ren:=⟨fun | 129=>107 | n=>n,fun | 53=>76 | 3=>3 | 4=>4 | 46=>151 | 5=>5 | 9=>9 | n=>n,fun | n=>n⟩
theorem Tryz.lays129:Go.Proofs.Lays.n129 Tryz.prog Tryz.lays129_ren:={
 mixed:=by kernel_rfl
 f129:=Tryz.func107.trans (congrArg some (by kernel_rfl))
 t3:=Tryz.underlying3
 a3:=Tryz.isAgg3
 z3:=Tryz.sizeOf3
 v3:=Tryz.zeroValue3
 t4:=Tryz.underlying4
 a4:=Tryz.isAgg4
 z4:=Tryz.sizeOf4
 v4:=Tryz.zeroValue4
 t5:=Tryz.underlying5
 a5:=Tryz.isAgg5
 z5:=Tryz.sizeOf5
 v5:=Tryz.zeroValue5
 t9:=Tryz.underlying9
 a9:=Tryz.isAgg9
 z9:=Tryz.sizeOf9
 v9:=Tryz.zeroValue9
 t46:=Tryz.underlying151
 a46:=Tryz.isAgg151
 z46:=Tryz.sizeOf151
 v46:=Tryz.zeroValue151
 t53:=Tryz.underlying76
 a53:=Tryz.isAgg76
 z53:=Tryz.sizeOf76
 v53:=Tryz.zeroValue76 }
theorem Tryz.bits_Len64 (x:Int) (w:World) (h0:0<=x) (h1:x<=18446744073709551615):
  Calls Tryz.prog 107 #[.int .u64 x] w fun e w'=>e=.returned (.int .i64 (Lib.bitLen x.toNat))/\w'=w:=Any.bits_Len64 Tryz.lays129 x w h0 h1
def Tryz.lays189_ren:Go.Shelf.Ren:=⟨fun | 189=>196 | 125=>220 | 257=>219 | 128=>235 | 129=>107 | 294=>226 | 295=>227 | 296=>228 | 297=>229 | 298=>230 | 299=>231 | 216=>232 | 300=>233 | 301=>234 | 328=>240 | 329=>241 | 330=>242 | 331=>243 | 332=>244 | 215=>245 | 343=>247 | n=>n,fun | 28=>25 | 3=>3 | 46=>151 | 0=>0 | 51=>180 | 53=>76 | 4=>4 | 183=>189 | 182=>188 | 131=>52 | 5=>5 | 9=>9 | 218=>200 | 222=>204 | 228=>206 | 229=>207 | n=>n,fun | n=>n⟩
theorem Tryz.lays189:Go.Proofs.Lays.n189 Tryz.prog Tryz.lays189_ren:={
 mixed:=by kernel_rfl
 f125:=Tryz.func220.trans (congrArg some (by kernel_rfl))
 f128:=Tryz.func235.trans (congrArg some (by kernel_rfl))
 f129:=Tryz.func107.trans (congrArg some (by kernel_rfl))
 f189:=Tryz.func196.trans (congrArg some (by kernel_rfl))
 f215:=Tryz.func245.trans (congrArg some (by kernel_rfl))
 f216:=Tryz.func232.trans (congrArg some (by kernel_rfl))
 f257:=Tryz.func219.trans (congrArg some (by kernel_rfl))
 f294:=Tryz.func226.trans (congrArg some (by kernel_rfl))
 f295:=Tryz.func227.trans (congrArg some (by kernel_rfl))
 f296:=Tryz.func228.trans (congrArg some (by kernel_rfl))
 f297:=Tryz.func229.trans (congrArg some (by kernel_rfl))
 f298:=Tryz.func230.trans (congrArg some (by kernel_rfl))
 f299:=Tryz.func231.trans (congrArg some (by kernel_rfl))
 f300:=Tryz.func233.trans (congrArg some (by kernel_rfl))
 f301:=Tryz.func234.trans (congrArg some (by kernel_rfl))
 f328:=Tryz.func240.trans (congrArg some (by kernel_rfl))
 f329:=Tryz.func241.trans (congrArg some (by kernel_rfl))
 f330:=Tryz.func242.trans (congrArg some (by kernel_rfl))
 f331:=Tryz.func243.trans (congrArg some (by kernel_rfl))
 f332:=Tryz.func244.trans (congrArg some (by kernel_rfl))
 f343:=Tryz.func247.trans (congrArg some (by kernel_rfl))
 t0:=Tryz.underlying0
 a0:=Tryz.isAgg0
 z0:=Tryz.sizeOf0
 v0:=Tryz.zeroValue0
 t3:=Tryz.underlying3
 a3:=Tryz.isAgg3
 z3:=Tryz.sizeOf3
 v3:=Tryz.zeroValue3
 t4:=Tryz.underlying4
 a4:=Tryz.isAgg4
 z4:=Tryz.sizeOf4
 v4:=Tryz.zeroValue4
 t5:=Tryz.underlying5
 a5:=Tryz.isAgg5
 z5:=Tryz.sizeOf5
 v5:=Tryz.zeroValue5
 t9:=Tryz.underlying9
 a9:=Tryz.isAgg9
 z9:=Tryz.sizeOf9
 v9:=Tryz.zeroValue9
 t28:=Tryz.underlying25
 a28:=Tryz.isAgg25
 z28:=Tryz.sizeOf25
 v28:=Tryz.zeroValue25
 t46:=Tryz.underlying151
 a46:=Tryz.isAgg151
 z46:=Tryz.sizeOf151
 v46:=Tryz.zeroValue151
 t51:=Tryz.underlying180
 a51:=Tryz.isAgg180
 z51:=Tryz.sizeOf180
 v51:=Tryz.zeroValue180
 t53:=Tryz.underlying76
 a53:=Tryz.isAgg76
 z53:=Tryz.sizeOf76
 v53:=Tryz.zeroValue76
 t131:=Tryz.underlying52
 a131:=Tryz.isAgg52
 z131:=Tryz.sizeOf52
 v131:=Tryz.zeroValue52
 t182:=Tryz.underlying188
 a182:=Tryz.isAgg188
 z182:=Tryz.sizeOf188
 v182:=Tryz.zeroValue188
 t183:=Tryz.underlying189
 a183:=Tryz.isAgg189
 z183:=Tryz.sizeOf189
 v183:=Tryz.zeroValue189
 t218:=Tryz.underlying200
 a218:=Tryz.isAgg200
 z218:=Tryz.sizeOf200
 v218:=Tryz.zeroValue200
 t222:=Tryz.underlying204
 a222:=Tryz.isAgg204
 z222:=Tryz.sizeOf204
 v222:=Tryz.zeroValue204
 t228:=Tryz.underlying206
 a228:=Tryz.isAgg206
 z228:=Tryz.sizeOf206
 v228:=Tryz.zeroValue206
 t229:=Tryz.underlying207
 a229:=Tryz.isAgg207
 z229:=Tryz.sizeOf207
 v229:=Tryz.zeroValue207 }
open Go.Sort Go.RowKit in
theorem Tryz.slices_Sort_int (blk off cap:Nat) (zs:List Int) (w:World) (hH:Holds (Value.int .i64) w blk off zs.toArray) (C_:blk<w.heap.size) (fO:zs.length<4611686018427387904):
  Calls Tryz.prog 196 #[.slice (some ⟨blk,off,none⟩) zs.length cap] w fun e w'=>
   e=.returned (.tuple #[])/\∃n os,w'=grow (putRow (Value.int .i64) (Sort.ahead w n) blk off (zs.mergeSort fun x y=>decide (x<=y)).toArray) os:=Any.slices_Sort_int Tryz.lays189 blk off cap zs w hH C_ fO
def Tryz.lays264_ren:Go.Shelf.Ren:=⟨fun | 264=>223 | n=>n,fun | 53=>76 | 46=>151 | n=>n,fun | n=>n⟩
theorem Tryz.lays264:Go.Proofs.Lays.n264 Tryz.prog Tryz.lays264_ren:={
 mixed:=by kernel_rfl
 f264:=Tryz.func223.trans (congrArg some (by kernel_rfl))
 t46:=Tryz.underlying151
 a46:=Tryz.isAgg151
 z46:=Tryz.sizeOf151
 v46:=Tryz.zeroValue151
 t53:=Tryz.underlying76
 a53:=Tryz.isAgg76
 z53:=Tryz.sizeOf76
 v53:=Tryz.zeroValue76 }
open Go.RowKit Go.Lib in
theorem Tryz.bits_Mul64 (x y:Nat) (hx:x<18446744073709551616) (hy:y<18446744073709551616) (w:World):
  Calls Tryz.prog 223 #[.int .u64 x,.int .u64 y] w fun e w'=>e=.returned (.tuple #[.int .u64 ((x*y/18446744073709551616:Nat):Int),.int .u64 ((x*y%18446744073709551616:Nat):Int)])/\w'=w:=Any.bits_Mul64 Tryz.lays264 x y hx hy w
def Tryz.lays212_ren:Go.Shelf.Ren:=⟨fun | 212=>205 | 263=>222 | 264=>223 | n=>n,fun | 46=>151 | 51=>180 | 146=>181 | 53=>76 | 148=>183 | n=>n,fun | n=>n⟩
theorem Tryz.lays212:Go.Proofs.Lays.n212 Tryz.prog Tryz.lays212_ren:={
 mixed:=by kernel_rfl
 f212:=Tryz.func205.trans (congrArg some (by kernel_rfl))
 f263:=Tryz.func222.trans (congrArg some (by kernel_rfl))
 f264:=Tryz.func223.trans (congrArg some (by kernel_rfl))
 t46:=Tryz.underlying151
 a46:=Tryz.isAgg151
 z46:=Tryz.sizeOf151
 v46:=Tryz.zeroValue151
 t51:=Tryz.underlying180
 a51:=Tryz.isAgg180
 z51:=Tryz.sizeOf180
 v51:=Tryz.zeroValue180
 t53:=Tryz.underlying76
 a53:=Tryz.isAgg76
 z53:=Tryz.sizeOf76
 v53:=Tryz.zeroValue76
 t146:=Tryz.underlying181
 a146:=Tryz.isAgg181
 z146:=Tryz.sizeOf181
 v146:=Tryz.zeroValue181
 t148:=Tryz.underlying183
 a148:=Tryz.isAgg183
 z148:=Tryz.sizeOf183
 v148:=Tryz.zeroValue183 }
open Go.RowKit Go.Lib in
theorem Tryz.bits_Mul (x y:Nat) (hx:x<18446744073709551616) (hy:y<18446744073709551616) (w:World):
  Calls Tryz.prog 205 #[.int .u64 x,.int .u64 y] w fun e w'=>e=.returned (.tuple #[.int .u64 ((x*y/18446744073709551616:Nat):Int),.int .u64 ((x*y%18446744073709551616:Nat):Int)])/\w'=w:=Any.bits_Mul Tryz.lays212 x y hx hy w
def Tryz.lays112_ren:Go.Shelf.Ren:=⟨fun | 112=>177 | n=>n,fun | 28=>25 | 3=>3 | 4=>4 | 0=>0 | n=>n,fun | n=>n⟩
theorem Tryz.lays112:Go.Proofs.Lays.n112 Tryz.prog Tryz.lays112_ren:={
 mixed:=by kernel_rfl
 f112:=Tryz.func177.trans (congrArg some (by kernel_rfl))
 t0:=Tryz.underlying0
 a0:=Tryz.isAgg0
 z0:=Tryz.sizeOf0
 v0:=Tryz.zeroValue0
 t3:=Tryz.underlying3
 a3:=Tryz.isAgg3
 z3:=Tryz.sizeOf3
 v3:=Tryz.zeroValue3
 t4:=Tryz.underlying4
 a4:=Tryz.isAgg4
 z4:=Tryz.sizeOf4
 v4:=Tryz.zeroValue4
 t28:=Tryz.underlying25
 a28:=Tryz.isAgg25
 z28:=Tryz.sizeOf25
 v28:=Tryz.zeroValue25 }
open Go.RowKit Go.Lib Go.Sort in
theorem Tryz.slices_Reverse_int_arr (blk off cap:Nat) (d:Array Int) (w:World) (hH:Holds encI w blk off d) (fO:d.size<=9223372036854775807):
  Calls Tryz.prog 177 #[.slice (some ⟨blk,off,none⟩) d.size cap] w fun e w'=>e=.returned (.tuple #[])/\∃n,w'=putRow encI (Sort.ahead w n) blk off d.reverse:=Any.slices_Reverse_int_arr Tryz.lays112 blk off cap d w hH fO
open Go.RowKit Go.Lib Go.Sort in
theorem Tryz.slices_Reverse_int (blk off cap:Nat) (zs:List Int) (w:World) (hH:Holds (Value.int .i64) w blk off zs.toArray) (fO:zs.length<=9223372036854775807):
  Calls Tryz.prog 177 #[.slice (some ⟨blk,off,none⟩) zs.length cap] w fun e w'=>e=.returned (.tuple #[])/\∃n,w'=putRow (Value.int .i64) (Sort.ahead w n) blk off zs.reverse.toArray:=Any.slices_Reverse_int Tryz.lays112 blk off cap zs w hH fO
open Go.RowKit Go.Lib Go.Sort in
theorem Tryz.slices_Reverse_int_empty (a:Option Addr) (cap:Nat) (w:World):
  Calls Tryz.prog 177 #[.slice a 0 cap] w fun e w'=>e=.returned (.tuple #[])/\w'=w:=Any.slices_Reverse_int_empty Tryz.lays112 a cap w
def Tryz.laysNm215_ren:Go.Shelf.Ren:=⟨fun | 15=>92 | n=>n,fun | 22=>25 | 3=>3 | 4=>4 | n=>n,fun | n=>n⟩
theorem Tryz.laysNm215:Go.Proofs.Lays2.n15 Tryz.prog Tryz.laysNm215_ren:={
 mixed:=by kernel_rfl
 f15:=Tryz.func92.trans (congrArg some (by kernel_rfl))
 t3:=Tryz.underlying3
 a3:=Tryz.isAgg3
 z3:=Tryz.sizeOf3
 v3:=Tryz.zeroValue3
 t4:=Tryz.underlying4
 a4:=Tryz.isAgg4
 z4:=Tryz.sizeOf4
 v4:=Tryz.zeroValue4
 t22:=Tryz.underlying25
 a22:=Tryz.isAgg25
 z22:=Tryz.sizeOf25
 v22:=Tryz.zeroValue25
 i3:=by kernel_rfl }
open Go.RowKit Go.Lib in
theorem Tryz.slices_Clone_int (b off n c:Nat) (zs:List Int) (w:World) (hz:n<=zs.length) (zW:n*8<=140737488355328) (hc:∀j,j<zs.length->w.cell? ⟨b,off+j,none⟩=some (.int .i64 (zs.getD j 0))):
  Calls Tryz.prog 92 #[.slice (some ⟨b,off,none⟩) n c] w fun e w'=>∃v',e=.returned v'/\w'.ownsRow w.heap.size 3 1 v' n ((zs.take n).map (Value.int .i64))/\v' ≠ .slice none 0 0/\Below w.heap.size w w':=Any.slices_Clone_int Tryz.laysNm215 b off n c zs w hz zW hc
open Go.RowKit Go.Lib in
theorem Tryz.slices_Clone_int_nil (n c:Nat) (w:World):
  Calls Tryz.prog 92 #[.slice none n c] w fun e w'=>e=.returned (.slice none 0 0)/\w'=w:=Any.slices_Clone_int_nil Tryz.laysNm215 n c w
open Go.RowKit Go.Lib in
theorem Tryz.slices_Clone_int_zero (a:Addr) (c:Nat) (w:World):
  Calls Tryz.prog 92 #[.slice (some a) 0 c] w fun e w'=>∃v',e=.returned v'/\w'.ownsRow w.heap.size 3 1 v' 0 []/\v' ≠ .slice none 0 0/\Below w.heap.size w w':=Any.slices_Clone_int_zero Tryz.laysNm215 a c w
def Tryz.laysNm237_ren:Go.Shelf.Ren:=⟨fun | 37=>245 | n=>n,fun | 3=>3 | 4=>4 | n=>n,fun | n=>n⟩
theorem Tryz.laysNm237:Go.Proofs.Lays2.n37 Tryz.prog Tryz.laysNm237_ren:={
 mixed:=by kernel_rfl
 f37:=Tryz.func245.trans (congrArg some (by kernel_rfl))
 t3:=Tryz.underlying3
 a3:=Tryz.isAgg3
 z3:=Tryz.sizeOf3
 v3:=Tryz.zeroValue3
 t4:=Tryz.underlying4
 a4:=Tryz.isAgg4
 z4:=Tryz.sizeOf4
 v4:=Tryz.zeroValue4 }
open Go.RowKit Go.Lib in
theorem Tryz.cmp_isNaN_int2 (x:Int) (w:World):
  Calls Tryz.prog 245 #[.int .i64 x] w fun e w'=>e=.returned (.bool false)/\w'=w:=Any.cmp_isNaN_int2 Tryz.laysNm237 x w
def Tryz.laysNm231_ren:Go.Shelf.Ren:=⟨fun | 31=>232 | 37=>245 | n=>n,fun | 3=>3 | 4=>4 | n=>n,fun | n=>n⟩
theorem Tryz.laysNm231:Go.Proofs.Lays2.n31 Tryz.prog Tryz.laysNm231_ren:={
 mixed:=by kernel_rfl
 f31:=Tryz.func232.trans (congrArg some (by kernel_rfl))
 f37:=Tryz.func245.trans (congrArg some (by kernel_rfl))
 t3:=Tryz.underlying3
 a3:=Tryz.isAgg3
 z3:=Tryz.sizeOf3
 v3:=Tryz.zeroValue3
 t4:=Tryz.underlying4
 a4:=Tryz.isAgg4
 z4:=Tryz.sizeOf4
 v4:=Tryz.zeroValue4 }
open Go.RowKit Go.Lib in
theorem Tryz.cmp_Less_int2 (x y:Int) (w:World):
  Calls Tryz.prog 232 #[.int .i64 x,.int .i64 y] w fun e w'=>e=.returned (.bool (decide (x<y)))/\w'=w:=Any.cmp_Less_int2 Tryz.laysNm231 x y w
open Go.RowKit Go.Lib Go.Sort in
theorem Tryz.slices_Reverse_int_cells (b off n c:Nat) (zs:List Int) (w:World) (hz:n<=zs.length) (zW:n<=9223372036854775807) (hc:∀j,j<zs.length->w.cell? ⟨b,off+j,none⟩=some (.int .i64 (zs.getD j 0))) (hf:∀j,j<n->w.frozen? ⟨b,off+j,none⟩=false):
  Calls Tryz.prog 177 #[.slice (some ⟨b,off,none⟩) n c] w fun e w'=>e=.returned (.tuple #[])/\∃q,w'=(w.drewN q).setCells b off ((zs.take n).reverse.map (Value.int .i64)):=Any.slices_Reverse_int_cells Tryz.lays112 b off n c zs w hz zW hc hf
open Go.RowKit Go.Sort in
theorem Tryz.slices_Sort_int_none (p:Option Addr) (cap:Nat) (w:World):
  Calls Tryz.prog 196 #[.slice p 0 cap] w fun e w'=>e=.returned (.tuple #[])/\w'=w:=Any.slices_Sort_int_none Tryz.lays189 p cap w
end Go.Proofs
namespace Go.Proofs.YtgmdpppljkmabaaGreat
open Go Go.RowKit
open Go.RowKit Go.Sort
theorem Fa {w:World} {base g c n:Nat} {xs ys:List Int} (h:Own w base (.slice (some ⟨g,0,none⟩) n c) xs) (hl:ys.length=xs.length) (q:Nat) (os:Array Obj):
  Own (grow (putRow (Value.int .i64) (Sort.ahead w q) g 0 ys.toArray) os) base (.slice (some ⟨g,0,none⟩) n c) ys/\w.grownBy (grow (putRow (Value.int .i64) (Sort.ahead w q) g 0 ys.toArray) os) (some g):=by
 obtain rfl:=h.len
 have C_:=h.blk;rcases h.2 with⟨h',_⟩ | ⟨g',sD,cur,h',hb,hg,s8,hm,pX,tA⟩
 ·simp at h'
 ·simp only[Value.slice.injEq,Option.some.injEq,Addr.mk.injEq,and_true,true_and]at h';obtain⟨rfl,rfl⟩:=h'
  have mE:(grow (putRow (Value.int .i64) (Sort.ahead w q) g 0 ys.toArray) os).heap[g]?=some (.cells (putCells (Value.int .i64) 0 ys.toArray cur) 3 (0,0)):=by
   show((w.heap.modify g (onCells (putCells (Value.int .i64) 0 ys.toArray)))++os)[g]?=_
   rw[Array.getElem?_append_left (by rw[Array.size_modify];exact C_.2),Array.getElem?_modify,if_pos rfl,hg]
   rfl
  refine⟨⟨by simp,.inr ⟨g,c,putCells (Value.int .i64) 0 ys.toArray cur,by rw[hl],hb,mE,by omega,hm,by simpa[putCells]using pX,?_⟩⟩,⟨rfl,rfl,rfl,?_,?_⟩⟩
  ·apply List.ext_getElem?
   intro j;rw[List.getElem?_take,List.getElem?_map]
   by_cases hj:j<ys.length
   ·rw[if_pos (by omega),Array.getElem?_toList];have xm:j<cur.size:=by omega
    simp[putCells,hj,xm]
   ·rw[if_neg (by omega)];simp[hj]
  ·show w.heap.size<=((w.heap.modify g _)++os).size
   rw[Array.size_append,Array.size_modify];omega
  ·intro k hk iJ;show((w.heap.modify g _)++os)[k]?=_
   rw[Array.getElem?_append_left (by rw[Array.size_modify];exact hk),Array.getElem?_modify,if_neg (fun e=>iJ (by rw[e]))]
theorem xn {w:World} {base g c n:Nat} {xs:List Int} (h:Own w base (.slice (some ⟨g,0,none⟩) n c) xs):Holds (Value.int .i64) w g 0 xs.toArray:=by
 intro j hj;have Da:j<xs.length:=by simpa using hj
 rw[Nat.zero_add];refine⟨?_,h.free j⟩
 have:xs[j]?=some (xs.toArray[j]!):=by simp[Da]
 exact h.cell this
theorem zX (v:Value) (xs:List Int) (w:World) (base:Nat) (h:Own w base v xs):
  Calls Tryz.prog 177 #[v] w fun e w'=>e=.returned (.tuple #[])/\Own w' base v xs.reverse/\w.grownBy w' v.ownBlock:=by
 rcases h.cases with⟨rfl,rfl⟩ | ⟨g,c,rfl,aN,bx⟩
 ·exact(Tryz.slices_Reverse_int_empty none 0 w).mono fun e w' ⟨he,hw⟩=>⟨he,hw ▸ h,hw ▸ World.grownBy.refl _ _⟩
 ·have hm:=h.bd;unfold maxLen at hm;refine(Tryz.slices_Reverse_int g 0 c xs w (xn h) (by omega)).mono fun e w' ⟨he,q,hw⟩=>⟨he,?_⟩
  subst hw
  have:=Fa h (ys:=xs.reverse) (by simp) q #[]
  rw[grow_empty]at this;exact this
theorem I8 (v:Value) (xs:List Int) (w:World) (base:Nat) (h:Own w base v xs) (hl:xs.length<=17592186044416):
  Calls Tryz.prog 196 #[v] w fun e w'=>e=.returned (.tuple #[])/\Own w' base v (xs.mergeSort fun x y=>decide (x<=y))/\w.grownBy w' v.ownBlock:=by
 rcases h.cases with⟨rfl,rfl⟩ | ⟨g,c,rfl,aN,bx⟩
 ·exact(Tryz.slices_Sort_int_none none 0 w).mono fun e w' ⟨he,hw⟩=>⟨he,by rw[List.mergeSort_nil];exact hw ▸ h,hw ▸ World.grownBy.refl _ _⟩
 ·refine(Tryz.slices_Sort_int g 0 c xs w (xn h) bx (by omega)).mono fun e w' ⟨he,q,os,hw⟩=>⟨he,?_⟩
  subst hw;exact Fa h (by simp[List.length_mergeSort]) q os
theorem F9 (v:Value) (xs:List Int) (w:World) (h:aO w v xs) (hl:xs.length<=17592186044416):
  Calls Tryz.prog 92 #[v] w fun e w'=>∃u,e=.returned u/\Own w' w.heap.size u xs/\Below w.heap.size w w':=by
 obtain⟨A,c,rfl,fg,hm,hA⟩:=h;rcases Nat.eq_zero_or_pos xs.length with h0 | h0
 ·obtain rfl:xs=[]:=List.eq_nil_of_length_eq_zero h0
  cases A with
  | none=>exact(Tryz.slices_Clone_int_nil 0 c w).mono fun e w' ⟨he,hw⟩=>⟨_,he,World.ownsRow_nil _ _ _ _,hw ▸ Below.refl _ _⟩
  | some a=>exact(Tryz.slices_Clone_int_zero a c w).mono fun e w' ⟨u,he,ho,_,hb⟩=>⟨u,he,ho,hb⟩
 ·obtain⟨x,hx⟩:=aA xs 0 h0;obtain⟨b,off,rfl,h1⟩:=hA 0 x hx;refine(Tryz.slices_Clone_int b off xs.length c xs w (Nat.le_refl _) (by omega) ?_).mono fun e w' ⟨u,he,ho,_,hb⟩=>⟨u,he,?_,hb⟩
  ·intro j hj;obtain⟨y,hy⟩:=aA xs j hj;obtain⟨b',n7,he,hc⟩:=hA j y hy
   injection he with he
   injection he with e1 e2
   subst e1 e2
   rw[hc];simp[hy]
  ·rw[List.take_length]at ho;exact ho
end Go.Proofs.YtgmdpppljkmabaaGreat
