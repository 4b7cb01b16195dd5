/- Parts of the proof: walks of functions and plain laws. -/
import Derived.Test.YtnioemnkfojmkaaGreatRows
import Derived.WalkKit
import Derived.ProofKit
import Derived.OpenShut
import Derived.Outline
import Derived.Lib.Hide
import Derived.Deep.QuietTactic
import Derived.BigQuiet
import Derived.StillTailTactics
import Derived.Deep.RegionHeld3
import Derived.RegionTactic
import Derived.ChangeAlike
import Derived.LoopTactic
import Derived.Deep.LoopGhost
import Derived.Deep.DeepCutAuto
import Derived.Deep.RegionWith
import Derived.Deep.RegionLaw
import Derived.WalkLawsBesides
import Derived.WalkSpells
import Derived.OwnWalk
import Derived.Handy
import Derived.PlainAid
import Derived.Deep.DeepFit
import Derived.Deep.DeepMust
import Derived.Laws.AppendOwn
import Derived.Laws.MakeOwn
import Derived.Deep.AppendLies
import Derived.Deep.Draws
import Derived.Laws.OwnMore
import Derived.Laws.Rows
import Derived.Maps.AppendAt
import Derived.Deep.Slices
import Derived.Deep.Fields
import Derived.Lib.SmallJoins
import Derived.ChangeSame
import Derived.ShutString
import Derived.ChangeOld
import Derived.Shelf.Abstract
import Derived.LoopN
import Derived.Shelf.Small.Bits
import Derived.Shelf.Small.Wraps
import Derived.Shelf.Strconv.Itoa0
import Derived.Shelf.Sort.Plain
import Derived.Shelf.Bits.Mul64
import Derived.Ground.Names2Prog
import Derived.Shelf.Slices.Clone
import Derived.Shelf.Slices.SearchI
import Derived.Shelf.Slices.In.SortNone
import Derived.Test.YtnioemnkfojmkaaGreatProg
import Derived.RangeFuncNested
import Derived.RangeFuncBound
import Derived.RangeFuncCalls
import Derived.RangeFuncLeaves
import Derived.RangeFuncBox
import Derived.Shelf.RegionOpen
import Derived.OwnWalkIn
import Derived.TacticsInMore
import Derived.LoopNIn
import Derived.LoopIn
namespace Go.Proofs.YtnioemnkfojmkaaGreat
open Go Go.RowKit
theorem zA : (∀ (a : Act) (d : Nat) (v : Value), a.put (some d) v = { a with tmps := a.tmps.setIfInBounds d v }) ∧ (∀ (a : Act) (v : Value), a.put none v = a) ∧ (∀ (l : List Value) (i : Nat) (a : Value), (List.toArray l).setIfInBounds i a = (l.set i a).toArray) ∧ (∀ (x : Value) (l : List Value) (i : Nat) (a : Value), (x :: l).set (i + 1) a = x :: l.set i a) ∧ ∀ (x : Value) (l : List Value) (a : Value), (x :: l).set 0 a = a :: l :=
  ⟨fun _ _ _ => rfl, fun _ _ => rfl, fun _ _ _ => List.setIfInBounds_toArray .., fun _ _ _ _ => List.set_cons_succ .., fun _ _ _ => List.set_cons_zero ..⟩
theorem zR6 : List.range 6 = [0, 1, 2, 3, 4, 5] := rfl
theorem zR8 : List.range 8 = [0, 1, 2, 3, 4, 5, 6, 7] := rfl
theorem zR11 : List.range 11 = [0, 1, 2, 3, 4, 5, 6, 7, 8, 9, 10] := rfl
theorem zh {p : Prop} (h : p) : Hid p := Lib.hid h
theorem zO {p : Prop} (h : p := by omega) : p := h
theorem zS {p : Prop} (h : p := by simp) : p := h
theorem zK {p : Prop} (h : p := by kernel_rfl) : p := h
theorem zN {p : Prop} (h : p := by first | rfl | go_num) : p := h
theorem zM {p : Prop} (h : p := by go_num) : p := h
theorem zX {p q : Prop} (x : p) (h : p → q := by intro _; omega) : q := h x
theorem zY {p r q : Prop} (x : p) (y : r) (h : p → r → q := by intro _ _; omega) : q := h x y
theorem J_ {α : Sort _} (x : α) : ∃ z, z = x := ⟨x, rfl⟩
theorem K_ {α : Sort _} (x : α) : ∃ z, x = z := ⟨x, rfl⟩
theorem A_ {a0 a1 : Prop} (x0 : a0) (x1 : a1) : Hid a0 ∧ Hid a1 := ⟨Lib.hid x0, Lib.hid x1⟩
theorem B_ {a0 a1 a2 : Prop} (x0 : a0) (x1 : a1) (x2 : a2) : Hid a0 ∧ Hid a1 ∧ Hid a2 := ⟨Lib.hid x0, Lib.hid x1, Lib.hid x2⟩
theorem C_ {a0 a1 a2 a3 : Prop} (x0 : a0) (x1 : a1) (x2 : a2) (x3 : a3) : Hid a0 ∧ Hid a1 ∧ Hid a2 ∧ Hid a3 := ⟨Lib.hid x0, Lib.hid x1, Lib.hid x2, Lib.hid x3⟩
theorem D_ {a0 a1 a2 a3 a4 : Prop} (x0 : a0) (x1 : a1) (x2 : a2) (x3 : a3) (x4 : a4) : Hid a0 ∧ Hid a1 ∧ Hid a2 ∧ Hid a3 ∧ Hid a4 := ⟨Lib.hid x0, Lib.hid x1, Lib.hid x2, Lib.hid x3, Lib.hid x4⟩
theorem E_ {a0 a1 a2 a3 a4 a5 : Prop} (x0 : a0) (x1 : a1) (x2 : a2) (x3 : a3) (x4 : a4) (x5 : a5) : Hid a0 ∧ Hid a1 ∧ Hid a2 ∧ Hid a3 ∧ Hid a4 ∧ Hid a5 := ⟨Lib.hid x0, Lib.hid x1, Lib.hid x2, Lib.hid x3, Lib.hid x4, Lib.hid x5⟩
theorem F_ {a0 a1 a2 a3 a4 a5 a6 : Prop} (x0 : a0) (x1 : a1) (x2 : a2) (x3 : a3) (x4 : a4) (x5 : a5) (x6 : a6) : Hid a0 ∧ Hid a1 ∧ Hid a2 ∧ Hid a3 ∧ Hid a4 ∧ Hid a5 ∧ Hid a6 := ⟨Lib.hid x0, Lib.hid x1, Lib.hid x2, Lib.hid x3, Lib.hid x4, Lib.hid x5, Lib.hid x6⟩
theorem G_ {a0 a1 a2 a3 a4 a5 a6 a7 : Prop} (x0 : a0) (x1 : a1) (x2 : a2) (x3 : a3) (x4 : a4) (x5 : a5) (x6 : a6) (x7 : a7) : Hid a0 ∧ Hid a1 ∧ Hid a2 ∧ Hid a3 ∧ Hid a4 ∧ Hid a5 ∧ Hid a6 ∧ Hid a7 := ⟨Lib.hid x0, Lib.hid x1, Lib.hid x2, Lib.hid x3, Lib.hid x4, Lib.hid x5, Lib.hid x6, Lib.hid x7⟩
theorem H_ {a0 a1 a2 a3 a4 a5 a6 a7 a8 : Prop} (x0 : a0) (x1 : a1) (x2 : a2) (x3 : a3) (x4 : a4) (x5 : a5) (x6 : a6) (x7 : a7) (x8 : a8) : Hid a0 ∧ Hid a1 ∧ Hid a2 ∧ Hid a3 ∧ Hid a4 ∧ Hid a5 ∧ Hid a6 ∧ Hid a7 ∧ Hid a8 := ⟨Lib.hid x0, Lib.hid x1, Lib.hid x2, Lib.hid x3, Lib.hid x4, Lib.hid x5, Lib.hid x6, Lib.hid x7, Lib.hid x8⟩
theorem I_ {a0 a1 a2 a3 a4 a5 a6 a7 a8 a9 : Prop} (x0 : a0) (x1 : a1) (x2 : a2) (x3 : a3) (x4 : a4) (x5 : a5) (x6 : a6) (x7 : a7) (x8 : a8) (x9 : a9) : Hid a0 ∧ Hid a1 ∧ Hid a2 ∧ Hid a3 ∧ Hid a4 ∧ Hid a5 ∧ Hid a6 ∧ Hid a7 ∧ Hid a8 ∧ Hid a9 := ⟨Lib.hid x0, Lib.hid x1, Lib.hid x2, Lib.hid x3, Lib.hid x4, Lib.hid x5, Lib.hid x6, Lib.hid x7, Lib.hid x8, Lib.hid x9⟩
theorem zT {α : Type} : (∀ (i : Nat) (a : α) (l : List α), (a :: l).take (i + 1) = a :: l.take i) ∧ (∀ l : List α, l.take 0 = []) ∧ (∀ (i : Nat) (a : α) (l : List α), (a :: l).drop (i + 1) = l.drop i) ∧ ∀ l : List α, l.drop 0 = l :=
 ⟨fun _ _ _ => rfl, fun _ => rfl, fun _ _ _ => rfl, fun _ => rfl⟩
theorem zG {α : Type} : (∀ (l : List α) (i : Nat), l.toArray[i]? = l[i]?) ∧ (∀ (a : α) (l : List α) (i : Nat), (a :: l)[i + 1]? = l[i]?) ∧ ∀ (a : α) (l : List α), (a :: l)[0]? = some a :=
 ⟨fun _ _ => List.getElem?_toArray .., fun _ _ _ => rfl, fun _ _ => rfl⟩
theorem zDd {α : Type} (l : List α) (i : Nat) (a : α) : l.getD i a = l[i]?.getD a := List.getD_eq_getElem?_getD ..
theorem zc {P : Program} {f : FuncId} {a : Array Value} {w : World} {E : Ending} {W : World} (h : Calls P f a w fun e w' => e = E ∧ w' = W) {Q : Ending → World → Prop} (q : Q E W) : Calls P f a w Q := h.mono (by rintro _ _ ⟨rfl, rfl⟩; exact q)
end Go.Proofs.YtnioemnkfojmkaaGreat
set_option maxRecDepth 100000
set_option maxHeartbeats 16000000

namespace Go.Proofs.YtnioemnkfojmkaaGreat
open Go Go.RowKit
theorem au {α:Type} (xs:List α) (k:Nat) (h:k<xs.length):∃x,xs[k]?=some x:=⟨_,List.getElem?_eq_getElem h⟩
theorem bJ {α:Type} {xs:List α} {k:Nat} {x:α} (h:xs[k]?=some x):xs.take (k+1)=xs.take k++[x]:=by
 obtain⟨hk,rfl⟩:=List.getElem?_eq_some_iff.1 h;exact List.take_succ_eq_append_getElem hk
theorem Qo {α:Type} {xs:List α} {k:Nat} {x:α} {p:α->Bool} (h:xs[k]?=some x) (hp:p x=false):xs.all p=false:=by
 rw[List.all_eq_false];exact⟨x,List.mem_of_getElem? h,by simp[hp]⟩
theorem oB {α:Type} (xs:List α) {k:Nat} (h:¬k<xs.length):xs.take k=xs:=List.take_of_length_le zO
theorem ah {α:Type} {xs:List α} {k:Nat} {x:α} (h:xs[k]?=some x):k<xs.length:=(List.getElem?_eq_some_iff.1 h).1
theorem zi {α:Type} (z:α) (xs:List α) (k:Nat) (x:α) (h:xs[k]?=some x):(xs.take k++List.replicate (xs.length-k) z).set k x=xs.take (k+1)++List.replicate (xs.length-(k+1)) z:=by
 have hk:=ah h
 have hl:(xs.take k).length=k:=by simp;omega
 rw[bJ h,show xs.length-k=(xs.length-(k+1))+1 by omega,List.replicate_succ,List.set_append_right _ _ zO,hl]
 simp
theorem bc {w w':World} (hb:Below w.heap.size w w') {a:Addr} {u:Value} (h:w.cell? a=some u):w'.cell? a=some u:=(hb.cell (World.block_lt_of_cell? w _ h)).trans h
def bs (w:World) (v:Value) (xs:List Int):Prop:=
 ∃(A:Option Addr) (c:Nat),v=.slice A xs.length c/\xs.length<=c/\c<=maxLen /\
  (∀k x,xs[k]?=some x->∃b off,A=some ⟨b,off,none⟩/\w.cell? ⟨b,off+k,none⟩=some (.int .i64 x))
theorem bs.agU {w w':World} {v:Value} {xs:List Int} (h:bs w v xs) (hb:Below w.heap.size w w'):bs w' v xs:=by
 obtain⟨A,c,hv,hc,hm,hA⟩:=h;refine⟨A,c,hv,hc,hm,fun k x hk=>?_⟩
 obtain⟨b,off,wb,dU⟩:=hA k x hk
 exact⟨b,off,wb,by rw[<- dU];exact hb.cell (p:=⟨b,off+k,none⟩) (World.block_lt_of_cell? w _ dU)⟩
theorem bs.nil (w:World):bs w (.slice none 0 0) []:=⟨none,0,rfl,Nat.le_refl _,Nat.zero_le _,fun k x hk=>by simp at hk⟩
theorem bs.own {w:World} {base:Nat} {e:TypeId} {v:Value} {n:Nat} {xs:List Int} (h:w.ownsRow base e 1 v n (xs.map (Value.int .i64))):bs w v xs:=by
 have hn:xs.length=n:=by simpa using h.1
 subst hn;rcases h.2 with⟨rfl,h0⟩ | ⟨g,cap,cur,rfl,hb,hg,JI,hm,UU,Qp⟩
 ·have:xs=[]:=List.eq_nil_of_length_eq_zero h0
  subst this;exact bs.nil w
 ·refine⟨_,cap,rfl,JI,hm,fun k x hk=>⟨g,0,rfl,?_⟩⟩
  have aA:k<xs.length:=(List.getElem?_eq_some_iff.1 hk).1;rw[Nat.zero_add,h.cellAt (cap:=cap) k zO];simp[hk]
theorem bG {a b:Bool} (h:a=b):Ending.returned (.bool a)=.returned (.bool b):=by rw[h]
theorem eT {b:Bool} (h:b=true):Ending.returned (.bool true)=.returned (.bool b):=by rw[h]
theorem aJ {b:Bool} (h:b=false):Ending.returned (.bool false)=.returned (.bool b):=by rw[h]
theorem dr1 (w:World) (n m:Nat):∃k,(w.drewN n).drewN m=w.drewN k:=⟨n+m,World.drewN_drewN w n m⟩
theorem kO {k:IntKind} {a b:Int} (h:a=b):Ending.returned (.int k a)=.returned (.int k b):=by rw[h]
theorem mp:(Tryz.prog.info? 3).map (fun i=>(i.zero,i.size,i.bytes))=some (some (.int .i64 0),1,8):=zK
def Own (w:World) (base:Nat) (v:Value) (xs:List Int):Prop:=w.ownsRow base 3 1 v xs.length (xs.map (Value.int .i64))
theorem Own.ints {w:World} {base:Nat} {v:Value} {xs:List Int} (h:Own w base v xs):bs w v xs:=bs.own h
theorem Own.mono {w:World} {base mq:Nat} {v:Value} {xs:List Int} (h:Own w base v xs) (hb:mq<=base):Own w mq v xs:=
 ⟨h.1,h.2.imp id fun ⟨g,cap,cur,h1,h2,h3⟩=>⟨g,cap,cur,h1,Nat.le_trans hb h2,h3⟩⟩
theorem Own.agU {w w':World} {base:Nat} {v:Value} {xs:List Int} (h:Own w base v xs) (hb:Below w.heap.size w w'):Own w' base v xs:=by
 refine⟨h.1,h.2.imp id fun ⟨g,cap,cur,h1,h2,h3,h4⟩=>⟨g,cap,cur,h1,h2,?_,h4⟩⟩
 rw[<- h3];exact hb.block g (Array.getElem?_eq_some_iff.1 h3).1
theorem Own.len {w:World} {base g c n:Nat} {xs:List Int} (h:Own w base (.slice (some ⟨g,0,none⟩) n c) xs):xs.length=n:=by
 rcases h.2 with⟨h',_⟩ | ⟨g',CC,cur,h',_⟩
 ·simp at h'
 ·simp only[Value.slice.injEq]at h';exact h'.2.1.symm
theorem Own.cell {w:World} {base g c n:Nat} {xs:List Int} {k:Nat} {x:Int} (h:Own w base (.slice (some ⟨g,0,none⟩) n c) xs) (hk:xs[k]?=some x):w.cell? ⟨g,k,none⟩=some (.int .i64 x):=by
 obtain rfl:=h.len
 have aA:k<xs.length:=(List.getElem?_eq_some_iff.1 hk).1
 rw[World.ownsRow.cellAt h k zO];simp[hk]
theorem Own.free {w:World} {base g c n:Nat} {xs:List Int} (k:Nat) (h:Own w base (.slice (some ⟨g,0,none⟩) n c) xs):w.frozen? ⟨g,k,none⟩=false:=by
 rcases h.2 with⟨h',_⟩ | ⟨g',CC,cur,h',_,hg,_⟩
 ·simp at h'
 ·simp only[Value.slice.injEq,Option.some.injEq,Addr.mk.injEq,and_true]at h';obtain⟨rfl,rfl,rfl⟩:=h';exact frozen_of_row w g k cur _ hg
theorem Own.set {w:World} {base g c n:Nat} {xs:List Int} {k:Nat} (x:Int) (h:Own w base (.slice (some ⟨g,0,none⟩) n c) xs):Own (w.setCell ⟨g,k,none⟩ (.int .i64 x)) base (.slice (some ⟨g,0,none⟩) n c) (xs.set k x):=by
 obtain rfl:=h.len
 have:=(World.ownsRow.stored h k (.int .i64 x)).1
 unfold Own;rw[List.length_set,List.map_set];exact this
theorem Own.blk {w:World} {base g c n:Nat} {xs:List Int} (h:Own w base (.slice (some ⟨g,0,none⟩) n c) xs):base<=g/\g<w.heap.size:=by
 rcases h.2 with⟨h',_⟩ | ⟨g',CC,cur,h',hb,hg,_⟩
 ·simp at h'
 ·simp only[Value.slice.injEq,Option.some.injEq,Addr.mk.injEq,and_true]at h';obtain⟨rfl,rfl,rfl⟩:=h';exact⟨hb,(Array.getElem?_eq_some_iff.1 hg).1⟩
theorem xq {w w':World} (h:w.grownBy w' none):Below w.heap.size w w':=⟨h.os,h.tape,h.output,h.size,fun k hk=>h.block k hk zS⟩
theorem am (w:World) (o:Obj):Below w.heap.size w (w.alloc o):=(Below.refl _ _).alloc (Nat.le_refl _) o
theorem fA (w:World) (base:Nat):Own w base (.slice none 0 0) []:=World.ownsRow_nil w base _ 1
theorem dS (w:World) (xs:List Int) (hm:xs.length<=maxLen):Own (w.alloc (.cells (xs.map (Value.int .i64)).toArray 3)) w.heap.size (.slice (some ⟨w.heap.size,0,none⟩) xs.length xs.length) xs:=by
 have:=World.ownsRow_lit (base:=w.heap.size) (e:=3) (size:=1) w (xs.map (Value.int .i64)).toArray xs.length (Nat.le_refl _) hm zS
 simpa[Own]using this
section
variable {ops : Array Oper} {rest : List Oper} {o : Oper} {a : Act} {Q : Exit → Act → World → Prop}
theorem lT (w:World) (hg:o.guard=none) (l c:Operand) (yh:o.op=Op.makeSlice 28 l c) (L C:Int) (n:Nat) (hl:a.eval l=.int .i64 L) (hc:a.eval c=.int .i64 C) (hL:L=(n:Int)) (hC:C=(n:Int)) (hn:n<=17592186044416)
  (hK:∀w',Own w' w.heap.size (.slice (some ⟨w.heap.size,0,none⟩) n n) (List.replicate n 0)->Below w.heap.size w w'->w.heap.size<w'.heap.size->wpList Tryz.prog ops Q rest (a.put o.dst (.slice (some ⟨w.heap.size,0,none⟩) n n)) w'):wpList Tryz.prog ops Q (o::rest) a w:=by
 obtain⟨i0,hi,e_,dP,dY⟩:=info_parts mp
 refine wpList_make_full w hg l c 28 yh w.heap.size 3 i0 (.int .i64 0) 1 Tryz.underlying28 hi e_ dP .i64 .i64 L C n hl hc hL hC (by rw[dY];omega) (by unfold maxLen;omega) (Nat.le_refl _) ?_
 intro w' ho yi
 have xr:Own w' w.heap.size (.slice (some ⟨w.heap.size,0,none⟩) n n) (List.replicate n 0):=by
  unfold Own;rw[List.length_replicate,List.map_replicate];rw[show(Value.int IntKind.i64 0).cells=#[Value.int .i64 0]from rfl,toList_madeCells_one]at ho
  simpa using ho
 exact hK w' xr (xq yi) (zX xr.blk)
end
open Go.ChangeShapes Go.WideShapes Go.ChangeAt Go.RowKit
open Go.ChangeShapes Go.WideShapes Go.ChangeAt Go.RowKit
theorem JJ (n lo hi:Int) (w:World):
  Calls Tryz.prog 34 #[.int .i64 n,.int .i64 lo,.int .i64 hi] w fun e w'=>e=.returned (.bool (decide (lo<=n)&&decide (n<=hi)))/\w=w':=by
 by_cases h:lo<=n
 ·go_enter Tryz.func34,Tryz.ntmps34
  go_wp2;go_ret;exact⟨by simp[h],rfl⟩
 ·have h':decide (lo<=n)=false:=by simpa using h
  go_enter Tryz.func34,Tryz.ntmps34
  go_wp2;go_ret;exact⟨zS,rfl⟩
theorem Gi (n lo hi:Int) (w:World):
  Calls Tryz.prog 52 #[.int .i64 n,.int .i64 lo,.int .i64 hi] w fun e w'=>e=.returned (.bool (decide (lo<=n)&&decide (n<=hi)))/\w=w':=by
 by_cases h:lo<=n
 ·go_enter Tryz.func52,Tryz.ntmps52
  go_wp2;go_ret;exact⟨by simp[h],rfl⟩
 ·have h':decide (lo<=n)=false:=by simpa using h
  go_enter Tryz.func52,Tryz.ntmps52
  go_wp2;go_ret;exact⟨zS,rfl⟩
def jK (lo hi x:Int):Bool:=decide (lo<=x)&&decide (x<=hi)
theorem aB {lo hi x:Int}:jK lo hi x=true↔lo<=x/\x<=hi:=by simp[jK]
theorem ie (n lo hi:Int) (w:World):
  Calls Tryz.prog 34 #[.int .i64 n,.int .i64 lo,.int .i64 hi] w fun e w'=>e=.returned (.bool (jK lo hi n))/\w=w':=JJ n lo hi w
theorem gA (n lo hi:Int) (w:World):
  Calls Tryz.prog 52 #[.int .i64 n,.int .i64 lo,.int .i64 hi] w fun e w'=>e=.returned (.bool (jK lo hi n))/\w=w':=Gi n lo hi w
theorem Vy (n lo hi:Int) (b:Bool) (h:jK lo hi n=b) (w:World):
  Calls Tryz.prog 52 #[.int .i64 n,.int .i64 lo,.int .i64 hi] w fun e w'=>e=.returned (.bool b)/\w=w':=h ▸ Gi n lo hi w
theorem Dq (v:Value) (xs:List Int) (lo hi:Int) (w:World) (h:bs w v xs):
  Calls Tryz.prog 87 #[v,.int .i64 lo,.int .i64 hi] w fun e w'=>e=.returned (.bool (xs.all (jK lo hi)))/\w=w':=by
 obtain⟨A,c,rfl,fR,hm,hA⟩:=h;unfold maxLen at hm;have HA:=zh hA;clear hA
 go_enter Tryz.func87,Tryz.ntmps87
 go_wp2
 go_loop [11] (fun i=>∃k:Nat,k<=xs.length/\i=.int .i64 k/\(xs.take k).all (jK lo hi)=true) (fun i=>xs.length-(intOf i).toNat)
 case atStart=>exact⟨0,Nat.zero_le _,rfl,rfl⟩
 case round=>
  obtain⟨k,hk,rfl,c_⟩:=hrel;have gS:=zh c_;clear c_
  by_cases aA:k<xs.length
  ·obtain⟨x,hx⟩:=au xs k aA;obtain⟨b,off,rfl,dU⟩:=HA k x hx;have Hx:=zh hx;clear hx;cases hb:jK lo hi x
   all_goals
    have Hb:=zh hb;clear hb
    go_wp2_with (go_at_call 52;refine(Vy _ _ _ _ Hb _).mono ?_;rintro e w' ⟨rfl,rfl⟩)
   ·go_ret;exact⟨bG (Qo Hx Hb).symm,rfl⟩
   ·go_round
    exact⟨k+1,zO,zM,by rw[bJ Hx.out];simp[gS.out,Hb.out]⟩
    simp[intOf];omega
  ·go_wp2;go_ret;exact⟨bG (by rw[<- gS.out,oB _ aA]),rfl⟩
theorem xt {α:Type} {xs ys:List α} {k:Nat} (hl:xs.length=ys.length) (h:xs.take k=ys.take k) (hk:¬k<xs.length):xs=ys:=by
 rw[oB xs hk,oB ys zO]at h;exact h
def afY (k n:Nat):List Int:=(List.range' k n).map Int.ofNat
theorem Own.cases {w:World} {base:Nat} {v:Value} {xs:List Int} (h:Own w base v xs):(v=.slice none 0 0/\xs=[])\/∃g c,v=.slice (some ⟨g,0,none⟩) xs.length c/\base<=g/\g<w.heap.size:=by
 rcases h.2 with⟨rfl,h0⟩ | ⟨g,cap,cur,rfl,hb,hg,JI,hm,UU,Qp⟩
 ·exact .inl ⟨rfl,List.eq_nil_of_length_eq_zero h0⟩
 ·exact .inr ⟨g,cap,rfl,hb,(Array.getElem?_eq_some_iff.1 hg).1⟩
def Qq (w0:World) (nQ:FuncId) (jX:Array Value) (p:Int->Bool) (xs:List Int):Prop:=
 ∀x∈xs,∀w,Below w0.heap.size w0 w->Calls Tryz.prog nQ (#[.int .i64 x]++jX) w fun e w'=>e=.returned (.bool (p x))/\Below w.heap.size w w'
def JK (p:Int->Bool) (xs:List Int):Int:=match xs.findIdx? p with | some i=>(i:Int) | none => -1
theorem Ng {p:Int->Bool} {xs:List Int} (h:xs.any p=false):JK p xs = -1:=by
 have:xs.findIdx? p=none:=by
  rw[List.findIdx?_eq_none_iff];intro x hx;rw[List.any_eq_false]at h;simpa using h x hx
 simp[JK,this]
theorem JL {p:Int->Bool} {xs:List Int} {k:Nat} {x:Int} (hx:xs[k]?=some x) (hp:p x=true) (h:(xs.take k).any p=false):JK p xs=k:=by
 have:xs.findIdx? p=some k:=by
  obtain⟨hk,rfl⟩:=List.getElem?_eq_some_iff.1 hx;rw[List.findIdx?_eq_some_iff_getElem];refine⟨hk,hp,fun j hj=>?_⟩
  rw[List.any_eq_false]at h
  simpa using h xs[j] (by rw[List.mem_take_iff_getElem];exact⟨j,zO,rfl⟩)
 simp[JK,this]
theorem Qr (p:Int->Bool) (xs:List Int):decide (0<=JK p xs)=xs.any p:=by
 unfold JK
 cases h:xs.findIdx? p with
 | none=>
  rw[List.findIdx?_eq_none_iff]at h;simp only[decide_eq_false_iff_not.2 (show ¬(0:Int) <= -1 by omega)]
  symm
  rw[List.any_eq_false]
  intro x hx;simp[h x hx]
 | some i=>
  rw[List.findIdx?_eq_some_iff_getElem]at h;obtain⟨hi,hp,_⟩:=h;simp only[Int.natCast_nonneg,decide_true]
  symm
  rw[List.any_eq_true];exact⟨xs[i],List.getElem_mem hi,hp⟩
theorem CD (v:Value) (xs:List Int) (nQ:FuncId) (jX:Array Value) (p:Int->Bool) (w:World) (h:bs w v xs) (i9:∀args w,(callFunc nQ args).run Tryz.prog w=.ok (.enter nQ args) w) (hp:Qq w nQ jX p xs):
  Calls Tryz.prog 179 #[v,.func (.func nQ) #[] jX] w fun e w'=>e=.returned (.int .i64 (JK p xs))/\Below w.heap.size w w':=by
 have H:=zh h;obtain⟨A,c,rfl,fR,hm,hA⟩:=h;unfold maxLen at hm;have HA:=zh hA;clear hA;have Hp:=zh hp;have eg:=i9;clear hp
 go_enter Tryz.func179,Tryz.ntmps179
 go_wp2
 go_loopw [8] (fun i wr=>∃k:Nat,k<=xs.length/\i=.int .i64 k/\(xs.take k).any p=false/\Below w.heap.size w wr) (fun i _=>xs.length-(intOf i).toNat)
 case atStart=>exact⟨0,Nat.zero_le _,rfl,rfl,Below.refl _ _⟩
 case round=>
  obtain⟨k,hk,rfl,jQ,hb⟩:=hrel;obtain⟨qV,Hb⟩:=A_ jQ hb;clear jQ hb
  by_cases aA:k<xs.length
  ·obtain⟨x,hx⟩:=au xs k aA;obtain⟨b,off,rfl,dU⟩:=HA k x hx;have Y9:=(Hb.cell (p:=⟨b,off+k,none⟩) (World.block_lt_of_cell? w _ dU)).trans dU;have Hx:=zh hx;clear hx dU;cases zj:p x
   all_goals
    have Hpx:=zh zj;clear zj;go_wp2_with fail;refine(Hp x (List.mem_of_getElem? Hx) _ Hb).mono ?_;rintro e w1 ⟨rfl,aP⟩;rw[Hpx.out];have jR:=zh (Hb.out.trans (aP.mono Hb.out.size));clear aP;go_wp2
   ·go_roundw
    exact⟨k+1,zO,zM,by rw[bJ Hx.out,List.any_append,qV.out];simp[Hpx.out],jR⟩
    simp[intOf];omega
   ·go_ret;exact⟨kO (JL Hx Hpx qV).symm,jR⟩
  ·go_wp2;go_ret
   exact⟨kO (Ng (by have:=qV.out;rwa [oB xs aA]at this)).symm,Hb.out⟩
theorem wd (v:Value) (xs:List Int) (nQ:FuncId) (jX:Array Value) (p:Int->Bool) (w:World) (h:bs w v xs) (i9:∀args w,(callFunc nQ args).run Tryz.prog w=.ok (.enter nQ args) w) (hp:Qq w nQ jX p xs):
  Calls Tryz.prog 137 #[v,.func (.func nQ) #[] jX] w fun e w'=>e=.returned (.bool (xs.any p))/\Below w.heap.size w w':=by
 have hb:=CD v xs nQ jX p w h i9 hp;obtain⟨hr,Hb⟩:=A_ (Qr p xs) hb;clear hb h i9 hp
 go_enter Tryz.func137,Tryz.ntmps137
 go_wp2_with fail;refine Hb.mono ?_;rintro e w1 ⟨rfl,aP⟩;have jR:=zh aP;clear aP;go_wp2;go_ret;exact⟨bG hr,jR⟩
theorem zk (x lo hi:Int) (a b:Addr) (w:World) (ha:w.cell? a=some (.int .i64 lo)) (hb:w.cell? b=some (.int .i64 hi)):
  Calls Tryz.prog 138 #[.int .i64 x,.pointer (some a),.pointer (some b)] w fun e w'=>e=.returned (.bool (!jK lo hi x))/\w=w':=by
 go_enter Tryz.func138,Tryz.ntmps138
 go_wp2_with (go_at_call 34;refine(ie _ _ _ _).mono ?_;rintro e w' ⟨rfl,rfl⟩)
 go_ret;exact⟨rfl,rfl⟩
theorem uB:∀args w,(callFunc 138 args).run Tryz.prog w=.ok (.enter 138 args) w:=enters_of Tryz.func138 zK rfl
theorem tf (v:Value) (xs:List Int) (lo hi:Int) (w:World) (h:bs w v xs):
  Calls Tryz.prog 83 #[v,.int .i64 lo,.int .i64 hi] w fun e w'=>e=.returned (.bool (xs.all (jK lo hi)))/\Below w.heap.size w w':=by
 have H:=zh h;clear h
 have hr:(!xs.any fun x => !jK lo hi x)=xs.all (jK lo hi):=by rw[List.not_any_eq_all_not];simp
 have Hr:=zh hr;clear hr
 go_enter Tryz.func83,Tryz.ntmps83
 go_wp2_with fail;have hb:Below w.heap.size w ((w.alloc (Obj.cells #[Value.int IntKind.i64 lo] 3)).alloc (Obj.cells #[Value.int IntKind.i64 hi] 3)):=((Below.refl _ _).alloc (Nat.le_refl _) _).alloc zS _;refine(wd _ xs _ _ (fun x => !jK lo hi x) _ (H.agU hb) uB ?_).mono ?_
 ·intro x _ w2 ip
  exact(zk x lo hi _ _ w2 ((ip.cell (by simp;try omega)).trans zS) ((ip.cell (by simp;try omega)).trans zS)).mono fun _ _ ⟨he,hw⟩=>⟨he,hw ▸ Below.refl _ _⟩
 ·rintro e w1 ⟨rfl,aP⟩
  have jR:=zh (hb.trans (aP.mono (by simp;omega)))
  clear hb aP;go_wp2;go_ret;exact⟨bG Hr,jR⟩
end Go.Proofs.YtnioemnkfojmkaaGreat
/-
 DERIVED: THE SHELF's CONTRACTS AT THIS DUMP,IN PLAIN WORDS (tools/lay-plain.mjs out of 'TryzShelf.lean',which tools/lay-shelf.mjs wrote): THE SAME DECLARATIONS UNDER THE SAME NAMES: 'import','namespace','open','def','theorem' AND NOTHING ELSE: no command of the shelf's: FOR A HAND-IN. Each laying: the table of numbers ('.._ren') and one theorem,a field a fact of the dump's own or the kernel's comparison;each contract: ONE APPLICATION.
-/
namespace Go.Proofs
open Go.Shelf
def Tryz.lays128_ren:Go.Shelf.Ren:=⟨fun | 128=>204 | n=>n,fun | 51=>169 | 3=>3 | 4=>4 | 46=>60 | 5=>5 | 9=>9 | n=>n,fun | n=>n⟩
theorem Tryz.lays128:Go.Proofs.Lays.n128 Tryz.prog Tryz.lays128_ren:={
 mixed:=by kernel_rfl
 f128:=Tryz.func204.trans (congrArg some (by kernel_rfl))
 t3:=Tryz.underlying3
 a3:=Tryz.isAgg3
 z3:=Tryz.sizeOf3
 v3:=Tryz.zeroValue3
 t4:=Tryz.underlying4
 a4:=Tryz.isAgg4
 z4:=Tryz.sizeOf4
 v4:=Tryz.zeroValue4
 t5:=Tryz.underlying5
 a5:=Tryz.isAgg5
 z5:=Tryz.sizeOf5
 v5:=Tryz.zeroValue5
 t9:=Tryz.underlying9
 a9:=Tryz.isAgg9
 z9:=Tryz.sizeOf9
 v9:=Tryz.zeroValue9
 t46:=Tryz.underlying60
 a46:=Tryz.isAgg60
 z46:=Tryz.sizeOf60
 v46:=Tryz.zeroValue60
 t51:=Tryz.underlying169
 a51:=Tryz.isAgg169
 z51:=Tryz.sizeOf169
 v51:=Tryz.zeroValue169 }
theorem Tryz.bits_Len32 (x:Int) (w:World) (h0:0<=x) (h1:x<=4294967295):
  Calls Tryz.prog 204 #[.int .u32 x] w fun e w'=>e=.returned (.int .i64 (Lib.bitLen x.toNat))/\w'=w:=Any.bits_Len32 Tryz.lays128 x w h0 h1
def Tryz.lays125_ren:Go.Shelf.Ren:=⟨fun | 125=>178 | 128=>204 | 129=>205 | n=>n,fun | 46=>60 | 3=>3 | 51=>169 | 53=>62 | 4=>4 | 5=>5 | 9=>9 | n=>n,fun | n=>n⟩
theorem Tryz.lays125:Go.Proofs.Lays.n125 Tryz.prog Tryz.lays125_ren:={
 mixed:=by kernel_rfl
 f125:=Tryz.func178.trans (congrArg some (by kernel_rfl))
 f128:=Tryz.func204.trans (congrArg some (by kernel_rfl))
 f129:=Tryz.func205.trans (congrArg some (by kernel_rfl))
 t3:=Tryz.underlying3
 a3:=Tryz.isAgg3
 z3:=Tryz.sizeOf3
 v3:=Tryz.zeroValue3
 t4:=Tryz.underlying4
 a4:=Tryz.isAgg4
 z4:=Tryz.sizeOf4
 v4:=Tryz.zeroValue4
 t5:=Tryz.underlying5
 a5:=Tryz.isAgg5
 z5:=Tryz.sizeOf5
 v5:=Tryz.zeroValue5
 t9:=Tryz.underlying9
 a9:=Tryz.isAgg9
 z9:=Tryz.sizeOf9
 v9:=Tryz.zeroValue9
 t46:=Tryz.underlying60
 a46:=Tryz.isAgg60
 z46:=Tryz.sizeOf60
 v46:=Tryz.zeroValue60
 t51:=Tryz.underlying169
 a51:=Tryz.isAgg169
 z51:=Tryz.sizeOf169
 v51:=Tryz.zeroValue169
 t53:=Tryz.underlying62
 a53:=Tryz.isAgg62
 z53:=Tryz.sizeOf62
 v53:=Tryz.zeroValue62 }
theorem Tryz.bits_Len (x:Int) (w:World) (h0:0<=x) (h1:x<=18446744073709551615):
  Calls Tryz.prog 178 #[.int .u64 x] w fun e w'=>e=.returned (.int .i64 (Lib.bitLen x.toNat))/\w'=w:=Any.bits_Len Tryz.lays125 x w h0 h1
def Tryz.lays215_ren:Go.Shelf.Ren:=⟨fun | 215=>195 | n=>n,fun | 3=>3 | 4=>4 | n=>n,fun | n=>n⟩
theorem Tryz.lays215:Go.Proofs.Lays.n215 Tryz.prog Tryz.lays215_ren:={
 mixed:=by kernel_rfl
 f215:=Tryz.func195.trans (congrArg some (by kernel_rfl))
 t3:=Tryz.underlying3
 a3:=Tryz.isAgg3
 z3:=Tryz.sizeOf3
 v3:=Tryz.zeroValue3
 t4:=Tryz.underlying4
 a4:=Tryz.isAgg4
 z4:=Tryz.sizeOf4
 v4:=Tryz.zeroValue4 }
open Go.RowKit in
theorem Tryz.cmp_isNaN_int (x:Int) (w:World):
  Calls Tryz.prog 195 #[.int .i64 x] w fun e w'=>e=.returned (.bool false)/\w'=w:=Any.cmp_isNaN_int Tryz.lays215 x w
def Tryz.lays122_ren:Go.Shelf.Ren:=⟨fun | 122=>176 | 215=>195 | n=>n,fun | 3=>3 | 4=>4 | n=>n,fun | n=>n⟩
theorem Tryz.lays122:Go.Proofs.Lays.n122 Tryz.prog Tryz.lays122_ren:={
 mixed:=by kernel_rfl
 f122:=Tryz.func176.trans (congrArg some (by kernel_rfl))
 f215:=Tryz.func195.trans (congrArg some (by kernel_rfl))
 t3:=Tryz.underlying3
 a3:=Tryz.isAgg3
 z3:=Tryz.sizeOf3
 v3:=Tryz.zeroValue3
 t4:=Tryz.underlying4
 a4:=Tryz.isAgg4
 z4:=Tryz.sizeOf4
 v4:=Tryz.zeroValue4 }
open Go.RowKit in
theorem Tryz.cmp_Compare_int (x y:Int) (w:World):
  Calls Tryz.prog 176 #[.int .i64 x,.int .i64 y] w fun e w'=>e=.returned (.int .i64 (Lib.compareInt x y))/\w'=w:=Any.cmp_Compare_int Tryz.lays122 x y w
def Tryz.lays129_ren:Go.Shelf.Ren:=⟨fun | 129=>205 | n=>n,fun | 53=>62 | 3=>3 | 4=>4 | 46=>60 | 5=>5 | 9=>9 | n=>n,fun | n=>n⟩
theorem Tryz.lays129:Go.Proofs.Lays.n129 Tryz.prog Tryz.lays129_ren:={
 mixed:=by kernel_rfl
 f129:=Tryz.func205.trans (congrArg some (by kernel_rfl))
 t3:=Tryz.underlying3
 a3:=Tryz.isAgg3
 z3:=Tryz.sizeOf3
 v3:=Tryz.zeroValue3
 t4:=Tryz.underlying4
 a4:=Tryz.isAgg4
 z4:=Tryz.sizeOf4
 v4:=Tryz.zeroValue4
 t5:=Tryz.underlying5
 a5:=Tryz.isAgg5
 z5:=Tryz.sizeOf5
 v5:=Tryz.zeroValue5
 t9:=Tryz.underlying9
 a9:=Tryz.isAgg9
 z9:=Tryz.sizeOf9
 v9:=Tryz.zeroValue9
 t46:=Tryz.underlying60
 a46:=Tryz.isAgg60
 z46:=Tryz.sizeOf60
 v46:=Tryz.zeroValue60
 t53:=Tryz.underlying62
 a53:=Tryz.isAgg62
 z53:=Tryz.sizeOf62
 v53:=Tryz.zeroValue62 }
theorem Tryz.bits_Len64 (x:Int) (w:World) (h0:0<=x) (h1:x<=18446744073709551615):
  Calls Tryz.prog 205 #[.int .u64 x] w fun e w'=>e=.returned (.int .i64 (Lib.bitLen x.toNat))/\w'=w:=Any.bits_Len64 Tryz.lays129 x w h0 h1
def Tryz.lays189_ren:Go.Shelf.Ren:=⟨fun | 189=>134 | 125=>178 | 257=>177 | 128=>204 | 129=>205 | 294=>196 | 295=>197 | 296=>198 | 297=>199 | 298=>200 | 299=>201 | 216=>175 | 300=>202 | 301=>203 | 328=>211 | 329=>212 | 330=>213 | 331=>214 | 332=>215 | 215=>195 | 343=>217 | n=>n,fun | 28=>28 | 3=>3 | 46=>60 | 0=>0 | 51=>169 | 53=>62 | 4=>4 | 183=>180 | 182=>179 | 131=>40 | 5=>5 | 9=>9 | 218=>191 | 222=>109 | 228=>197 | 229=>47 | n=>n,fun | n=>n⟩
theorem Tryz.lays189:Go.Proofs.Lays.n189 Tryz.prog Tryz.lays189_ren:={
 mixed:=by kernel_rfl
 f125:=Tryz.func178.trans (congrArg some (by kernel_rfl))
 f128:=Tryz.func204.trans (congrArg some (by kernel_rfl))
 f129:=Tryz.func205.trans (congrArg some (by kernel_rfl))
 f189:=Tryz.func134.trans (congrArg some (by kernel_rfl))
 f215:=Tryz.func195.trans (congrArg some (by kernel_rfl))
 f216:=Tryz.func175.trans (congrArg some (by kernel_rfl))
 f257:=Tryz.func177.trans (congrArg some (by kernel_rfl))
 f294:=Tryz.func196.trans (congrArg some (by kernel_rfl))
 f295:=Tryz.func197.trans (congrArg some (by kernel_rfl))
 f296:=Tryz.func198.trans (congrArg some (by kernel_rfl))
 f297:=Tryz.func199.trans (congrArg some (by kernel_rfl))
 f298:=Tryz.func200.trans (congrArg some (by kernel_rfl))
 f299:=Tryz.func201.trans (congrArg some (by kernel_rfl))
 f300:=Tryz.func202.trans (congrArg some (by kernel_rfl))
 f301:=Tryz.func203.trans (congrArg some (by kernel_rfl))
 f328:=Tryz.func211.trans (congrArg some (by kernel_rfl))
 f329:=Tryz.func212.trans (congrArg some (by kernel_rfl))
 f330:=Tryz.func213.trans (congrArg some (by kernel_rfl))
 f331:=Tryz.func214.trans (congrArg some (by kernel_rfl))
 f332:=Tryz.func215.trans (congrArg some (by kernel_rfl))
 f343:=Tryz.func217.trans (congrArg some (by kernel_rfl))
 t0:=Tryz.underlying0
 a0:=Tryz.isAgg0
 z0:=Tryz.sizeOf0
 v0:=Tryz.zeroValue0
 t3:=Tryz.underlying3
 a3:=Tryz.isAgg3
 z3:=Tryz.sizeOf3
 v3:=Tryz.zeroValue3
 t4:=Tryz.underlying4
 a4:=Tryz.isAgg4
 z4:=Tryz.sizeOf4
 v4:=Tryz.zeroValue4
 t5:=Tryz.underlying5
 a5:=Tryz.isAgg5
 z5:=Tryz.sizeOf5
 v5:=Tryz.zeroValue5
 t9:=Tryz.underlying9
 a9:=Tryz.isAgg9
 z9:=Tryz.sizeOf9
 v9:=Tryz.zeroValue9
 t28:=Tryz.underlying28
 a28:=Tryz.isAgg28
 z28:=Tryz.sizeOf28
 v28:=Tryz.zeroValue28
 t46:=Tryz.underlying60
 a46:=Tryz.isAgg60
 z46:=Tryz.sizeOf60
 v46:=Tryz.zeroValue60
 t51:=Tryz.underlying169
 a51:=Tryz.isAgg169
 z51:=Tryz.sizeOf169
 v51:=Tryz.zeroValue169
 t53:=Tryz.underlying62
 a53:=Tryz.isAgg62
 z53:=Tryz.sizeOf62
 v53:=Tryz.zeroValue62
 t131:=Tryz.underlying40
 a131:=Tryz.isAgg40
 z131:=Tryz.sizeOf40
 v131:=Tryz.zeroValue40
 t182:=Tryz.underlying179
 a182:=Tryz.isAgg179
 z182:=Tryz.sizeOf179
 v182:=Tryz.zeroValue179
 t183:=Tryz.underlying180
 a183:=Tryz.isAgg180
 z183:=Tryz.sizeOf180
 v183:=Tryz.zeroValue180
 t218:=Tryz.underlying191
 a218:=Tryz.isAgg191
 z218:=Tryz.sizeOf191
 v218:=Tryz.zeroValue191
 t222:=Tryz.underlying109
 a222:=Tryz.isAgg109
 z222:=Tryz.sizeOf109
 v222:=Tryz.zeroValue109
 t228:=Tryz.underlying197
 a228:=Tryz.isAgg197
 z228:=Tryz.sizeOf197
 v228:=Tryz.zeroValue197
 t229:=Tryz.underlying47
 a229:=Tryz.isAgg47
 z229:=Tryz.sizeOf47
 v229:=Tryz.zeroValue47 }
open Go.Sort Go.RowKit in
theorem Tryz.slices_Sort_int (blk off cap:Nat) (zs:List Int) (w:World) (hH:Holds (Value.int .i64) w blk off zs.toArray) (JM:blk<w.heap.size) (fD:zs.length<4611686018427387904):
  Calls Tryz.prog 134 #[.slice (some ⟨blk,off,none⟩) zs.length cap] w fun e w'=>
   e=.returned (.tuple #[])/\∃n os,w'=grow (putRow (Value.int .i64) (Sort.ahead w n) blk off (zs.mergeSort fun x y=>decide (x<=y)).toArray) os:=Any.slices_Sort_int Tryz.lays189 blk off cap zs w hH JM fD
def Tryz.lays264_ren:Go.Shelf.Ren:=⟨fun | 264=>186 | n=>n,fun | 53=>62 | 46=>60 | n=>n,fun | n=>n⟩
theorem Tryz.lays264:Go.Proofs.Lays.n264 Tryz.prog Tryz.lays264_ren:={
 mixed:=by kernel_rfl
 f264:=Tryz.func186.trans (congrArg some (by kernel_rfl))
 t46:=Tryz.underlying60
 a46:=Tryz.isAgg60
 z46:=Tryz.sizeOf60
 v46:=Tryz.zeroValue60
 t53:=Tryz.underlying62
 a53:=Tryz.isAgg62
 z53:=Tryz.sizeOf62
 v53:=Tryz.zeroValue62 }
open Go.RowKit Go.Lib in
theorem Tryz.bits_Mul64 (x y:Nat) (hx:x<18446744073709551616) (hy:y<18446744073709551616) (w:World):
  Calls Tryz.prog 186 #[.int .u64 x,.int .u64 y] w fun e w'=>e=.returned (.tuple #[.int .u64 ((x*y/18446744073709551616:Nat):Int),.int .u64 ((x*y%18446744073709551616:Nat):Int)])/\w'=w:=Any.bits_Mul64 Tryz.lays264 x y hx hy w
def Tryz.lays212_ren:Go.Shelf.Ren:=⟨fun | 212=>147 | 263=>185 | 264=>186 | n=>n,fun | 46=>60 | 51=>169 | 146=>170 | 53=>62 | 148=>172 | n=>n,fun | n=>n⟩
theorem Tryz.lays212:Go.Proofs.Lays.n212 Tryz.prog Tryz.lays212_ren:={
 mixed:=by kernel_rfl
 f212:=Tryz.func147.trans (congrArg some (by kernel_rfl))
 f263:=Tryz.func185.trans (congrArg some (by kernel_rfl))
 f264:=Tryz.func186.trans (congrArg some (by kernel_rfl))
 t46:=Tryz.underlying60
 a46:=Tryz.isAgg60
 z46:=Tryz.sizeOf60
 v46:=Tryz.zeroValue60
 t51:=Tryz.underlying169
 a51:=Tryz.isAgg169
 z51:=Tryz.sizeOf169
 v51:=Tryz.zeroValue169
 t53:=Tryz.underlying62
 a53:=Tryz.isAgg62
 z53:=Tryz.sizeOf62
 v53:=Tryz.zeroValue62
 t146:=Tryz.underlying170
 a146:=Tryz.isAgg170
 z146:=Tryz.sizeOf170
 v146:=Tryz.zeroValue170
 t148:=Tryz.underlying172
 a148:=Tryz.isAgg172
 z148:=Tryz.sizeOf172
 v148:=Tryz.zeroValue172 }
open Go.RowKit Go.Lib in
theorem Tryz.bits_Mul (x y:Nat) (hx:x<18446744073709551616) (hy:y<18446744073709551616) (w:World):
  Calls Tryz.prog 147 #[.int .u64 x,.int .u64 y] w fun e w'=>e=.returned (.tuple #[.int .u64 ((x*y/18446744073709551616:Nat):Int),.int .u64 ((x*y%18446744073709551616:Nat):Int)])/\w'=w:=Any.bits_Mul Tryz.lays212 x y hx hy w
def Tryz.laysNm215_ren:Go.Shelf.Ren:=⟨fun | 15=>98 | n=>n,fun | 22=>28 | 3=>3 | 4=>4 | n=>n,fun | n=>n⟩
theorem Tryz.laysNm215:Go.Proofs.Lays2.n15 Tryz.prog Tryz.laysNm215_ren:={
 mixed:=by kernel_rfl
 f15:=Tryz.func98.trans (congrArg some (by kernel_rfl))
 t3:=Tryz.underlying3
 a3:=Tryz.isAgg3
 z3:=Tryz.sizeOf3
 v3:=Tryz.zeroValue3
 t4:=Tryz.underlying4
 a4:=Tryz.isAgg4
 z4:=Tryz.sizeOf4
 v4:=Tryz.zeroValue4
 t22:=Tryz.underlying28
 a22:=Tryz.isAgg28
 z22:=Tryz.sizeOf28
 v22:=Tryz.zeroValue28
 i3:=by kernel_rfl }
open Go.RowKit Go.Lib in
theorem Tryz.slices_Clone_int (b off n c:Nat) (zs:List Int) (w:World) (hz:n<=zs.length) (abw:n*8<=140737488355328) (hc:∀j,j<zs.length->w.cell? ⟨b,off+j,none⟩=some (.int .i64 (zs.getD j 0))):
  Calls Tryz.prog 98 #[.slice (some ⟨b,off,none⟩) n c] w fun e w'=>∃v',e=.returned v'/\w'.ownsRow w.heap.size 3 1 v' n ((zs.take n).map (Value.int .i64))/\v' ≠ .slice none 0 0/\Below w.heap.size w w':=Any.slices_Clone_int Tryz.laysNm215 b off n c zs w hz abw hc
open Go.RowKit Go.Lib in
theorem Tryz.slices_Clone_int_nil (n c:Nat) (w:World):
  Calls Tryz.prog 98 #[.slice none n c] w fun e w'=>e=.returned (.slice none 0 0)/\w'=w:=Any.slices_Clone_int_nil Tryz.laysNm215 n c w
open Go.RowKit Go.Lib in
theorem Tryz.slices_Clone_int_zero (a:Addr) (c:Nat) (w:World):
  Calls Tryz.prog 98 #[.slice (some a) 0 c] w fun e w'=>∃v',e=.returned v'/\w'.ownsRow w.heap.size 3 1 v' 0 []/\v' ≠ .slice none 0 0/\Below w.heap.size w w':=Any.slices_Clone_int_zero Tryz.laysNm215 a c w
def Tryz.laysNm237_ren:Go.Shelf.Ren:=⟨fun | 37=>195 | n=>n,fun | 3=>3 | 4=>4 | n=>n,fun | n=>n⟩
theorem Tryz.laysNm237:Go.Proofs.Lays2.n37 Tryz.prog Tryz.laysNm237_ren:={
 mixed:=by kernel_rfl
 f37:=Tryz.func195.trans (congrArg some (by kernel_rfl))
 t3:=Tryz.underlying3
 a3:=Tryz.isAgg3
 z3:=Tryz.sizeOf3
 v3:=Tryz.zeroValue3
 t4:=Tryz.underlying4
 a4:=Tryz.isAgg4
 z4:=Tryz.sizeOf4
 v4:=Tryz.zeroValue4 }
open Go.RowKit Go.Lib in
theorem Tryz.cmp_isNaN_int2 (x:Int) (w:World):
  Calls Tryz.prog 195 #[.int .i64 x] w fun e w'=>e=.returned (.bool false)/\w'=w:=Any.cmp_isNaN_int2 Tryz.laysNm237 x w
def Tryz.laysNm231_ren:Go.Shelf.Ren:=⟨fun | 31=>175 | 37=>195 | n=>n,fun | 3=>3 | 4=>4 | n=>n,fun | n=>n⟩
theorem Tryz.laysNm231:Go.Proofs.Lays2.n31 Tryz.prog Tryz.laysNm231_ren:={
 mixed:=by kernel_rfl
 f31:=Tryz.func175.trans (congrArg some (by kernel_rfl))
 f37:=Tryz.func195.trans (congrArg some (by kernel_rfl))
 t3:=Tryz.underlying3
 a3:=Tryz.isAgg3
 z3:=Tryz.sizeOf3
 v3:=Tryz.zeroValue3
 t4:=Tryz.underlying4
 a4:=Tryz.isAgg4
 z4:=Tryz.sizeOf4
 v4:=Tryz.zeroValue4 }
open Go.RowKit Go.Lib in
theorem Tryz.cmp_Less_int2 (x y:Int) (w:World):
  Calls Tryz.prog 175 #[.int .i64 x,.int .i64 y] w fun e w'=>e=.returned (.bool (decide (x<y)))/\w'=w:=Any.cmp_Less_int2 Tryz.laysNm231 x y w
open Go.RowKit Go.Sort in
theorem Tryz.slices_Sort_int_none (p:Option Addr) (cap:Nat) (w:World):
  Calls Tryz.prog 134 #[.slice p 0 cap] w fun e w'=>e=.returned (.tuple #[])/\w'=w:=Any.slices_Sort_int_none Tryz.lays189 p cap w
end Go.Proofs
namespace Go.Proofs.YtnioemnkfojmkaaGreat
open Go Go.RowKit
open Go.RowKit Go.Sort
theorem Vz {w:World} {base g c n:Nat} {xs ys:List Int} (h:Own w base (.slice (some ⟨g,0,none⟩) n c) xs) (hl:ys.length=xs.length) (q:Nat) (os:Array Obj):
  Own (grow (putRow (Value.int .i64) (Sort.ahead w q) g 0 ys.toArray) os) base (.slice (some ⟨g,0,none⟩) n c) ys/\w.grownBy (grow (putRow (Value.int .i64) (Sort.ahead w q) g 0 ys.toArray) os) (some g):=by
 obtain rfl:=h.len
 have JM:=h.blk;rcases h.2 with⟨h',_⟩ | ⟨g',CC,cur,h',hb,hg,JI,hm,UU,Qp⟩
 ·simp at h'
 ·simp only[Value.slice.injEq,Option.some.injEq,Addr.mk.injEq,and_true,true_and]at h';obtain⟨rfl,rfl⟩:=h'
  have Dr:(grow (putRow (Value.int .i64) (Sort.ahead w q) g 0 ys.toArray) os).heap[g]?=some (.cells (putCells (Value.int .i64) 0 ys.toArray cur) 3 (0,0)):=by
   show((w.heap.modify g (onCells (putCells (Value.int .i64) 0 ys.toArray)))++os)[g]?=_
   rw[Array.getElem?_append_left (by rw[Array.size_modify];exact JM.2),Array.getElem?_modify,if_pos rfl,hg]
   rfl
  refine⟨⟨zS,.inr ⟨g,c,putCells (Value.int .i64) 0 ys.toArray cur,by rw[hl],hb,Dr,zO,hm,by simpa[putCells]using UU,?_⟩⟩,⟨rfl,rfl,rfl,?_,?_⟩⟩
  ·apply List.ext_getElem?
   intro j;rw[List.getElem?_take,List.getElem?_map]
   by_cases hj:j<ys.length
   ·rw[if_pos zO,Array.getElem?_toList];have CE:j<cur.size:=zO
    simp[putCells,hj,CE]
   ·rw[if_neg zO];simp[hj]
  ·show w.heap.size<=((w.heap.modify g _)++os).size
   rw[Array.size_append,Array.size_modify];omega
  ·intro k hk jh;show((w.heap.modify g _)++os)[k]?=_
   rw[Array.getElem?_append_left (by rw[Array.size_modify];exact hk),Array.getElem?_modify,if_neg (fun e=>jh (by rw[e]))]
theorem Nh {w:World} {base g c n:Nat} {xs:List Int} (h:Own w base (.slice (some ⟨g,0,none⟩) n c) xs):Holds (Value.int .i64) w g 0 xs.toArray:=by
 intro j hj;have oC:j<xs.length:=by simpa using hj
 rw[Nat.zero_add];refine⟨?_,h.free j⟩
 have:xs[j]?=some (xs.toArray[j]!):=by simp[oC]
 exact h.cell this
theorem zl (v:Value) (xs:List Int) (w:World) (base:Nat) (h:Own w base v xs) (hl:xs.length<=17592186044416):
  Calls Tryz.prog 134 #[v] w fun e w'=>e=.returned (.tuple #[])/\Own w' base v (xs.mergeSort fun x y=>decide (x<=y))/\w.grownBy w' v.ownBlock:=by
 rcases h.cases with⟨rfl,rfl⟩ | ⟨g,c,rfl,aP,aS⟩
 ·exact(Tryz.slices_Sort_int_none none 0 w).mono fun e w' ⟨he,hw⟩=>⟨he,by rw[List.mergeSort_nil];exact hw ▸ h,hw ▸ World.grownBy.refl _ _⟩
 ·refine(Tryz.slices_Sort_int g 0 c xs w (Nh h) aS zO).mono fun e w' ⟨he,q,os,hw⟩=>⟨he,?_⟩
  subst hw;exact Vz h (by simp[List.length_mergeSort]) q os
theorem Ds (v:Value) (xs:List Int) (w:World) (h:bs w v xs) (hl:xs.length<=17592186044416):
  Calls Tryz.prog 98 #[v] w fun e w'=>∃u,e=.returned u/\Own w' w.heap.size u xs/\Below w.heap.size w w':=by
 obtain⟨A,c,rfl,fR,hm,hA⟩:=h;rcases Nat.eq_zero_or_pos xs.length with h0 | h0
 ·obtain rfl:xs=[]:=List.eq_nil_of_length_eq_zero h0
  cases A with
  | none=>exact(Tryz.slices_Clone_int_nil 0 c w).mono fun e w' ⟨he,hw⟩=>⟨_,he,World.ownsRow_nil _ _ _ _,hw ▸ Below.refl _ _⟩
  | some a=>exact(Tryz.slices_Clone_int_zero a c w).mono fun e w' ⟨u,he,ho,_,hb⟩=>⟨u,he,ho,hb⟩
 ·obtain⟨x,hx⟩:=au xs 0 h0;obtain⟨b,off,rfl,h1⟩:=hA 0 x hx;refine(Tryz.slices_Clone_int b off xs.length c xs w (Nat.le_refl _) zO ?_).mono fun e w' ⟨u,he,ho,_,hb⟩=>⟨u,he,?_,hb⟩
  ·intro j hj;obtain⟨y,hy⟩:=au xs j hj;obtain⟨b',nf,he,hc⟩:=hA j y hy
   injection he with he
   injection he with e1 e2
   subst e1 e2
   rw[hc];simp[hy]
  ·rw[List.take_length]at ho;exact ho
open Go.RowKit Go.Shelf
attribute [local go_sem] Oper.semAt_some
def gx (lo hi:Nat) (W W':World):Prop:=W.heap.size<=W'.heap.size/\∀k,lo<=k->k<hi->W'.heap[k]?=W.heap[k]?
theorem gx.t {lo hi:Nat} {A B C:World} (h:gx lo hi A B) (k:gx lo hi B C):gx lo hi A C:=⟨Nat.le_trans h.1 k.1,fun i h1 h2=>(k.2 i h1 h2).trans (h.2 i h1 h2)⟩
theorem gx.refl (lo hi:Nat) (W:World):gx lo hi W W:=⟨Nat.le_refl _,fun _ _ _=>rfl⟩
theorem gx.b {lo hi:Nat} {w:World} (hh:hi<=w.heap.size) (W:World) (l:Nat) (o o':Obj) (hl:w.heap.size<=l) (_:W.heap[l]?=some o) (_:o.isCells=false) (_:o.isWalk=false):gx lo hi W (W.putObj l o'):=
 ⟨(grownBy_putObj' W l o').size,fun k _ hk=>by
  rcases Nat.lt_or_ge k W.heap.size with h | h
  ·exact(grownBy_putObj' W l o').block k h (fun e=>by cases e;omega)
  ·exact World.putObj_heap_other (fun e=>zO)⟩
theorem gx.cell {lo hi:Nat} {W W':World} (h:gx lo hi W W') {a:Addr} {u:Value} (h1:lo<=a.block) (h2:a.block<hi) (hc:W.cell? a=some u):W'.cell? a=some u:=
 (World.cell?_of_block (h.2 a.block h1 h2)).trans hc
abbrev Rng:={ x:Nat×Int // 1<=x.2/\x.2<=100 }
open Go.RowKit Go.Shelf
attribute [local go_sem] Oper.semAt_some
def agY (pre:List Rng):List Int:=pre.map fun x=>x.1.2
theorem JN {W:World} {base:Nat} {v:Value} {xs:List Int} (h:Own W base v xs) {D:Nat} {o:Obj} (o':Obj) (hD:W.heap[D]?=some o) (ho:o.isCells=false):Own (W.putObj D o') base v xs:=ownsRow_putObj h o' hD ho
theorem adP {w:World} {base:Nat} {v:Value} {xs:List Int} (h:Own w base v xs) (x:Int) (ty:TypeId) (b:Nat) (hc:w.cell? ⟨b,0,none⟩=some (.int .i64 x)) (hl:xs.length+1<=17592186044416) (hb:base<=w.heap.size):
  ∃g c w',(Builtin.append_ #[28,28] ty #[v,.slice (some ⟨b,0,none⟩) 1 1]).run Tryz.prog w=.ok (.slice (some ⟨g,0,none⟩) (xs.length+1) c) w'/\Own w' base (.slice (some ⟨g,0,none⟩) (xs.length+1) c) (xs++[x])/\w.grownBy w' v.ownBlock/\(some g=v.ownBlock\/g=w.heap.size):=by
 obtain⟨i0,hi,e_,dP,dY⟩:=info_parts mp
 obtain⟨v',w',ig,h2,h3,_,h5⟩:=run_append_own_at (P:=Tryz.prog) w base 28 ty 3 i0 (.int .i64 0) 1 8 Tryz.underlying28 hi e_ dP dY rfl (by decide) v xs.length (xs.map (Value.int .i64)) h ⟨b,0,none⟩ 1 1 [.int .i64 x] rfl
  (by intro j u hj;match j,hj with | 0,hj=>(simp at hj;subst hj;simpa[Addr.add]using hc) | j+1,hj=>simp at hj) (by simp[Value.oneCell']) (by unfold maxLen;omega) zO hb
 obtain⟨g,c,rfl⟩:=ownsRow_succ h2;refine⟨g,c,w',ig,?_,h3,?_⟩
 ·unfold Own;simpa using h2
 ·rcases h5 with h5 | h5
  ·exact .inl (by simpa[Value.ownBlock]using h5)
  ·exact .inr (by simpa[Value.ownBlock]using h5)
def zm (P:Program) (ty:TypeId) (v s:Value) (w:World):Result Next:=((Builtin.append_ #[28,28] ty #[v,s]).run P w).andThen fun v' w'=>.ok (.value v') w'
theorem JO {F:Fence} {nF:Nat} {Y:Nat->Option Bool} {o:Oper} {a:Act} {w:World} {K:Act->World->Prop} {Q:Exit->Act->World->Prop} {E:Prop} (s x:Operand)
  (gT:o.guard=none) (ho:o.op=.call { callee:=.builtin .append,args:=#[s,x],argTypes:=#[28,28] }) (v':Value) (w':World)
  (hr:zm Tryz.prog o.type (a.eval s) (a.eval x) w=.ok (.value v') w') (h:K (a.put o.dst v') w'):
  if Region.wanted o Y=true then Oper.wpIn F nF Tryz.prog o a w K Q else E:=by
 rw[if_pos (by simp[Region.wanted,gT])]
 unfold Oper.wpIn;refine⟨by simp[Oper.about,ho,resolve,Target.leads,Sem.run_pure],?_⟩
 rw[Oper.semAt_plain F _ _ (by rw[ho];intro c UV;cases UV)]
 unfold zm at hr;simp only[execOp,ho,resolve,invoke,builtin,Sem.run_bind,Sem.run_pure,Result.andThen_ok,List.map_toArray,List.map_cons,List.map_nil]
 generalize (Builtin.append_ #[28,28] o.type #[a.eval s,a.eval x]).run Tryz.prog w=R at hr ⊢
 cases R with
 | ok v1 w1=>simp[Result.andThen]at hr;obtain⟨rfl,rfl⟩:=hr;exact h
 | halt h1 w1=>simp[Result.andThen]at hr
theorem EA {F:Fence} {nF:Nat} {ops:Array Oper} {rest:List Oper} {o:Oper} {a:Act} {w:World} {Q:Exit->Act->World->Prop} (s x:Operand)
  (gT:o.guard=none) (ho:o.op=.call { callee:=.builtin .append,args:=#[s,x],argTypes:=#[28,28] }) (v':Value) (w':World)
  (hr:zm Tryz.prog o.type (a.eval s) (a.eval x) w=.ok (.value v') w') (h:wpListIn F nF Tryz.prog ops Q rest (a.put o.dst v') w'):wpListIn F nF Tryz.prog ops Q (o::rest) a w:=by
 refine wpListIn_plain gT fun K hK=>?_
 have:=JO (F:=F) (nF:=nF) (Y:=fun _=>none) (o:=o) (a:=a) (w:=w) (K:=K) (Q:=Q) (E:=False) s x gT ho v' w' hr (hK _ _ h)
 rwa [if_pos (by simp[Region.wanted,gT])]at this
def CF (w:World) (v:Value) (es:List (Int×Int)):Prop:=
 ∃(A:Option Addr) (c:Nat),v=.slice A es.length c/\es.length<=c/\c<=maxLen /\
  (∀k e,es[k]?=some e->∃b off,A=some ⟨b,off,none⟩/\w.cell? ⟨b,off+k*2,none⟩=some (.int .i64 e.1)/\w.cell? ⟨b,off+k*2+1,none⟩=some (.int .i64 e.2))
theorem CF.agU {w w':World} {v:Value} {xs:List (Int×Int)} (h:CF w v xs) (hb:Below w.heap.size w w'):CF w' v xs:=by
 obtain⟨A,c,hv,hc,hm,hA⟩:=h;refine⟨A,c,hv,hc,hm,fun k x hk=>?_⟩
 obtain⟨b,off,wb,h1,h2⟩:=hA k x hk;exact⟨b,off,wb,bc hb h1,bc hb h2⟩
def oD (w:World) (v:Value) (ep:List (List (Int×Int))):Prop:=
 ∃(A:Option Addr) (c:Nat),v=.slice A ep.length c/\ep.length<=c/\c<=maxLen /\
  (∀k es,ep[k]?=some es->∃b off u,A=some ⟨b,off,none⟩/\w.cell? ⟨b,off+k,none⟩=some u/\CF w u es)
theorem oD.agU {w w':World} {v:Value} {xs:List (List (Int×Int))} (h:oD w v xs) (hb:Below w.heap.size w w'):oD w' v xs:=by
 obtain⟨A,c,hv,hc,hm,hA⟩:=h;refine⟨A,c,hv,hc,hm,fun k x hk=>?_⟩
 obtain⟨b,off,u,wb,h1,h2⟩:=hA k x hk;exact⟨b,off,u,wb,bc hb h1,h2.agU hb⟩
structure ao where
 ends:List (List (Int×Int))
 ids:List Int
 agT:List Int
 deriving DecidableEq
def aR (w:World) (ve vi vn:Value) (n:ao):Prop:=oD w ve n.ends/\bs w vi n.ids/\bs w vn n.agT
theorem aR.agU {w w':World} {ve vi vn:Value} {n:ao} (h:aR w ve vi vn n) (hb:Below w.heap.size w w'):aR w' ve vi vn n:=⟨h.1.agU hb,h.2.1.agU hb,h.2.2.agU hb⟩
def wg (x y:Int×Int):Bool:=decide (x=y)
end Go.Proofs.YtnioemnkfojmkaaGreat
