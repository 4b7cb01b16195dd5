/- Parts of the proof: walks of functions and plain laws. -/
import Derived.Test.YtgmdpppljkmabaaGreatP0
import Derived.Test.YtgmdpppljkmabaaGreatP18
import Derived.Test.YtgmdpppljkmabaaGreatP5
import Derived.BigQuiet
import Derived.Test.YtgmdpppljkmabaaGreatP3
import Derived.Laws.Bits64b
import Derived.Test.YtgmdpppljkmabaaGreatP2
import Derived.BigRegion
set_option maxRecDepth 100000
set_option maxHeartbeats 16000000
namespace Go.Proofs.YtgmdpppljkmabaaGreat
open Go Go.RowKit
theorem jv (w : World) (p : Addr) (u : Value) : (w.setCell p u).heap.size = w.heap.size:=by simp [World.setCell]
def mc (w : World) (b : Nat) (vs : Array Value) : Prop:=∃ r,w.heap[b]? = some (.cells vs r)
theorem mc.lt {w : World} {b : Nat} {vs : Array Value} (h : mc w b vs) : b < w.heap.size:=by
 obtain ⟨r,h⟩:=h;exact (Array.getElem?_eq_some_iff.1 h).1
theorem mc.set {w : World} {b : Nat} {vs : Array Value} {u : Value} {p : Addr} (h : mc w b vs) (ha : p.block ≠ b) : mc (w.setCell p u) b vs:=by
 obtain ⟨r,h⟩:=h
 exact ⟨r,by rw [Below.heap_setCell _ _ _ _ (fun e => ha e.symm)];exact h⟩
theorem mc.cell {w : World} {b : Nat} {vs : Array Value} (h : mc w b vs) (i : Nat) (u : Value) (hi : vs[i]? = some u) : w.cell? ⟨b,i,none⟩ = some u ∧ w.frozen? ⟨b,i,none⟩ = false:=by
 obtain ⟨r,h⟩:=h;exact ⟨by simp [World.cell?,h,hi],by simp [World.frozen?,h]⟩
theorem mc.new (w : World) (vs : Array Value) (t : TypeId) : mc (w.alloc (.cells vs t)) w.heap.size vs:=⟨t,by show (w.heap.push _)[w.heap.size]? = _;rw [Array.getElem?_push_size]⟩
theorem nQ {w : World} {b : Nat} {vs : Array Value} (h : mc w b vs) (i : Nat) (u : Value) : mc (w.setCell ⟨b,i,none⟩ u) b (vs.setIfInBounds i u):=by
 obtain ⟨r,h⟩:=h;refine ⟨r,?_⟩;simp [World.setCell,Array.getElem?_modify,h]
structure CB (cb B : Nat) (w w' : World) : Prop where
 os : w'.os = w.os
 tape : w'.tape = w.tape
 output : w'.output = w.output
 size : w.heap.size ≤ w'.heap.size
 block : ∀ k,k < B → k ≠ cb → w'.heap[k]? = w.heap[k]?
theorem CB.refl (cb B : Nat) (w : World) : CB cb B w w:=⟨rfl,rfl,rfl,Nat.le_refl _,fun _ _ _ => rfl⟩
theorem CB.trans {cb B : Nat} {a b c : World} (h : CB cb B a b) (k : CB cb B b c) : CB cb B a c:=
 ⟨k.os.trans h.os,k.tape.trans h.tape,k.output.trans h.output,Nat.le_trans h.size k.size,fun i hi hn => (k.block i hi hn).trans (h.block i hi hn)⟩
theorem CB.mono {cb B B' : Nat} {w w' : World} (h : CB cb B w w') (hB : B' ≤ B) : CB cb B' w w':=⟨h.os,h.tape,h.output,h.size,fun k hk hn => h.block k (by omega) hn⟩
theorem CB.of {cb B : Nat} {w w' : World} (h : Below B w w') : CB cb B w w':=⟨h.os,h.tape,h.output,h.size,fun k hk _ => h.block k hk⟩
theorem CB.below {cb B : Nat} {w w' : World} (h : CB cb B w w') (hB : B ≤ cb) : Below B w w':=⟨h.os,h.tape,h.output,h.size,fun k hk => h.block k hk (by omega)⟩
theorem CB.setCell {cb B : Nat} {a w : World} (h : CB cb B a w) {p : Addr} (hp : B ≤ p.block ∨ p.block = cb) (u : Value) : CB cb B a (w.setCell p u):=
 h.trans ⟨rfl,rfl,rfl,by simp [World.setCell],fun k hk hn => Below.heap_setCell _ _ _ _ (by omega)⟩
theorem CB.cell {cb B : Nat} {w w' : World} (h : CB cb B w w') {p : Addr} (hp : p.block < B) (hn : p.block ≠ cb) : w'.cell? p = w.cell? p:=World.cell?_of_block (w:=w) (h.block p.block hp hn)
theorem tn {w : World} {p : Addr} {v : Value} (h : w.cell? p = some v) : p.block < w.heap.size:=by
 rcases Nat.lt_or_ge p.block w.heap.size with hl | hl
 ·exact hl
 ·exfalso
  have e : w.heap[p.block]? = none:=Array.getElem?_eq_none hl;simp [World.cell?,e] at h
def gB (cb : Nat) (w0 W : World) : Prop:=CB cb w0.heap.size w0 W
theorem gB.refl (cb : Nat) (w : World) : gB cb w w:=CB.refl _ _ _
theorem gB.trans {cb : Nat} {w0 W W' : World} (h : gB cb w0 W) (h' : CB cb W.heap.size W W') : gB cb w0 W':=CB.trans h (h'.mono h.size)
theorem gB.after {cb : Nat} {w0 W W' : World} (h : gB cb w0 W) (h' : aa W W') : gB cb w0 W':=h.trans (CB.of h')
theorem aD {cb : Nat} {w0 : World} {p : Addr} {v : Value} (h : w0.cell? p = some v) (hn : p.block ≠ cb) : ∀ W,gB cb w0 W → W.cell? p = some v:=fun W hW => by
 rw [CB.cell hW ?_ hn]
 ·exact h
 ·exact tn h
def zH (w : World) (cb : Nat) (A : Option Addr) (L : Nat) : Prop:=∀ k,k < L → ∃ b off v,A = some ⟨b,off,none⟩ ∧ b < cb ∧ w.cell? ⟨b,off + k,none⟩ = some (.int .u8 v) ∧ 0 ≤ v ∧ v < 256
theorem zH.keep {w w' : World} {cb : Nat} {A : Option Addr} {L : Nat} (h : zH w cb A L) (hb : ∀ k,k < cb → w'.heap[k]? = w.heap[k]?) : zH w' cb A L:=fun k hk => by
 obtain ⟨b,off,v,hA,hlt,hc,h1,h2⟩:=h k hk
 exact ⟨b,off,v,hA,hlt,by rw [World.cell?_of_block (w:=w) (hb b hlt)];exact hc,h1,h2⟩
structure Ac (w : World) (cb : Nat) (A : Option Addr) (L c p s : Nat) : Prop where
 cells : ∃ r,w.heap[cb]? = some (.cells #[.slice A L c,.int .i64 p,.int .u64 s] r)
 code : zH w cb A L
 len : L ≤ 1048576
 cap : L ≤ c
 seed : s < 18446744073709551616
theorem Ac.keep {w w' : World} {cb : Nat} {A : Option Addr} {L c p s : Nat} (h : Ac w cb A L c p s) (hb : ∀ k,k < cb + 1 → w'.heap[k]? = w.heap[k]?) : Ac w' cb A L c p s:=by
 obtain ⟨⟨r,h1⟩,h2,h3,h4,h5⟩:=h;exact ⟨⟨r,(hb cb (by omega)).trans h1⟩,h2.keep (fun k hk => hb k (by omega)),h3,h4,h5⟩
theorem Ac.lt {w : World} {cb : Nat} {A : Option Addr} {L c p s : Nat} (h : Ac w cb A L c p s) : cb < w.heap.size:=by
 obtain ⟨⟨r,h1⟩,_⟩:=h;exact (Array.getElem?_eq_some_iff.1 h1).1
theorem Ac.since {w w' : World} {cb : Nat} {A : Option Addr} {L c p s : Nat} (h : Ac w cb A L c p s) (hs : aa w w') : Ac w' cb A L c p s:=h.keep fun k hk => hs.block k (by have:=h.lt;omega)
theorem Ac.cellsOf {w : World} {cb : Nat} {A : Option Addr} {L c p s : Nat} (h : Ac w cb A L c p s) : w.cell? ⟨cb,0,none⟩ = some (.slice A L c) ∧ w.cell? ⟨cb,1,none⟩ = some (.int .i64 p) ∧ w.cell? ⟨cb,2,none⟩ = some (.int .u64 s):=by
 obtain ⟨⟨r,h1⟩,_⟩:=h;have hb : mc w cb #[.slice A L c,.int .i64 p,.int .u64 s]:=⟨r,h1⟩;exact ⟨(hb.cell 0 _ rfl).1,(hb.cell 1 _ rfl).1,(hb.cell 2 _ rfl).1⟩
theorem Et (n : Int) : IntKind.u64.wrap n = n % 18446744073709551616:=by simp [IntKind.wrap,IntKind.bits,IntKind.signed]
theorem K_ (s b : Nat) (hb : b < 256) : IntKind.u64.wrap (IntKind.u64.wrap (IntKind.u64.wrap ((s : Int) * 6364136223846793005) + (b : Int)) + 1442695040888963407) = ((nx s b : Nat) : Int):=by
 rw [Et,Et,Et];unfold nx;omega
theorem La (z : Nat) (hz : z < 18446744073709551616) : wrap64 (bits BinOp.and IntKind.u64 ((z : Int) / 1099511627776) 255) = ((byteOf z : Nat) : Int):=by
 have h:=bits_and_u64_nat (z / 1099511627776) 255 (by omega) (by omega);have e : (((z / 1099511627776 : Nat)) : Int) = (z : Int) / 1099511627776:=by simp
 have e2 : z / 1099511627776 &&& 255 = byteOf z:=Nat.and_two_pow_sub_one_eq_mod _ 8
 rw [e,e2] at h;rw [show ((255 : Nat) : Int) = 255 from rfl] at h;rw [h]
 have : byteOf z < 256:=by unfold byteOf;omega
 unfold wrap64;omega
theorem Ge (s b : Nat) : nx s b < 18446744073709551616:=Nat.mod_lt _ (by omega)
theorem Ch (cb : Nat) (A : Option Addr) (L c p s : Nat) (w : World) (h : Ac w cb A L c p s) (hp : p ≤ 4611686018427387904) :
  Calls Tryz.prog 136 #[.pointer (some ⟨cb,0,none⟩)] w fun e w' => ∃ x s' : Nat,e = .returned (.int .i64 x) ∧ x < 256 ∧ Ac w' cb A L c (p + 1) s' ∧ (L ≤ p → s' = nx s 0 ∧ x = byteOf s') ∧ CB cb w.heap.size w w':=by
 obtain ⟨k0,k1,k2⟩:=h.cellsOf;have p0:=ae k0;have p1:=ae k1;have p2:=ae k2;have hL:=h.len;have hc:=h.cap;have H:=zh h;clear h k0 k1 k2
 by_cases hlt : p < L
 ·obtain ⟨b,off,v,rfl,hb,hv,sR,SF⟩:=H.out.code p hlt;have pv:=ae hv;clear hv
  go_enter Tryz.func136,Tryz.ntmps136
  go_upto_region 2 with (fail);refine ao 10 (aa w) (by kernel_rfl) (by kernel_rfl) (by simp) (ak (ad _)) ?_;simp only [zT]
  iterate 10 (apply ag rfl;(intro W hW;go_simp;with_reducible rfl);simp only [zA])
  intro W hW;go_upto_region 3 with (fail);obtain ⟨v,rfl⟩ : ∃ n : Nat,v = (n : Int):=⟨v.toNat,by omega⟩
  have Vr : v < 256:=by omega
  clear sR SF;refine ao 10 (aa w) (by kernel_rfl) (by kernel_rfl) (by simp) (ak hW) ?_;simp only [zT]
  iterate 10 (apply ag rfl;(intro W hW;go_simp;with_reducible rfl);simp only [zA])
  clear hW;intro W2 hW
  have fO : mc W2 cb #[.slice (some ⟨b,off,none⟩) L c,.int .i64 p,.int .u64 s]:=by
   obtain ⟨r,hr⟩:=H.out.cells;exact ⟨r,(hW.block cb H.out.lt).trans hr⟩
  have m1 : IntKind.i64.wrap ((p : Int) + 1) = (p : Int) + 1:=aL _ (by omega) (by omega);have m2:=K_ s v (by omega);have f1:=(fO.cell 1 _ rfl).2;have f2:=(fO.cell 2 _ rfl).2;have g0:=(fO.cell 0 _ rfl).1;have g1:=(fO.cell 1 _ rfl).1;have g2:=(fO.cell 2 _ rfl).1;have Hb:=zh fO;clear fO p0 p1 p2 pv;go_upto_region 6 with (fail);obtain ⟨w3,gY⟩ : ∃ z,z = (W2.setCell ⟨cb,1,none⟩ (.int .i64 ((p : Int) + 1))).setCell ⟨cb,2,none⟩ (.int .u64 (nx s v : Nat)):=⟨_,rfl⟩
  rw [← gY]
  have bg : mc w3 cb #[.slice (some ⟨b,off,none⟩) L c,.int .i64 ((p : Int) + 1),.int .u64 (nx s v : Nat)]:=by rw [gY];exact nQ (nQ Hb.out 1 _) 2 _
  have kP : CB cb w.heap.size w w3:=by rw [gY];exact ((CB.of hW).setCell (p:=⟨cb,1,none⟩) (.inr rfl) _).setCell (p:=⟨cb,2,none⟩) (.inr rfl) _
  have q0:=ae (bg.cell 0 _ rfl).1;have q1:=ae (bg.cell 1 _ rfl).1;have q2:=ae (bg.cell 2 _ rfl).1;have Po:=zh bg;have vH:=zh kP;clear bg kP gY g0 g1 g2 f1 f2 hW Hb;refine ao 10 (aa w3) (by kernel_rfl) (by kernel_rfl) (by simp) (ak (ad _)) ?_;simp only [zT]
  iterate 10 (apply ag rfl;(intro W hW;go_simp;with_reducible rfl);simp only [zA])
  intro W4 jq
  have n9 : ((p : Int) + 1 ≤ (L : Int)) = True:=by simp;omega
  go_wp2_with fail;go_ret;refine ⟨v,nx s v,rfl,Vr,⟨?_,?_,hL,hc,Ge _ _⟩,fun h => absurd h (by omega),vH.out.trans (CB.mono (CB.of jq) vH.out.size)⟩
  ·obtain ⟨r,hr⟩:=Po.out;exact ⟨r,(jq.block cb (Po.out.lt)).trans hr⟩
  ·exact H.out.code.keep (fun k hk => by
    have h1:=H.out.lt;have h2:=vH.out.size
    exact (jq.block k (by omega)).trans (vH.out.block k (by omega) (by omega)))
 ·have hge : ((p : Int) < (L : Int)) = False:=by simp;omega
  go_enter Tryz.func136,Tryz.ntmps136
  go_upto_region 2 with (fail);refine ao 10 (aa w) (by kernel_rfl) (by kernel_rfl) (by simp) (ak (ad _)) ?_;simp only [zT]
  iterate 10 (apply ag rfl;(intro W hW;go_simp;with_reducible rfl);simp only [zA])
  intro W2 hW
  have fO : mc W2 cb #[.slice A L c,.int .i64 p,.int .u64 s]:=by
   obtain ⟨r,hr⟩:=H.out.cells;exact ⟨r,(hW.block cb H.out.lt).trans hr⟩
  have m1 : IntKind.i64.wrap ((p : Int) + 1) = (p : Int) + 1:=aL _ (by omega) (by omega)
  have m2 : IntKind.u64.wrap (IntKind.u64.wrap (IntKind.u64.wrap ((s : Int) * 6364136223846793005)) + 1442695040888963407) = ((nx s 0 : Nat) : Int):=by have:=K_ s 0 (by omega);simpa using this
  have f1:=(fO.cell 1 _ rfl).2;have f2:=(fO.cell 2 _ rfl).2;have g0:=(fO.cell 0 _ rfl).1;have g1:=(fO.cell 1 _ rfl).1;have g2:=(fO.cell 2 _ rfl).1;have Hb:=zh fO;clear fO p0 p1 p2;go_upto_region 6 with (fail);obtain ⟨w3,gY⟩ : ∃ z,z = (W2.setCell ⟨cb,1,none⟩ (.int .i64 ((p : Int) + 1))).setCell ⟨cb,2,none⟩ (.int .u64 (nx s 0 : Nat)):=⟨_,rfl⟩
  rw [← gY]
  have bg : mc w3 cb #[.slice A L c,.int .i64 ((p : Int) + 1),.int .u64 (nx s 0 : Nat)]:=by rw [gY];exact nQ (nQ Hb.out 1 _) 2 _
  have kP : CB cb w.heap.size w w3:=by rw [gY];exact ((CB.of hW).setCell (p:=⟨cb,1,none⟩) (.inr rfl) _).setCell (p:=⟨cb,2,none⟩) (.inr rfl) _
  have q0:=ae (bg.cell 0 _ rfl).1;have q1:=ae (bg.cell 1 _ rfl).1;have q2:=ae (bg.cell 2 _ rfl).1;have Po:=zh bg;have vH:=zh kP;clear bg kP gY g0 g1 g2 f1 f2 hW Hb;refine ao 10 (aa w3) (by kernel_rfl) (by kernel_rfl) (by simp) (ak (ad _)) ?_;simp only [zT]
  iterate 10 (apply ag rfl;(intro W hW;go_simp;with_reducible rfl);simp only [zA])
  intro W4 jq
  have n9 : ((p : Int) + 1 ≤ (L : Int)) = False:=by simp;omega
  go_wp2_with fail;go_ret
  refine ⟨byteOf (nx s 0),nx s 0,by rw [La _ (Ge _ _)];rfl,by unfold byteOf;omega,⟨?_,?_,hL,hc,Ge _ _⟩,fun _ => ⟨rfl,rfl⟩,vH.out.trans (CB.mono (CB.of jq) vH.out.size)⟩
  ·obtain ⟨r,hr⟩:=Po.out;exact ⟨r,(jq.block cb (Po.out.lt)).trans hr⟩
  ·exact H.out.code.keep (fun k hk => by
    have h1:=H.out.lt;have h2:=vH.out.size
    exact (jq.block k (by omega)).trans (vH.out.block k (by omega) (by omega)))
theorem vI (cb : Nat) (A : Option Addr) (L c p s n : Nat) (w : World) (h : Ac w cb A L c p s) (hp : p ≤ 4611686018427387000) (hn : n ≤ 1048576) :
  Calls Tryz.prog 62 #[.pointer (some ⟨cb,0,none⟩),.int .i64 n] w fun e w' => ∃ x p' s' : Nat,e = .returned (.int .i64 x) ∧ (x = 0 ∨ x < n) ∧ p ≤ p' ∧ p' ≤ p + 2 ∧ Ac w' cb A L c p' s' ∧ (2 ≤ n → n ≤ 200 → p' = p + 1 ∧ (L ≤ p → s' = nx s 0 ∧ x = byteOf s' % n)) ∧ CB cb w.heap.size w w':=by
 have H:=zh h;clear h
 go_enter Tryz.func62,Tryz.ntmps62
 by_cases h1 : n ≤ 1
 ·have e1 : ((n : Int) ≤ 1) = True:=by simp;omega
  go_wp2_with fail;go_ret;exact ⟨0,p,s,rfl,.inl rfl,Nat.le_refl _,by omega,H.out,fun h => absurd h (by omega),CB.refl _ _ _⟩
 ·have e1 : ((n : Int) ≤ 1) = False:=by simp;omega
  go_wp2_with fail;refine (Ch cb A L c p s _ H.out (by omega)).mono ?_;rintro e w1 ⟨x,s1,rfl,hx,eS,rj,lJ⟩;have HC:=zh lJ;have Pp:=zh eS;have Hl:=zh rj;clear eS rj lJ
  by_cases h2 : n ≤ 200
  ·have e2 : ((200 : Int) < (n : Int)) = False:=by simp;omega
   have m1 : IntKind.i64.wrap ((x : Int) % (n : Int)) = (x : Int) % (n : Int):=by
    have q1:=Int.emod_nonneg (x : Int) (show (n : Int) ≠ 0 by omega)
    have q2:=Int.emod_lt_of_pos (x : Int) (show (0 : Int) < n by omega)
    exact aL _ (by omega) (by omega)
   have m2 : (x : Int).tmod (n : Int) = (x : Int) % (n : Int):=Int.tmod_eq_emod_of_nonneg (by omega)
   have m3 : ((n : Int) = 0) = False:=by simp;omega
   have m4 : (n = 0) = False:=by simp;omega
   go_wp2_with fail;go_ret;refine ⟨x % n,p + 1,s1,sQ (by simp),.inr (Nat.mod_lt _ (by omega)),by omega,by omega,Pp.out,fun _ _ => ⟨rfl,fun h => ?_⟩,HC.out⟩
   obtain ⟨q1,q2⟩:=Hl.out h;exact ⟨q1,by rw [q2]⟩
  ·have e2 : ((200 : Int) < (n : Int)) = True:=by simp;omega
   have m5 : IntKind.i64.wrap ((x : Int) * 256) = (x : Int) * 256:=aL _ (by omega) (by omega);go_wp2_with fail;refine (Ch cb A L c (p + 1) s1 _ Pp.out (by omega)).mono ?_;rintro e w2 ⟨y,s2,rfl,hy,lm,lp,vJ⟩;have Ti:=zh vJ;have NF:=zh lm;clear lm lp vJ;obtain ⟨z,hz⟩ : ∃ z : Nat,z = x * 256 + y:=⟨_,rfl⟩
   have m6 : (x : Int) * 256 + (y : Int) = (z : Int):=by omega
   have m7 : IntKind.i64.wrap (z : Int) = (z : Int):=aL _ (by omega) (by omega)
   have m1 : IntKind.i64.wrap ((z : Int) % (n : Int)) = (z : Int) % (n : Int):=by
    have q1:=Int.emod_nonneg (z : Int) (show (n : Int) ≠ 0 by omega)
    have q2:=Int.emod_lt_of_pos (z : Int) (show (0 : Int) < n by omega)
    exact aL _ (by omega) (by omega)
   have m2 : (z : Int).tmod (n : Int) = (z : Int) % (n : Int):=Int.tmod_eq_emod_of_nonneg (by omega)
   have m3 : ((n : Int) = 0) = False:=by simp;omega
   have m4 : (n = 0) = False:=by simp;omega
   clear hz;go_wp2_with fail;go_ret;refine ⟨z % n,p + 1 + 1,s2,sQ (by simp),.inr (Nat.mod_lt _ (by omega)),by omega,by omega,NF.out,fun _ h => absurd h (by omega),HC.out.trans (Ti.out.mono HC.out.size)⟩
def dQ (w : World) (cb : Nat) (A : Option Addr) (L c P : Nat) : Prop:=∃ p s,Ac w cb A L c p s ∧ p ≤ P
theorem dQ.lt {w : World} {cb : Nat} {A : Option Addr} {L c P : Nat} (h : dQ w cb A L c P) : cb < w.heap.size:=by obtain ⟨p,s,h,_⟩:=h;exact h.lt
theorem dQ.since {w w' : World} {cb : Nat} {A : Option Addr} {L c P : Nat} (h : dQ w cb A L c P) (hs : aa w w') : dQ w' cb A L c P:=by obtain ⟨p,s,h,hp⟩:=h;exact ⟨p,s,h.since hs,hp⟩
theorem dQ.keep {w w' : World} {cb : Nat} {A : Option Addr} {L c P : Nat} (h : dQ w cb A L c P) (hb : ∀ k,k < cb + 1 → w'.heap[k]? = w.heap[k]?) : dQ w' cb A L c P:=by obtain ⟨p,s,h,hp⟩:=h;exact ⟨p,s,h.keep hb,hp⟩
theorem dQ.mono {w : World} {cb : Nat} {A : Option Addr} {L c P P' : Nat} (h : dQ w cb A L c P) (hP : P ≤ P') : dQ w cb A L c P':=by obtain ⟨p,s,h,hp⟩:=h;exact ⟨p,s,h,by omega⟩
theorem f8.seen {β : Type} {R : World → Nat → Value → β → List Nat → Prop} (L : f8 R) {w w' : World} {base cb : Nat} {v : Value} {x : β} {S : List Nat} (h : R w base v x S) (hC : gB cb w w') (hb : cb < base) : R w' base v x S:=
 L.stable h fun k hk => hC.block k (L.range h k hk).2 (by have:=(L.range h k hk).1;omega)
theorem aA.seen {w w' : World} {base cb : Nat} {a b d : Value} {n : am} {S : List Nat} (h : aA w base a b d n S) (hC : gB cb w w') (hb : cb < base) : aA w' base a b d n S:=
 h.stable fun k hk => hC.block k (h.range k hk).2 (by have:=(h.range k hk).1;omega)
theorem Own.seen {w w' : World} {base cb : Nat} {v : Value} {xs : List Int} (h : Own w base v xs) (hC : gB cb w w') (hb : cb < base) : Own w' base v xs:=(f8.seen gQ (S:=v.ownBlock.toList) ⟨h,rfl⟩ hC hb).1
theorem ew (cb : Nat) (A : Option Addr) (L c P : Nat) (z : Int) (w : World) (h : dQ w cb A L c P) (hP : P ≤ 4611686018427387000) (hz : 0 ≤ z ∧ z ≤ 1048576) :
  Calls Tryz.prog 62 #[.pointer (some ⟨cb,0,none⟩),.int .i64 z] w fun e w' => ∃ x : Nat,e = .returned (.int .i64 x) ∧ (x = 0 ∨ (x : Int) < z) ∧ dQ w' cb A L c (P + 2) ∧ CB cb w.heap.size w w':=by
 obtain ⟨p,s,h,hp⟩:=h;obtain ⟨n,rfl⟩ : ∃ n : Nat,z = (n : Int):=⟨z.toNat,by omega⟩
 refine (vI cb A L c p s n w h (by omega) (by omega)).mono ?_;rintro e w' ⟨x,p',s',rfl,hx,h1,h2,hc,_,hC⟩;exact ⟨x,rfl,by omega,⟨p',s',hc,by omega⟩,hC⟩
theorem nR (cb : Nat) (A : Option Addr) (L c P : Nat) (z : Int) (w : World) (h : dQ w cb A L c P) (hP : P ≤ 4611686018427387000) (hz : 0 ≤ z ∧ z ≤ 1048576) :
  Calls Tryz.prog 94 #[.pointer (some ⟨cb,0,none⟩),.int .i64 z] w fun e w' => ∃ b : Bool,e = .returned (.bool b) ∧ dQ w' cb A L c (P + 2) ∧ CB cb w.heap.size w w':=by
 have H:=zh h;clear h
 go_enter Tryz.func94,Tryz.ntmps94
 go_wp2_with fail;refine (ew cb A L c P z _ H.out hP hz).mono ?_;rintro e w1 ⟨x,rfl,-,eS,lJ⟩;have HC:=zh lJ;have Pp:=zh eS;clear eS lJ;go_wp2_with fail;go_ret;exact ⟨_,rfl,Pp.out,HC.out⟩
theorem oA (cb : Nat) (A : Option Addr) (L c P : Nat) (B g q : Nat) (xs : List Int) (w : World) (h : dQ w cb A L c P) (hP : P ≤ 4611686018427387000) (ho : Own w B (.slice (some ⟨g,0,none⟩) xs.length q) xs) (hB : cb < B) (hx : 1 ≤ xs.length) (pw : xs.length ≤ 1048576) :
  Calls Tryz.prog 68 #[.pointer (some ⟨cb,0,none⟩),.slice (some ⟨g,0,none⟩) xs.length q] w fun e w' => ∃ x,e = .returned (.int .i64 x) ∧ x ∈ xs ∧ dQ w' cb A L c (P + 2) ∧ CB cb w.heap.size w w':=by
 have H:=zh h;have Ho:=zh ho;clear h ho
 go_enter Tryz.func68,Tryz.ntmps68
 go_wp2_with fail;refine (ew cb A L c P xs.length _ H.out hP (by omega)).mono ?_;rintro e w1 ⟨x,rfl,hx3,eS,lJ⟩;have AG : x < xs.length:=by omega
 obtain ⟨y,hy⟩:=aW xs x AG;have c1:=(Ho.out.seen (cb:=cb) lJ hB).cell hy;have Hy:=zh hy;have HC:=zh lJ;have Pp:=zh eS;clear eS lJ hy hx3;go_wp2_with fail;go_ret;exact ⟨y,rfl,List.mem_of_getElem? Hy.out,Pp.out,HC.out⟩
structure Sd (w0 W : World) (base g c : Nat) (xs : List Int) : Prop where
 own : Own W base (.slice (some ⟨g,0,none⟩) xs.length c) xs
 only : aU [g] w0 W
theorem Sd.drew {w0 W : World} {base g c : Nat} {xs : List Int} (h : Sd w0 W base g c xs) : Sd w0 W.drew base g c xs:=⟨Own.keep h.own (ak (ad W)).below,h.only.drewN 1⟩
theorem Sd.since {w0 W W' : World} {base g c : Nat} {xs : List Int} (h : Sd w0 W base g c xs) (hs : aa W W') : Sd w0 W' base g c xs:=⟨Own.keep h.own hs.below,h.only.trans (aU.of_below hs.below)⟩
theorem Sd.swap {w0 W : World} {base g c : Nat} {xs : List Int} (h : Sd w0 W base g c xs) (i j : Nat) : Sd w0 ((W.setCell ⟨g,i,none⟩ (.int .i64 (xs.getD j 0))).setCell ⟨g,j,none⟩ (.int .i64 (xs.getD i 0))) base g c (swp xs i j):=by
 refine ⟨?_,(h.only.setCell (.inl (by simp)) _).setCell (.inl (by simp)) _⟩;have h1:=(h.own.set (k:=i) (xs.getD j 0)).set (k:=j) (xs.getD i 0);rw [NN];exact h1
theorem Sd.cell {w0 W : World} {base g c : Nat} {xs : List Int} (h : Sd w0 W base g c xs) {k : Nat} (hk : k < xs.length) : W.cell? ⟨g,k,none⟩ = some (.int .i64 (xs.getD k 0)):=by
 refine h.own.cell ?_;rw [zDd,List.getElem?_eq_getElem hk];rfl
theorem xq (w0 w : World) (base g c : Nat) (A P M Q B : List Int) (fv : Value) (h : Sd w0 w base g c (A ++ (P ++ (M ++ (Q ++ B))))) (xj : P.length = Q.length) (hl : (A ++ (P ++ (M ++ (Q ++ B)))).length ≤ 1000000) :
  Calls Tryz.prog 248 #[.slice (some ⟨g,0,none⟩) (A ++ (P ++ (M ++ (Q ++ B)))).length c,.int .i64 A.length,.int .i64 ((A.length + P.length + M.length : Nat) : Int),.int .i64 P.length,fv] w fun e w' => e = .returned (.tuple #[]) ∧ Sd w0 w' base g c (A ++ (Q ++ (M ++ (P ++ B)))):=by
 have H:=zh h;clear h;obtain ⟨N,hN⟩ : ∃ z,z = (A ++ (P ++ (M ++ (Q ++ B)))).length:=⟨_,rfl⟩
 obtain ⟨a,ha⟩ : ∃ z,z = A.length:=⟨_,rfl⟩
 obtain ⟨b,hb⟩ : ∃ z,z = A.length + P.length + M.length:=⟨_,rfl⟩
 obtain ⟨n,hn⟩ : ∃ z,z = P.length:=⟨_,rfl⟩
 have mS : N = a + n + M.length + n + B.length:=by rw [hN,ha,hn];simp only [List.length_append];omega
 have hlen : ∀ k,(Gc A P M Q B k).length = N:=fun k => by
  rw [hN];unfold Gc;simp only [List.length_append,List.length_take,List.length_drop];omega
 rw [← hN] at hl;rw [← hN,← hb,← ha,← hn];have HN:=zh hN;have Ha:=zh ha;have Hb:=zh hb;have Hn:=zh hn;have eZ:=zh hlen;have C3:=zh xj;clear hN ha hb hn hlen xj
 go_enter Tryz.func248,Tryz.ntmps248
 go_wp2
 go_loopw [10] (fun i wr => ∃ k : Nat,k ≤ n ∧ i = .int .i64 k ∧ Sd w0 wr base g c (Gc A P M Q B k)) (fun i _ => n - (intOf i).toNat)
 case atStart => exact ⟨0,Nat.zero_le _,rfl,by rw [K3];exact H.out⟩
 case round =>
  obtain ⟨k,hk,rfl,hs⟩:=hrel
  by_cases hlt : k < n
  ·have m1 : IntKind.i64.wrap ((a : Int) + (k : Int)) = ((a + k : Nat) : Int):=by rw [aL _ (by omega) (by omega)];omega
   have m2 : IntKind.i64.wrap ((b : Int) + (k : Int)) = ((b + k : Nat) : Int):=by rw [aL _ (by have:=Hb.out;omega) (by have:=Hb.out;have:=Ha.out;have:=Hn.out;omega)];omega
   have m3 : IntKind.i64.wrap ((k : Int) + 1) = (k : Int) + 1:=aL _ (by omega) (by omega)
   have hbk : b + k < N:=by have:=Hb.out;have:=Ha.out;have:=Hn.out;omega
   have hak : a + k < N:=by omega
   have c1:=hs.cell (k:=a + k) (by rw [eZ.out];exact hak)
   have c2:=hs.cell (k:=b + k) (by rw [eZ.out];exact hbk)
   have f1:=hs.own.free (a + k);have f2:=hs.own.free (b + k);have iA:=hs.swap (a + k) (b + k)
   rw [show swp (Gc A P M Q B k) (a + k) (b + k) = Gc A P M Q B (k + 1) by rw [Ha.out,Hb.out];exact K4 A P M Q B C3.out (by have:=Hn.out;omega)] at iA
   obtain ⟨x,hx⟩ : ∃ z,z = (Gc A P M Q B k).getD (a + k) 0:=⟨_,rfl⟩
   obtain ⟨y,hy⟩ : ∃ z,z = (Gc A P M Q B k).getD (b + k) 0:=⟨_,rfl⟩
   rw [← hx] at c1 iA;rw [← hy] at c2 iA;have Ad:=zh iA;obtain ⟨i,hi⟩ : ∃ z,z = a + k:=⟨_,rfl⟩
   obtain ⟨j,hj⟩ : ∃ z,z = b + k:=⟨_,rfl⟩
   have Aw : i ≠ j:=by have:=Hb.out;have:=Ha.out;have:=Hn.out;omega
   rw [← hi] at m1 hak c1 f1 Ad;rw [← hj] at m2 hbk c2 f2 Ad;clear hs iA hx hy hi hj;go_upto_region 3 with (fail)
   go_region
   obtain ⟨w2,dK⟩ : ∃ z,z = (wr.setCell ⟨g,i,none⟩ (.int .i64 y)).setCell ⟨g,j,none⟩ (.int .i64 x):=⟨_,rfl⟩
   rw [← dK] at Ad ⊢;clear dK c1 c2 f1 f2;go_wp2;go_roundw
   case rel => exact ⟨k + 1,by omega,by first | rfl | go_num,Ad.out.drew⟩
   case measure => simp [intOf];omega
  ·obtain rfl : k = n:=by omega
   have Hs:=zh hs;clear hs;go_wp2
   go_end0
   refine ⟨rfl,?_⟩;have h9:=Hs.out;rw [Hn.out,NO _ _ _ _ _ C3.out] at h9;exact h9
theorem nS (w0 w : World) (base g c N a b n : Nat) (A P M Q B xs : List Int) (fv : Value) (hx : xs = A ++ (P ++ (M ++ (Q ++ B)))) (h : Sd w0 w base g c xs) (xj : P.length = Q.length) (hN : xs.length = N) (ha : A.length = a) (hb : A.length + P.length + M.length = b) (hn : P.length = n) (hl : N ≤ 1000000) :
  Calls Tryz.prog 248 #[.slice (some ⟨g,0,none⟩) N c,.int .i64 a,.int .i64 b,.int .i64 n,fv] w fun e w' => e = .returned (.tuple #[]) ∧ Sd w0 w' base g c (A ++ (Q ++ (M ++ (P ++ B)))):=by
 subst hx hN ha hb hn;exact xq w0 w base g c A P M Q B fv h xj hl
theorem Eu (w0 w : World) (base g c N a m b : Nat) (A U V B xs : List Int) (fv : Value) (hx : xs = A ++ (U ++ (V ++ B))) (h : Sd w0 w base g c xs) (hN : xs.length = N) (ha : A.length = a) (hm : a + U.length = m) (hb : m + V.length = b) (hU : 0 < U.length) (hV : 0 < V.length) (hl : N ≤ 1000000) :
  Calls Tryz.prog 246 #[.slice (some ⟨g,0,none⟩) N c,.int .i64 a,.int .i64 m,.int .i64 b,fv] w fun e w' => e = .returned (.tuple #[]) ∧ Sd w0 w' base g c (A ++ (V ++ (U ++ B))):=by
 have Pq : b ≤ N:=by rw [← hN,hx];simp only [List.length_append];omega
 have hR : Ep A U V B m U.length V.length xs:=by rw [hx,← hm,← ha];exact Ep.start A U V B
 have HR:=zh hR;have H:=zh h;have HN:=zh hN
 have Gv : A.length + U.length + V.length + B.length = N:=by rw [← hN,hx];simp only [List.length_append];omega
 have KP:=zh Gv;clear h hx hR hN Gv;obtain ⟨i0,SG⟩ : ∃ z,z = U.length:=⟨_,rfl⟩
 obtain ⟨j0,TJ⟩ : ∃ z,z = V.length:=⟨_,rfl⟩
 rw [← SG] at hm HR hU;rw [← TJ] at hb HR hV;have Hi0:=zh SG;have Hj0:=zh TJ;clear SG TJ ha
 have m1 : IntKind.i64.wrap ((m : Int) - (a : Int)) = (i0 : Int):=by rw [aL _ (by omega) (by omega)];omega
 have m2 : IntKind.i64.wrap ((b : Int) - (m : Int)) = (j0 : Int):=by rw [aL _ (by omega) (by omega)];omega
 have Hm:=zh hm;have Hb:=zh hb;clear hm hb
 go_enter Tryz.func246,Tryz.ntmps246
 go_wp2;clear m1 m2
 go_loopw [10,11] (fun ti tj wr => ∃ (i j : Nat) (ys : List Int),ti = .int .i64 i ∧ tj = .int .i64 j ∧ 0 < i ∧ 0 < j ∧ ys.length = N ∧ Ep A U V B m i j ys ∧ Sd w0 wr base g c ys) (fun ti tj _ => (intOf ti).toNat + (intOf tj).toNat)
 case atStart => exact ⟨i0,j0,xs,rfl,rfl,hU,hV,HN.out,HR.out,H.out⟩
 case round =>
  obtain ⟨i,j,ys,rfl,rfl,hi,hj,IT,hr,hs⟩:=hrel;have rp:=hr.len;have O4 : i ≤ m ∧ m + j ≤ N:=by omega
  have Hr:=zh hr;have Hs:=zh hs;have Dq:=zh IT;clear hr hs IT rp
  have e1 : IntKind.i64.wrap ((m : Int) - (i : Int)) = ((m - i : Nat) : Int):=by rw [aL _ (by omega) (by omega)];omega
  rcases Nat.lt_trichotomy i j with hlt | rfl | hlt
  ·obtain ⟨A',P',M',Q',B',hx,q1,q2,q3,q4,q5⟩:=Hr.out.less hlt;have QG:=zh q5
   have hlen : (A' ++ (Q' ++ (M' ++ (P' ++ B')))).length = N:=by rw [← Dq.out,hx];simp only [List.length_append];omega
   have eZ:=zh hlen;have Hx:=zh hx;clear q5 hx hlen
   have t0 : ((i : Int) = (j : Int)) = False:=by simp;omega
   have Yk : (i = j) = False:=by simp;omega
   have t1 : ((j : Int) < (i : Int)) = False:=by simp;omega
   have e2 : IntKind.i64.wrap ((m : Int) + (j : Int)) = ((m + j : Nat) : Int):=by rw [aL _ (by omega) (by omega)];omega
   have e3 : IntKind.i64.wrap (((m + j : Nat) : Int) - (i : Int)) = ((m + j - i : Nat) : Int):=by rw [aL _ (by omega) (by omega)];omega
   have e4 : IntKind.i64.wrap ((j : Int) - (i : Int)) = ((j - i : Nat) : Int):=by rw [aL _ (by omega) (by omega)];omega
   obtain ⟨mj,Qs⟩ : ∃ z,z = m + j:=⟨_,rfl⟩
   obtain ⟨mji,Rp⟩ : ∃ z,z = m + j - i:=⟨_,rfl⟩
   obtain ⟨mi,yU⟩ : ∃ z,z = m - i:=⟨_,rfl⟩
   obtain ⟨ji,m_⟩ : ∃ z,z = j - i:=⟨_,rfl⟩
   rw [← Qs] at e2 e3;rw [← yU] at e1;rw [Qs,← Rp,← Qs] at e3;rw [← m_] at e4;have Rq:=zh Qs;have aak:=zh Rp;have Vs:=zh yU;have Hji:=zh m_;have Hq:=zh (And.intro q1 (And.intro q2 (And.intro q3 q4)));clear Qs Rp yU m_ q1 q2 q3 q4 Yk;go_wp2_with fail
   refine (nS w0 wr base g c N mi mji i A' P' M' Q' B' ys fv Hx.out Hs.out (by have:=Hq.out;omega) Dq.out (by have:=Hq.out;have:=Vs.out;omega) (by have:=Hq.out;have:=aak.out;omega) Hq.out.2.1 hl).mono ?_
   rintro e w2 ⟨rfl,dE⟩;have cw:=zh dE;clear dE Hs;go_wp2;go_roundw
   case rel => exact ⟨i,ji,_,by first | rfl | go_num,by first | rfl | go_num,hi,by have:=Hji.out;omega,eZ.out,by rw [Hji.out];exact QG.out,cw.out⟩
   case measure => have:=Hji.out;simp [intOf];omega
  ·obtain ⟨A',P',Q',B',hx,q1,q2,q3,q5⟩:=Hr.out.same;have QG:=zh q5;have Hx:=zh hx;clear q5 hx;have t0 : ((i : Int) = (i : Int)) = True:=by simp
   obtain ⟨mi,yU⟩ : ∃ z,z = m - i:=⟨_,rfl⟩
   rw [← yU] at e1;have Vs:=zh yU;have Hq:=zh (And.intro q1 (And.intro q2 q3));clear yU q1 q2 q3;go_wp2_with fail
   refine (nS w0 wr base g c N mi m i A' P' [] Q' B' ys fv Hx.out Hs.out (by have:=Hq.out;omega) Dq.out (by have:=Hq.out;have:=Vs.out;omega) (by have:=Hq.out;simp;omega) Hq.out.2.1 hl).mono ?_
   rintro e w2 ⟨rfl,dE⟩;have cw:=zh dE;clear dE Hs;go_wp2
   go_end0
   refine ⟨rfl,?_⟩;have h9:=cw.out;rw [QG.out] at h9;exact h9
  ·obtain ⟨A',P',M',Q',B',hx,q1,q2,q3,q4,q5⟩:=Hr.out.big hlt;have QG:=zh q5
   have hlen : (A' ++ (Q' ++ (M' ++ (P' ++ B')))).length = N:=by rw [← Dq.out,hx];simp only [List.length_append];omega
   have eZ:=zh hlen;have Hx:=zh hx;clear q5 hx hlen
   have t0 : ((i : Int) = (j : Int)) = False:=by simp;omega
   have Yk : (i = j) = False:=by simp;omega
   have t1 : ((j : Int) < (i : Int)) = True:=by simp;omega
   have e4 : IntKind.i64.wrap ((i : Int) - (j : Int)) = ((i - j : Nat) : Int):=by rw [aL _ (by omega) (by omega)];omega
   obtain ⟨mi,yU⟩ : ∃ z,z = m - i:=⟨_,rfl⟩
   obtain ⟨ij,Aw⟩ : ∃ z,z = i - j:=⟨_,rfl⟩
   rw [← yU] at e1;rw [← Aw] at e4;have Vs:=zh yU;have Hij:=zh Aw;have Hq:=zh (And.intro q1 (And.intro q2 (And.intro q3 q4)));clear yU Aw q1 q2 q3 q4 Yk;go_wp2_with fail
   refine (nS w0 wr base g c N mi m j A' P' M' Q' B' ys fv Hx.out Hs.out (by have:=Hq.out;omega) Dq.out (by have:=Hq.out;have:=Vs.out;omega) Hq.out.2.2.2 Hq.out.2.1 hl).mono ?_
   rintro e w2 ⟨rfl,dE⟩;have cw:=zh dE;clear dE Hs;go_wp2;go_roundw
   case rel => exact ⟨ij,j,_,by first | rfl | go_num,by first | rfl | go_num,by have:=Hij.out;omega,hj,eZ.out,by rw [Hij.out];exact QG.out,cw.out⟩
   case measure => have:=Hij.out;simp [intOf];omega
structure Gf (w0 : World) (g : Nat) (dR : FuncId) (cS : Array Value) (K : Int → Int) (D : Int → Prop) : Prop where
 call : ∀ x y,D x → D y → ∀ W,aU [g] w0 W → Calls Tryz.prog dR (#[.int .i64 x,.int .i64 y] ++ cS) W fun e w' => ∃ z,e = .returned (.int .i64 z) ∧ (z < 0 ↔ K x < K y) ∧ aa W w'
 enter : ∀ args w,(callFunc dR args).run Tryz.prog w = .ok (.enter dR args) w
theorem Sd.keepCell {w0 W : World} {base g c : Nat} {xs : List Int} (h : Sd w0 W base g c xs) {k : Nat} (hk : k < xs.length) : ∀ X,aa W X → X.cell? ⟨g,k,none⟩ = some (.int .i64 (xs.getD k 0)):=ae (h.cell hk)
theorem Ev {i j : Nat} (h : i < j) : i ≤ (i + j) / 2 ∧ (i + j) / 2 < j:=by omega
theorem tp (s : Nat) (h : s ≤ 4000000) : IntKind.u64.wrap (s : Int) = (s : Int):=by
 unfold IntKind.wrap;simp [IntKind.bits,IntKind.signed]
 omega
theorem tq (s : Nat) (h : s ≤ 4000000) : wrap64 ((s : Int) / 2) = ((s / 2 : Nat) : Int):=by
 unfold wrap64;omega
theorem yD {A U R : List Int} {k : Nat} (h : k < U.length) : (A ++ (U ++ R)).getD (A.length + k) 0 = U.getD k 0:=by
 rw [zDd,zDd,List.getElem?_append_right (by omega),show A.length + k - A.length = k by omega,List.getElem?_append_left h]
theorem Lb {A U V R : List Int} {k : Nat} (h : k < V.length) : (A ++ (U ++ (V ++ R))).getD (A.length + U.length + k) 0 = V.getD k 0:=by
 rw [← List.append_assoc,show A.length + U.length + k = (A ++ U).length + k by rw [List.length_append]]
 exact yD h
theorem jf {l : List Int} {k : Nat} (h : k < l.length) : l.getD k 0 ∈ l:=by rw [zDd,List.getElem?_eq_getElem h];exact List.getElem_mem h
theorem getD_lt {l : List Int} {k : Nat} (h : k < l.length) : l.getD k 0 = l[k]:=by rw [zDd,List.getElem?_eq_getElem h];rfl
theorem vK (w0 : World) (base g c N : Nat) (dR : FuncId) (cS : Array Value) (K : Int → Int) (D : Int → Prop) (hc : Gf w0 g dR cS K D) (hl : N ≤ 1000000) (A U V B xs : List Int) (a m b : Nat) (w : World) (hx : xs = A ++ (U ++ (V ++ B))) (hs : Sd w0 w base g c xs) (hN : xs.length = N) (ha : A.length = a) (hm : a + U.length = m) (hb : m + V.length = b) (hU : 0 < U.length) (hV : 0 < V.length) (sU : iO K U) (sV : iO K V) (hD : ∀ x ∈ U ++ V,D x) (Bt : U.length = 1 ∨ V.length = 1) :
  Calls Tryz.prog 237 #[.slice (some ⟨g,0,none⟩) N c,.int .i64 a,.int .i64 m,.int .i64 b,.func (.func dR) #[] cS] w fun e w' => e = .returned (.tuple #[]) ∧ ∃ W,Sd w0 w' base g c (A ++ (W ++ B)) ∧ W.Perm (U ++ V) ∧ iO K W:=by
 have eg:=hc.enter;have Hc:=zh hc;have Hs:=zh hs;have HN:=zh hN;have Hx:=zh hx;have Ha:=zh ha;have Hm:=zh hm;have Hb:=zh hb;have HsU:=zh sU;have HsV:=zh sV;have HD:=zh hD
 have Pq : b ≤ N:=by rw [← hN,hx];simp only [List.length_append];omega
 have Gv : A.length + U.length + V.length + B.length = N:=by rw [← hN,hx];simp only [List.length_append];omega
 have KP:=zh Gv;have Er : a < m:=by omega
 have hmb : m < b:=by omega
 have m1 : IntKind.i64.wrap ((m : Int) - (a : Int)) = (U.length : Int):=by rw [aL _ (by omega) (by omega)];omega
 have m2 : IntKind.i64.wrap ((b : Int) - (m : Int)) = (V.length : Int):=by rw [aL _ (by omega) (by omega)];omega
 clear hs hN hx ha hm hb sU sV hD hc Gv
 go_enter Tryz.func237,Tryz.ntmps237
 by_cases h1 : U.length = 1
 ·obtain ⟨x,rfl⟩:=List.length_eq_one_iff.1 h1;have t0 : ((([x] : List Int).length : Int) = 1) = True:=by simp
  go_wp2;have NS : Hid (a + 1 = m):=Hm.out
  go_loopw [10,11] (fun ti tj wr => ∃ (i j : Nat),ti = .int .i64 i ∧ tj = .int .i64 j ∧ m ≤ i ∧ i ≤ j ∧ j ≤ b ∧ (i = m ∨ K (V.getD (i - 1 - m) 0) < K x) ∧ (j = b ∨ K x ≤ K (V.getD (j - m) 0)) ∧ Sd w0 wr base g c xs) (fun ti tj _ => (intOf tj).toNat - (intOf ti).toNat)
  case atStart => exact ⟨m,b,rfl,rfl,Nat.le_refl _,by omega,Nat.le_refl _,.inl rfl,.inl rfl,Hs.out⟩
  case round =>
   obtain ⟨i,j,rfl,rfl,hi,Aw,hj,hI,hJ,hs⟩:=hrel;have HI:=zh hI;have HJ:=zh hJ;have cw:=zh hs;clear hI hJ hs
   by_cases hlt : i < j
   ·have e1 : IntKind.i64.wrap ((i : Int) + (j : Int)) = ((i + j : Nat) : Int):=by rw [aL _ (by omega) (by omega)];omega
    obtain ⟨s,Jd⟩ : ∃ z,z = i + j:=⟨_,rfl⟩
    obtain ⟨h,hh⟩ : ∃ z,z = s / 2:=⟨_,rfl⟩
    have e2:=tq s (by omega);rw [← Jd] at e1;rw [← hh] at e2;have e3:=tp s (by omega)
    have CV : i ≤ h ∧ h < j:=by rw [hh,Jd];exact Ev hlt
    have Hhd:=zh (And.intro Jd hh);clear Jd hh
    have c1:=cw.out.keepCell (k:=h) (by rw [HN.out];omega)
    have c2:=cw.out.keepCell (k:=a) (by rw [HN.out];omega)
    have hb':=Hb.out;have IW:=NS.out;have ha':=Ha.out;have Vt : h - m < V.length:=by omega
    have j_ : h = A.length + ([x] : List Int).length + (h - m):=by simp only [List.length_singleton];omega
    have g1 : xs.getD h 0 = V.getD (h - m) 0:=by
     rw [Hx.out];exact (congrArg (fun k => List.getD _ k 0) j_).trans (Lb Vt)
    have g2 : xs.getD a 0 = x:=by
     rw [Hx.out];exact (congrArg (fun k => List.getD _ k 0) (show a = A.length + 0 by omega)).trans (yD (by simp))
    rw [g1] at c1;rw [g2] at c2;obtain ⟨y,hy⟩ : ∃ z,z = V.getD (h - m) 0:=⟨_,rfl⟩
    have Vu : y ∈ V:=by rw [hy];exact jf Vt
    rw [← hy] at c1;have Hy:=zh hy;have Hd:=zh (And.intro (HD.out y (by simp [Vu])) (HD.out x (by simp)));clear hy g1 g2 Vu j_ hb' IW ha';have hhN : h < N:=by omega
    have s_ : a < N:=by omega
    go_upto_region 5 with (fail);obtain ⟨wo,rfl⟩ : ∃ z,z = wr:=⟨_,rfl⟩
    refine cm (w0:=wo) 10 [false,false,false,false,false,false,false,false,false,true] (by kernel_rfl) (by kernel_rfl) (ad _) ?_;simp only [d_,dO,zT]
    iterate 4 (apply bB rfl;(intro W hW;go_simp;with_reducible rfl);simp only [zA])
    apply bB rfl;(intro W hW;have k1:=c1 W hW;go_simp;with_reducible rfl);simp only [zA]
    iterate 3 (apply bB rfl;(intro W hW;go_simp;with_reducible rfl);simp only [zA])
    apply bB rfl;(intro W hW;have k2:=c2 W hW;go_simp;with_reducible rfl);simp only [zA]
    intro W hW;refine Or.inl ⟨rfl,?_⟩
    go_simp
    (with_reducible refine (Hc.out.call y x Hd.out.1 Hd.out.2 W (cw.out.since hW).only).mono ?_)
    rintro e W' ⟨z,rfl,hz,hb⟩;refine ⟨_,rfl,hW.after hb,?_⟩
    replace hW:=hW.after hb
    (try simp only [zA])
    simp only [bA];have eY:=zh (cw.out.since hW);clear hW hb c1 c2
    by_cases jz : K y < K x
    ·have eD : (z < 0) = True:=by simp [hz.2 jz]
     have Hz:=zh hz;clear hz
     have e5 : IntKind.i64.wrap ((h : Int) + 1) = ((h + 1 : Nat) : Int):=by rw [aL _ (by omega) (by omega)];omega
     obtain ⟨Fr,NT⟩ : ∃ z,z = h + 1:=⟨_,rfl⟩
     rw [← NT] at e5;have NU:=zh NT;clear NT;go_wp2;go_roundw
     case rel => exact ⟨Fr,j,by first | rfl | go_num,by first | rfl | go_num,by have:=NU.out;omega,by have:=NU.out;omega,hj,.inr (by rw [NU.out,show h + 1 - 1 - m = h - m by omega,← Hy.out];exact jz),HJ.out,eY.out⟩
     case measure => have:=NU.out;simp [intOf];omega
    ·have eD : (z < 0) = False:=by rw [hz];simp;omega
     have Hz:=zh hz;clear hz;go_wp2;go_roundw
     case rel => exact ⟨i,h,by first | rfl | go_num,by first | rfl | go_num,hi,CV.1,by omega,HI.out,.inr (by rw [← Hy.out];omega),eY.out⟩
     case measure => simp [intOf];omega
   ·obtain rfl : i = j:=by omega
    have IW:=NS.out;have hb':=Hb.out
    have Rr : Hid (iO K (V.take (i - m) ++ x :: V.drop (i - m))):=by
     refine zE HsV.out (by omega) ?_ ?_
     ·rcases HI.out with h9 | h9
      ·exact .inl (by omega)
      ·by_cases e0 : i = m
       ·exact .inl (by omega)
       ·refine .inr ⟨by omega,?_⟩;rw [getD_lt (by omega)] at h9;simp only [show i - m - 1 = i - 1 - m by omega]
        omega
     ·rcases HJ.out with h9 | h9
      ·exact .inl (by omega)
      ·by_cases e0 : i = b
       ·exact .inl (by omega)
       ·refine .inr ⟨by omega,?_⟩;rw [getD_lt (by omega)] at h9;exact h9
    have H0 : Hid (Sd w0 wr base g c (eu A x V B 0)):=by show Sd _ _ _ _ _ _;rw [Iw,← Hx.out];exact cw.out
    have hlen : ∀ t,(eu A x V B t).length = N:=fun t => by
     rw [← KP.out];unfold eu;simp only [List.length_append,List.length_cons,List.length_take,List.length_drop,List.length_nil];omega
    have eZ:=zh hlen;have e1 : IntKind.i64.wrap ((i : Int) - 1) = (i : Int) - 1:=aL _ (by omega) (by omega);obtain ⟨wo,rfl⟩ : ∃ z,z = wr:=⟨_,rfl⟩
    clear hlen hlt cw IW hb';go_wp2
    go_loopw [13] (fun tk wr => ∃ (t : Nat),tk = .int .i64 ((a + t : Nat) : Int) ∧ t ≤ i - m ∧ Sd w0 wr base g c (eu A x V B t)) (fun tk _ => i - (intOf tk).toNat)
    case atStart => exact ⟨0,rfl,Nat.zero_le _,H0.out⟩
    case round =>
     obtain ⟨t,rfl,ht,hs⟩:=hrel
     by_cases hlt : t < i - m
     ·have m3 : IntKind.i64.wrap (((a + t : Nat) : Int) + 1) = ((a + t + 1 : Nat) : Int):=by have:=NS.out;rw [aL _ (by omega) (by omega)];omega
      have c1:=hs.cell (k:=a + t) (by rw [eZ.out];have:=NS.out;omega)
      have c2:=hs.cell (k:=a + t + 1) (by rw [eZ.out];have:=NS.out;omega)
      have f1:=hs.own.free (a + t);have f2:=hs.own.free (a + t + 1);have iA:=hs.swap (a + t) (a + t + 1)
      rw [show swp (eu A x V B t) (a + t) (a + t + 1) = eu A x V B (t + 1) by rw [← Ha.out];exact Ix A x V B (by have:=Hb.out;omega)] at iA
      obtain ⟨y1,O3⟩ : ∃ z,z = (eu A x V B t).getD (a + t) 0:=⟨_,rfl⟩
      obtain ⟨y2,O4⟩ : ∃ z,z = (eu A x V B t).getD (a + t + 1) 0:=⟨_,rfl⟩
      rw [← O3] at c1 iA;rw [← O4] at c2 iA
      have bj : a + t < N:=by have:=NS.out;omega
      have b_ : a + t + 1 < N:=by have:=NS.out;omega
      have Vv : ((a + t : Nat) : Int) < (i : Int) - 1:=by have:=NS.out;omega
      obtain ⟨p,hp⟩ : ∃ z,z = a + t:=⟨_,rfl⟩
      obtain ⟨q,hq⟩ : ∃ z,z = a + t + 1:=⟨_,rfl⟩
      rw [← hp] at c1 f1 bj m3 iA Vv ⊢;rw [hp,← hq,← hp] at m3 iA;rw [← hq] at c2 f2 b_;have Ad:=zh iA;have C3:=zh (And.intro hp hq);have xj : p ≠ q:=by omega
      clear iA hs O3 O4 hp hq;go_upto_region 11 with (fail)
      go_region
      obtain ⟨w2,dK⟩ : ∃ z,z = (wr.setCell ⟨g,p,none⟩ (.int .i64 y2)).setCell ⟨g,q,none⟩ (.int .i64 y1):=⟨_,rfl⟩
      rw [← dK] at Ad ⊢;clear dK c1 c2 f1 f2;go_wp2;go_roundw
      case rel => exact ⟨t + 1,by rw [C3.out.2];first | rfl | go_num,by omega,Ad.out.drew⟩
      case measure => have:=C3.out;simp [intOf];omega
     ·obtain rfl : t = i - m:=by omega
      have eY:=zh hs
      have Vv : ¬ ((a + (i - m) : Nat) : Int) < (i : Int) - 1:=by have:=NS.out;omega
      clear hs;go_wp2;refine bodyPost_ret (results_none rfl _ _ _) rfl ?_;refine ⟨rfl,V.take (i - m) ++ x :: V.drop (i - m),?_,vF x V (i - m),Rr.out⟩;have h9:=eY.out;unfold eu at h9;simp only [List.append_assoc,List.cons_append] at h9 ⊢
      exact h9
 ·have t0 : ((U.length : Int) = 1) = False:=by simp;omega
  have Yk : (U.length = 1) = False:=by simp;omega
  have t0b : ((U.length : Int) == 1) = false:=beq_eq_false_iff_ne.2 (by omega)
  by_cases h2 : V.length = 1
  ·obtain ⟨x,rfl⟩:=List.length_eq_one_iff.1 h2;have t1 : ((([x] : List Int).length : Int) = 1) = True:=by simp
   have HV1 : Hid (m + 1 = b):=Hb.out;go_wp2
   go_loopw [14,15] (fun ti tj wr => ∃ (i j : Nat),ti = .int .i64 i ∧ tj = .int .i64 j ∧ a ≤ i ∧ i ≤ j ∧ j ≤ m ∧ (i = a ∨ K (U.getD (i - 1 - a) 0) ≤ K x) ∧ (j = m ∨ K x < K (U.getD (j - a) 0)) ∧ Sd w0 wr base g c xs) (fun ti tj _ => (intOf tj).toNat - (intOf ti).toNat)
   case atStart => exact ⟨a,m,rfl,rfl,Nat.le_refl _,by omega,Nat.le_refl _,.inl rfl,.inl rfl,Hs.out⟩
   case round =>
    obtain ⟨i,j,rfl,rfl,hi,Aw,hj,hI,hJ,hs⟩:=hrel;have HI:=zh hI;have HJ:=zh hJ;have cw:=zh hs;clear hI hJ hs
    by_cases hlt : i < j
    ·have e1 : IntKind.i64.wrap ((i : Int) + (j : Int)) = ((i + j : Nat) : Int):=by rw [aL _ (by omega) (by omega)];omega
     obtain ⟨s,Jd⟩ : ∃ z,z = i + j:=⟨_,rfl⟩
     obtain ⟨h,hh⟩ : ∃ z,z = s / 2:=⟨_,rfl⟩
     have e2:=tq s (by omega);rw [← Jd] at e1;rw [← hh] at e2;have e3:=tp s (by omega)
     have CV : i ≤ h ∧ h < j:=by rw [hh,Jd];exact Ev hlt
     have Hhd:=zh (And.intro Jd hh);clear Jd hh
     have c1:=cw.out.keepCell (k:=h) (by rw [HN.out];omega)
     have c2:=cw.out.keepCell (k:=m) (by rw [HN.out];omega)
     have hb':=HV1.out;have IW:=Hm.out;have ha':=Ha.out;have Vt : h - a < U.length:=by omega
     have j_ : h = A.length + (h - a):=by omega
     have g1 : xs.getD h 0 = U.getD (h - a) 0:=by
      rw [Hx.out];exact (congrArg (fun k => List.getD _ k 0) j_).trans (yD Vt)
     have g2 : xs.getD m 0 = x:=by
      rw [Hx.out];exact (congrArg (fun k => List.getD _ k 0) (show m = A.length + U.length + 0 by omega)).trans (Lb (by simp))
     rw [g1] at c1;rw [g2] at c2;obtain ⟨y,hy⟩ : ∃ z,z = U.getD (h - a) 0:=⟨_,rfl⟩
     have Vu : y ∈ U:=by rw [hy];exact jf Vt
     rw [← hy] at c1;have Hy:=zh hy;have Hd:=zh (And.intro (HD.out y (by simp [Vu])) (HD.out x (by simp)));clear hy g1 g2 Vu j_ hb' IW ha';have hhN : h < N:=by omega
     have s_ : m < N:=by omega
     go_upto_region 17 with (fail);obtain ⟨wo,rfl⟩ : ∃ z,z = wr:=⟨_,rfl⟩
     refine cm (w0:=wo) 10 [false,false,false,false,false,false,false,false,false,true] (by kernel_rfl) (by kernel_rfl) (ad _) ?_;simp only [d_,dO,zT]
     iterate 4 (apply bB rfl;(intro W hW;go_simp;with_reducible rfl);simp only [zA])
     apply bB rfl;(intro W hW;have k1:=c2 W hW;go_simp;with_reducible rfl);simp only [zA]
     iterate 3 (apply bB rfl;(intro W hW;go_simp;with_reducible rfl);simp only [zA])
     apply bB rfl;(intro W hW;have k2:=c1 W hW;go_simp;with_reducible rfl);simp only [zA]
     intro W hW;refine Or.inl ⟨rfl,?_⟩
     go_simp
     (with_reducible refine (Hc.out.call x y Hd.out.2 Hd.out.1 W (cw.out.since hW).only).mono ?_)
     rintro e W' ⟨z,rfl,hz,hb⟩;refine ⟨_,rfl,hW.after hb,?_⟩
     replace hW:=hW.after hb
     (try simp only [zA])
     simp only [bA];have eY:=zh (cw.out.since hW);clear hW hb c1 c2
     by_cases jz : K x < K y
     ·have eD : (z < 0) = True:=by simp [hz.2 jz]
      have Hz:=zh hz;clear hz;go_wp2;go_roundw
      case rel => exact ⟨i,h,by first | rfl | go_num,by first | rfl | go_num,hi,CV.1,by omega,HI.out,.inr (by rw [← Hy.out];exact jz),eY.out⟩
      case measure => simp [intOf];omega
     ·have eD : (z < 0) = False:=by rw [hz];simp;omega
      have Hz:=zh hz;clear hz
      have e5 : IntKind.i64.wrap ((h : Int) + 1) = ((h + 1 : Nat) : Int):=by rw [aL _ (by omega) (by omega)];omega
      obtain ⟨Fr,NT⟩ : ∃ z,z = h + 1:=⟨_,rfl⟩
      rw [← NT] at e5;have NU:=zh NT;clear NT;go_wp2;go_roundw
      case rel => exact ⟨Fr,j,by first | rfl | go_num,by first | rfl | go_num,by have:=NU.out;omega,by have:=NU.out;omega,hj,.inr (by rw [NU.out,show h + 1 - 1 - a = h - a by omega,← Hy.out];omega),HJ.out,eY.out⟩
      case measure => have:=NU.out;simp [intOf];omega
    ·obtain rfl : i = j:=by omega
     have IW:=HV1.out;have hb':=Hm.out
     have Rr : Hid (iO K (U.take (i - a) ++ x :: U.drop (i - a))):=by
      refine zE HsU.out (by omega) ?_ ?_
      ·rcases HI.out with h9 | h9
       ·exact .inl (by omega)
       ·by_cases e0 : i = a
        ·exact .inl (by omega)
        ·refine .inr ⟨by omega,?_⟩;rw [getD_lt (by omega)] at h9;simp only [show i - a - 1 = i - 1 - a by omega]
         exact h9
      ·rcases HJ.out with h9 | h9
       ·exact .inl (by omega)
       ·by_cases e0 : i = m
        ·exact .inl (by omega)
        ·refine .inr ⟨by omega,?_⟩;rw [getD_lt (by omega)] at h9;omega
     have H0 : Hid (Sd w0 wr base g c (eu A x U B U.length)):=by show Sd _ _ _ _ _ _;rw [Ce,← Hx.out];exact cw.out
     have hlen : ∀ t,(eu A x U B t).length = N:=fun t => by
      rw [← KP.out];unfold eu;simp only [List.length_append,List.length_cons,List.length_take,List.length_drop,List.length_nil];omega
     have eZ:=zh hlen;obtain ⟨wo,rfl⟩ : ∃ z,z = wr:=⟨_,rfl⟩
     clear hlen hlt cw IW hb';go_wp2
     go_loopw [17] (fun tk wr => ∃ (t : Nat),tk = .int .i64 ((a + t : Nat) : Int) ∧ i - a ≤ t ∧ t ≤ U.length ∧ Sd w0 wr base g c (eu A x U B t)) (fun tk _ => (intOf tk).toNat)
     case atStart => exact ⟨U.length,by rw [← Hm.out],by have:=Hm.out;omega,Nat.le_refl _,H0.out⟩
     case round =>
      obtain ⟨t,rfl,ht,ht2,hs⟩:=hrel
      by_cases hlt : i - a < t
      ·obtain ⟨r,rfl⟩ : ∃ r,t = r + 1:=⟨t - 1,by omega⟩
       have m3 : IntKind.i64.wrap (((a + (r + 1) : Nat) : Int) - 1) = ((a + r : Nat) : Int):=by have:=Hm.out;rw [aL _ (by omega) (by omega)];omega
       have c1:=hs.cell (k:=a + (r + 1)) (by rw [eZ.out];have:=Hm.out;omega)
       have c2:=hs.cell (k:=a + r) (by rw [eZ.out];have:=Hm.out;omega)
       have f1:=hs.own.free (a + (r + 1));have f2:=hs.own.free (a + r);have iA:=hs.swap (a + (r + 1)) (a + r)
       rw [show swp (eu A x U B (r + 1)) (a + (r + 1)) (a + r) = eu A x U B r by rw [← Ha.out];exact rS A x U B (by omega)] at iA
       obtain ⟨y1,O3⟩ : ∃ z,z = (eu A x U B (r + 1)).getD (a + (r + 1)) 0:=⟨_,rfl⟩
       obtain ⟨y2,O4⟩ : ∃ z,z = (eu A x U B (r + 1)).getD (a + r) 0:=⟨_,rfl⟩
       rw [← O3] at c1 iA;rw [← O4] at c2 iA
       have bj : a + (r + 1) < N:=by have:=Hm.out;omega
       have b_ : a + r < N:=by have:=Hm.out;omega
       have Vv : (i : Int) < ((a + (r + 1) : Nat) : Int):=by omega
       obtain ⟨p,hp⟩ : ∃ z,z = a + (r + 1):=⟨_,rfl⟩
       obtain ⟨q,hq⟩ : ∃ z,z = a + r:=⟨_,rfl⟩
       rw [← hp] at c1 f1 bj m3 iA Vv ⊢;rw [← hq] at c2 f2 b_ m3 iA;have Ad:=zh iA;have C3:=zh (And.intro hp hq);have xj : p ≠ q:=by omega
       clear iA hs O3 O4 hp hq;go_upto_region 23 with (fail)
       go_region
       obtain ⟨w2,dK⟩ : ∃ z,z = (wr.setCell ⟨g,p,none⟩ (.int .i64 y2)).setCell ⟨g,q,none⟩ (.int .i64 y1):=⟨_,rfl⟩
       rw [← dK] at Ad ⊢;clear dK c1 c2 f1 f2;go_wp2;go_roundw
       case rel => exact ⟨r,by first | (rw [C3.out.2];done) | (rw [C3.out.2];go_num),by omega,by omega,Ad.out.drew⟩
       case measure => have:=C3.out;first | (simp [intOf];done) | (simp [intOf];omega)
      ·obtain rfl : t = i - a:=by omega
       have eY:=zh hs;have Vv : ¬ (i : Int) < ((a + (i - a) : Nat) : Int):=by omega
       clear hs;go_wp2;refine bodyPost_ret (results_none rfl _ _ _) rfl ?_;refine ⟨rfl,U.take (i - a) ++ x :: U.drop (i - a),?_,(vF x U (i - a)).trans List.perm_append_comm,Rr.out⟩;have h9:=eY.out;unfold eu at h9;simp only [List.append_assoc,List.cons_append] at h9 ⊢
       exact h9
  ·omega
end Go.Proofs.YtgmdpppljkmabaaGreat
