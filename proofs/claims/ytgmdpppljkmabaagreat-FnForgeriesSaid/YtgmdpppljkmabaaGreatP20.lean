/- Parts of the proof: walks of functions and plain laws. -/
import Derived.Test.YtgmdpppljkmabaaGreatP0
import Derived.Test.YtgmdpppljkmabaaGreatP19
import Derived.Test.YtgmdpppljkmabaaGreatP1
set_option maxRecDepth 100000
set_option maxHeartbeats 16000000
namespace Go.Proofs.YtgmdpppljkmabaaGreat
open Go Go.RowKit
theorem Vw {a m b mid n N : Nat} (Iy : mid = (a + b) / 2) (hn : n = mid + m) (Pq : b ≤ N) (hl : N ≤ 1000000) (Er : a < m) (hmb : m < b) :
  IntKind.i64.wrap ((a : Int) + (b : Int)) = ((a + b : Nat) : Int) ∧ IntKind.u64.wrap ((a + b : Nat) : Int) = ((a + b : Nat) : Int) ∧ wrap64 (((a + b : Nat) : Int) / 2) = (mid : Int) ∧ IntKind.i64.wrap ((mid : Int) + (m : Int)) = (n : Int) ∧ IntKind.i64.wrap ((n : Int) - 1) = ((n - 1 : Nat) : Int) ∧ 0 < n ∧ n ≤ 2000000:=by
 refine ⟨?_,tp _ (by omega),?_,?_,?_,by omega,by omega⟩
 ·rw [aL _ (by omega) (by omega)];omega
 ·rw [Iy];exact tq (a + b) (by omega)
 ·rw [aL _ (by omega) (by omega)];omega
 ·rw [aL _ (by omega) (by omega)];omega
theorem Rs {s r : Nat} (h1 : s ≤ 1000000) (h2 : r ≤ 1000000) : IntKind.i64.wrap ((s : Int) + (r : Int)) = ((s + r : Nat) : Int) ∧ IntKind.u64.wrap ((s + r : Nat) : Int) = ((s + r : Nat) : Int) ∧ wrap64 (((s + r : Nat) : Int) / 2) = (((s + r) / 2 : Nat) : Int):=by
 refine ⟨?_,tp _ (by omega),tq (s + r) (by omega)⟩
 rw [aL _ (by omega) (by omega)];omega
theorem Ci {p q : Nat} (h : q ≤ p) (h2 : p ≤ 2000000) : IntKind.i64.wrap ((p : Int) - (q : Int)) = ((p - q : Nat) : Int):=by rw [aL _ (by omega) (by omega)];omega
theorem Ew {p : Nat} (h2 : p ≤ 2000000) : IntKind.i64.wrap ((p : Int) + 1) = ((p + 1 : Nat) : Int):=by rw [aL _ (by omega) (by omega)];omega
theorem Rt (a m b mid n : Nat) : ∃ s0 r0,(mid < m ∧ s0 = n - b ∧ r0 = mid) ∨ (m ≤ mid ∧ s0 = a ∧ r0 = m):=by
 rcases Nat.lt_or_ge mid m with h | h
 ·exact ⟨_,_,.inl ⟨h,rfl,rfl⟩⟩
 ·exact ⟨_,_,.inr ⟨h,rfl,rfl⟩⟩
structure zI (A U V B xs : List Int) (a m b mid n s0 r0 N : Nat) : Prop where
 bd : Cf a m b mid n s0 r0
 hul : U.length = m - a
 hvl : V.length = b - m
 hal : A.length = a
 hxs : xs = A ++ (U ++ (V ++ B))
 hlen : xs.length = N
 hbn : b ≤ N
 hbig : N ≤ 1000000
theorem zI.get {A U V B xs : List Int} {a m b mid n s0 r0 N : Nat} (h : zI A U V B xs a m b mid n s0 r0 N) {c : Nat} (h1 : s0 ≤ c) (h2 : c < r0) :
  xs.getD c 0 = U.getD (c - a) 0 ∧ xs.getD (n - 1 - c) 0 = V.getD (n - 1 - c - m) 0 ∧ c - a < U.length ∧ n - 1 - c - m < V.length ∧ c < N ∧ n - 1 - c < N ∧ c ≤ n - 1 ∧ c < r0 ∧ c + 1 ≤ 1000000:=by
 obtain ⟨hb,h3,h4,h5,h6,h7,h8,h9⟩:=h;obtain ⟨e1,e2,e3,e4,e5⟩:=hb.at_ h1 h2;have j_ : c = A.length + (c - a):=by omega
 have mL : n - 1 - c = A.length + U.length + (n - 1 - c - m):=by omega
 refine ⟨?_,?_,by omega,by omega,by omega,by omega,by omega,h2,by omega⟩
 ·rw [h6];exact (congrArg (fun k => List.getD _ k 0) j_).trans (yD (by omega))
 ·rw [h6];exact (congrArg (fun k => List.getD _ k 0) mL).trans (Lb (by omega))
structure aal (U V xs : List Int) (a m n pn i j N s c q c1 : Nat) : Prop where
 lo : i ≤ c
 hi : c < j
 up : i ≤ c1
 up2 : c1 ≤ j
 w1 : IntKind.i64.wrap ((i : Int) + (j : Int)) = (s : Int)
 w2 : IntKind.u64.wrap (s : Int) = (s : Int)
 w3 : wrap64 ((s : Int) / 2) = (c : Int)
 w4 : IntKind.i64.wrap ((pn : Int) - (c : Int)) = (q : Int)
 w5 : IntKind.i64.wrap ((c : Int) + 1) = (c1 : Int)
 g1 : xs.getD c 0 = U.getD (c - a) 0
 g2 : xs.getD q 0 = V.getD (q - m) 0
 u : c - a < U.length
 v : q - m < V.length
 cn : c < N
 qn : q < N
 k1 : c1 - 1 - a = c - a
 k2 : n - c1 - m = q - m
 k3 : n - 1 - c - m = q - m
 mu1 : j - c1 < j - i
 mu2 : c - i < j - i
theorem zI.round {A U V B xs : List Int} {a m b mid n s0 r0 N pn i j : Nat} (h : zI A U V B xs a m b mid n s0 r0 N) (IZ : pn = n - 1) (hi : s0 ≤ i) (hlt : i < j) (hj : j ≤ r0) : ∃ s c q c1,aal U V xs a m n pn i j N s c q c1:=by
 obtain ⟨c,hc⟩ : ∃ z,z = (i + j) / 2:=⟨_,rfl⟩
 have CV : i ≤ c ∧ c < j:=by rw [hc];exact Ev hlt
 obtain ⟨g1,g2,g3,g4,g5,g6,g7,g8,g9⟩:=h.get (c:=c) (Nat.le_trans hi CV.1) (Nat.lt_of_lt_of_le CV.2 hj)
 have lh : n ≤ 2000000:=by
  have h1:=h.bd.hn;have h2:=h.bd.rng.2.2.2.2;have h3:=h.hbn;have h4:=h.hbig;have h5:=h.bd.hmb;omega
 have rZ : r0 ≤ 1000000:=by
  have h2:=h.bd.rng.2.2.1;have h3:=h.hbn;have h4:=h.hbig;have h5:=h.bd.hmb;omega
 have a1 : i ≤ c + 1 ∧ c + 1 ≤ j ∧ i ≤ 1000000 ∧ j ≤ 1000000 ∧ n - 1 ≤ 2000000 ∧ c ≤ 2000000:=by omega
 have a2 : c + 1 - 1 - a = c - a ∧ n - (c + 1) - m = n - 1 - c - m ∧ j - (c + 1) < j - i ∧ c - i < j - i:=by omega
 have e:=Rs (s:=i) (r:=j) a1.2.2.1 a1.2.2.2.1;rw [← hc] at e;subst IZ;exact ⟨i + j,c,n - 1 - c,c + 1,CV.1,CV.2,a1.1,a1.2.1,e.1,e.2.1,e.2.2,Ci g7 a1.2.2.2.2.1,Ew a1.2.2.2.2.2,g1,g2,g3,g4,g5,g6,a2.1,a2.2.1,rfl,a2.2.2.1,a2.2.2.2⟩
theorem zI.sel {A U V B xs : List Int} {a m b mid n s0 r0 N : Nat} (h : zI A U V B xs a m b mid n s0 r0 N) : (mid < m ∧ IntKind.i64.wrap ((n : Int) - (b : Int)) = (s0 : Int) ∧ r0 = mid) ∨ (¬ mid < m ∧ s0 = a ∧ r0 = m):=by
 obtain ⟨⟨h1,h2,h3,h4,h5⟩,-,-,-,-,-,h8,h9⟩:=h;have h7 : n ≤ 2000000:=by omega
 rcases h5 with ⟨q1,q2,q3⟩ | ⟨q1,q2,q3⟩
 ·have h6 : b ≤ n:=by omega
  exact .inl ⟨q1,by rw [q2];exact Ci h6 h7,q3⟩
 ·exact .inr ⟨Nat.not_lt.2 q1,q2,q3⟩
structure aam (A U V B xs : List Int) (a m b mid n s e N : Nat) (U1 U2 V1 V2 : List Int) : Prop where
 w : IntKind.i64.wrap ((n : Int) - (s : Int)) = (e : Int)
 l1 : a + U1.length = s
 l2 : s + U2.length = m
 l3 : m + V1.length = e
 l4 : e + V2.length = b
 l5 : s + V1.length = mid
 l6 : mid + U2.length = e
 xs : xs = A ++ (U1 ++ (U2 ++ (V1 ++ (V2 ++ B))))
 u : U = U1 ++ U2
 v : V = V1 ++ V2
theorem zI.fin {A U V B xs : List Int} {a m b mid n s0 r0 N s : Nat} {K : Int → Int} (h : zI A U V B xs a m b mid n s0 r0 N) (h1 : s0 ≤ s) (h2 : s ≤ r0) (hU : iO K U) (hV : iO K V)
  (hI : s = s0 ∨ K (U.getD (s - 1 - a) 0) ≤ K (V.getD (n - s - m) 0)) (hJ : s = r0 ∨ K (V.getD (n - 1 - s - m) 0) < K (U.getD (s - a) 0)) :
  ∃ e U1 U2 V1 V2,aam A U V B xs a m b mid n s e N U1 U2 V1 V2 ∧ Yj K U1 U2 V1 V2 ∧ iO K U1 ∧ iO K U2 ∧ iO K V1 ∧ iO K V2:=by
 have hp:=NP h.bd hU hV h.hul h.hvl h1 h2 hI hJ;have he:=h.bd.end_ h1 h2;have hr:=h.bd.rng;have hul:=h.hul;have hvl:=h.hvl
 have lh : n ≤ 2000000:=by
  have h1:=h.bd.hn;have h3:=h.hbn;have h4:=h.hbig;have h5:=h.bd.hmb;omega
 have hx:=h.hxs;refine ⟨n - s,U.take (s - a),U.drop (s - a),V.take (n - s - m),V.drop (n - s - m),⟨Ci he.2.2.2.2.1 lh,?_,?_,?_,?_,?_,?_,?_,?_,?_⟩,hp,hU.sublist (List.take_sublist _ _),hU.sublist (List.drop_sublist _ _),hV.sublist (List.take_sublist _ _),hV.sublist (List.drop_sublist _ _)⟩
 ·rw [List.length_take];omega
 ·rw [List.length_drop];omega
 ·rw [List.length_take];omega
 ·rw [List.length_drop];omega
 ·rw [List.length_take];omega
 ·rw [List.length_drop];omega
 ·rw [hx];have q1:=List.take_append_drop (s - a) U;have q2:=List.take_append_drop (n - s - m) V
  conv => lhs;rw [← q1,← q2]
  simp only [List.append_assoc]
 ·exact (List.take_append_drop _ _).symm
 ·exact (List.take_append_drop _ _).symm
theorem dJ {p q : Prop} [Decidable p] [Decidable q] : (p ∧ q) ∨ (p ∧ ¬ q) ∨ ¬ p:=by
 by_cases hp : p
 ·by_cases hq : q
  ·exact .inl ⟨hp,hq⟩
  ·exact .inr (.inl ⟨hp,hq⟩)
 ·exact .inr (.inr hp)
theorem zJ (w0 : World) (base g c N F : Nat) (dR : FuncId) (cS : Array Value) (K : Int → Int) (D : Int → Prop) (hc : Gf w0 g dR cS K D) (hl : N ≤ 1000000)
  (ih : ∀ (A U V B xs : List Int) (a m b : Nat) (w : World),xs = A ++ (U ++ (V ++ B)) → Sd w0 w base g c xs → xs.length = N → A.length = a → a + U.length = m → m + V.length = b → 0 < U.length → 0 < V.length → iO K U → iO K V → (∀ x ∈ U ++ V,D x) → U.length + V.length ≤ F →
   Calls Tryz.prog 237 #[.slice (some ⟨g,0,none⟩) N c,.int .i64 a,.int .i64 m,.int .i64 b,.func (.func dR) #[] cS] w fun e w' => e = .returned (.tuple #[]) ∧ ∃ W,Sd w0 w' base g c (A ++ (W ++ B)) ∧ W.Perm (U ++ V) ∧ iO K W)
  (A U V B xs : List Int) (a m b : Nat) (w : World) (hx : xs = A ++ (U ++ (V ++ B))) (hs : Sd w0 w base g c xs) (hN : xs.length = N) (ha : A.length = a) (hm : a + U.length = m) (hb : m + V.length = b) (hU : 2 ≤ U.length) (hV : 2 ≤ V.length) (sU : iO K U) (sV : iO K V) (hD : ∀ x ∈ U ++ V,D x) (hF : U.length + V.length ≤ F + 1) :
  Calls Tryz.prog 237 #[.slice (some ⟨g,0,none⟩) N c,.int .i64 a,.int .i64 m,.int .i64 b,.func (.func dR) #[] cS] w fun e w' => e = .returned (.tuple #[]) ∧ ∃ W,Sd w0 w' base g c (A ++ (W ++ B)) ∧ W.Perm (U ++ V) ∧ iO K W:=by
 have eg:=hc.enter;have Tj:=zh ih;have Hc:=zh hc;have Hs:=zh hs;have HsU:=zh sU;have HsV:=zh sV;have HD:=zh hD
 have Pq : b ≤ N:=by rw [← hN,hx];simp only [List.length_append];omega
 obtain ⟨mid,Iy⟩ : ∃ z,z = (a + b) / 2:=⟨_,rfl⟩
 obtain ⟨n,hn⟩ : ∃ z,z = mid + m:=⟨_,rfl⟩
 obtain ⟨s0,r0,cJ⟩:=Rt a m b mid n;have hI : zI A U V B xs a m b mid n s0 r0 N:=⟨⟨Iy,hn,by omega,by omega,cJ⟩,by omega,by omega,ha,hx,hN,Pq,hl⟩
 have HF:=zh hF;have Er : a < m:=by omega
 have hmb : m < b:=by omega
 have m1 : IntKind.i64.wrap ((m : Int) - (a : Int)) = ((m - a : Nat) : Int):=Ci (by omega) (by omega);have m2 : IntKind.i64.wrap ((b : Int) - (m : Int)) = ((b - m : Nat) : Int):=Ci (by omega) (by omega);obtain ⟨ul,hul⟩ : ∃ z,z = m - a:=⟨_,rfl⟩
 obtain ⟨vl,hvl⟩ : ∃ z,z = b - m:=⟨_,rfl⟩
 rw [← hul] at m1;rw [← hvl] at m2;have t0b : ((ul : Int) == 1) = false:=beq_eq_false_iff_ne.2 (by omega);have t1b : ((vl : Int) == 1) = false:=beq_eq_false_iff_ne.2 (by omega);obtain ⟨d1,d3,d2,d4,d5,SX,lh⟩:=Vw Iy hn Pq hl Er hmb;obtain ⟨ab,pt⟩ : ∃ z,z = a + b:=⟨_,rfl⟩
 obtain ⟨pn,IZ⟩ : ∃ z,z = n - 1:=⟨_,rfl⟩
 rw [← pt] at d1 d2 d3;rw [← IZ] at d5;have HI:=zh hI;have Hpn:=zh IZ;have Ir:=hI.bd.rng;have Ex:=zh Ir;have jB:=hI.sel;clear hs sU sV hD cJ hI hF hul hvl pt IZ Iy hn Ir ih hc hx hN ha hm hb hU hV
 go_enter Tryz.func237,Tryz.ntmps237
 go_upto_if 140 with (fail)
 go_cut [20,21] from 141 to 146 (fun t20 t21 wx => t20 = .int .i64 s0 ∧ t21 = .int .i64 r0 ∧ wx = w)
 case first =>
  rcases jB with ⟨q1,q2,rfl⟩ | ⟨q1,rfl,rfl⟩
  ·have e0 : ((r0 : Int) < (m : Int)) = True:=by simp;omega
   go_wp2;go_meet
   case rel => exact ⟨rfl,by first | rfl | rw [d2],rfl⟩
  ·have e0 : ((mid : Int) < (r0 : Int)) = False:=by simp;omega
   go_wp2;go_meet
   case rel => exact ⟨rfl,rfl,rfl⟩
 case rest =>
  obtain ⟨rfl,rfl,rfl⟩:=hcut;clear jB;go_upto_region 33 with (fail);rw [d2]
  go_loopw [20,21] (fun ti tj wr => ∃ (i j : Nat),ti = .int .i64 i ∧ tj = .int .i64 j ∧ s0 ≤ i ∧ i ≤ j ∧ j ≤ r0 ∧ (i = s0 ∨ K (U.getD (i - 1 - a) 0) ≤ K (V.getD (n - i - m) 0)) ∧ (j = r0 ∨ K (V.getD (n - 1 - j - m) 0) < K (U.getD (j - a) 0)) ∧ Sd w0 wr base g c xs) (fun ti tj _ => (intOf tj).toNat - (intOf ti).toNat)
  case atStart => exact ⟨s0,r0,rfl,rfl,Nat.le_refl _,Ex.out.2.1,Nat.le_refl _,.inl rfl,.inl rfl,Hs.out⟩
  case round =>
   obtain ⟨i,j,rfl,rfl,hi,Aw,hj,hI,hJ,hs⟩:=hrel;have S_:=zh hI;have HJ:=zh hJ;have cw:=zh hs;clear hI hJ hs
   by_cases hlt : i < j
   ·obtain ⟨s,h,q,Fr,hR⟩:=HI.out.round Hpn.out hi hlt hj;have HR:=zh hR;obtain ⟨-,-,-,-,e1,e3,e2,e4,e5,g1,g2,g3,g4,g5,g6,-,-,-,-,-⟩:=hR
    have c1:=cw.out.keepCell (k:=h) (by rw [HI.out.hlen];exact g5)
    have c2:=cw.out.keepCell (k:=q) (by rw [HI.out.hlen];exact g6)
    rw [g1] at c1;rw [g2] at c2;obtain ⟨y,hy⟩ : ∃ z,z = U.getD (h - a) 0:=⟨_,rfl⟩
    obtain ⟨x,hx⟩ : ∃ z,z = V.getD (q - m) 0:=⟨_,rfl⟩
    have hyU : y ∈ U:=by rw [hy];exact jf g3
    have SH : x ∈ V:=by rw [hx];exact jf g4
    rw [← hy] at c1;rw [← hx] at c2;have Hy:=zh hy;have Hx:=zh hx;have Hd:=zh (And.intro (HD.out y (by simp [hyU])) (HD.out x (by simp [SH])));clear hy hx hyU SH g1 g2 g3 g4;go_upto_region 35 with (fail);obtain ⟨wo,rfl⟩ : ∃ z,z = wr:=⟨_,rfl⟩
    refine cm (w0:=wo) 12 [false,false,false,false,false,false,false,false,false,false,false,true] (by kernel_rfl) (by kernel_rfl) (ad _) ?_;simp only [d_,dO,zT]
    iterate 6 (apply bB rfl;(intro W hW;go_simp;with_reducible rfl);simp only [zA])
    apply bB rfl;(intro W hW;have k1:=c2 W hW;go_simp;with_reducible rfl);simp only [zA]
    iterate 3 (apply bB rfl;(intro W hW;go_simp;with_reducible rfl);simp only [zA])
    apply bB rfl;(intro W hW;have k2:=c1 W hW;go_simp;with_reducible rfl);simp only [zA]
    intro W hW;refine Or.inl ⟨rfl,?_⟩
    go_simp
    (with_reducible refine (Hc.out.call x y Hd.out.2 Hd.out.1 W (cw.out.since hW).only).mono ?_)
    rintro e W' ⟨z,rfl,hz,hb⟩;refine ⟨_,rfl,hW.after hb,?_⟩
    replace hW:=hW.after hb
    (try simp only [zA])
    simp only [bA];have eY:=zh (cw.out.since hW);clear hW hb c1 c2
    by_cases jz : K x < K y
    ·have eD : (z < 0) = True:=by simp [hz.2 jz]
     have Hz:=zh hz;clear hz;go_wp2;go_roundw
     case rel => exact ⟨i,h,by first | rfl | go_num,by first | rfl | go_num,hi,HR.out.lo,Nat.le_trans (Nat.le_of_lt HR.out.hi) hj,S_.out,.inr (by rw [← Hy.out,HR.out.k3,← Hx.out];exact jz),eY.out⟩
     case measure => exact HR.out.mu2
    ·have eD : (z < 0) = False:=eq_false (fun h9 => jz (hz.1 h9))
     have Hz:=zh hz;clear hz;go_wp2;go_roundw
     case rel => exact ⟨Fr,j,by first | rfl | go_num,by first | rfl | go_num,Nat.le_trans hi HR.out.up,HR.out.up2,hj,.inr (by rw [HR.out.k1,HR.out.k2,← Hy.out,← Hx.out];exact Int.not_lt.1 jz),HJ.out,eY.out⟩
     case measure => exact HR.out.mu1
   ·obtain rfl : i = j:=Nat.le_antisymm Aw (Nat.not_lt.1 hlt)
    obtain ⟨e,U1,U2,V1,V2,hF,hP,su1,su2,sv1,sv2⟩:=HI.out.fin hi hj HsU.out HsV.out S_.out HJ.out;have e6:=hF.w;have fa:=zh hF;have HP:=zh hP;have NV:=zh su1;have Cj:=zh su2;have NW:=zh sv1;have Ck:=zh sv2;clear hF hP su1 su2 sv1 sv2;obtain ⟨wo,rfl⟩ : ∃ z,z = wr:=⟨_,rfl⟩
    go_upto_region 39 with (fail);obtain ⟨r1,rZ⟩ : ∃ z : Bool,z = (decide (i < m) && decide (m < e)):=⟨_,rfl⟩
    have qM:=zh rZ;clear rZ
    go_cut [185] from 178 to 185 (fun t wx => t = .bool r1 ∧ wx = wo)
    case first =>
     rcases dJ (p:=i < m) (q:=m < e) with ⟨b1,b2⟩ | ⟨b1,b2⟩ | b1
     ·have e9 : r1 = true:=by rw [qM.out];simp [b1,b2]
      go_wp2;go_meet
      case rel => exact ⟨by rw [e9],rfl⟩
     ·have e9 : r1 = false:=by rw [qM.out];simp [b2]
      go_wp2;go_meet
      case rel => exact ⟨by rw [e9],rfl⟩
     ·have e9 : r1 = false:=by rw [qM.out];simp [b1]
      go_wp2;go_meet
      case rel => exact ⟨by rw [e9],rfl⟩
    case rest =>
     obtain ⟨eS,lm⟩:=hcut;subst eS;have qo:=lm.symm;clear lm;subst qo;cases r1
     ·have rZ:=qM.out
      have hy : Sd w0 wo base g c (A ++ (U1 ++ (V1 ++ (U2 ++ (V2 ++ B))))):=by
       have q0:=fa.out
       have q1 : U2 = [] ∨ V1 = []:=by
        rcases dJ (p:=i < m) (q:=m < e) with ⟨b1,b2⟩ | ⟨b1,b2⟩ | b1
        ·simp [b1,b2] at rZ
        ·right;exact List.eq_nil_of_length_eq_zero (by have:=q0.l3;omega)
        ·left;exact List.eq_nil_of_length_eq_zero (by have:=q0.l2;omega)
       have h9:=cw.out;rw [q0.xs] at h9;rcases q1 with q1 | q1
       ·rw [q1] at h9 ⊢;simpa using h9
       ·rw [q1] at h9 ⊢;simpa using h9
      have Hy:=zh hy;clear hy rZ;obtain ⟨w2,rfl⟩ : ∃ z,z = wo:=⟨_,rfl⟩
      go_upto_region 41 with (fail);obtain ⟨r2,mN⟩ : ∃ z : Bool,z = (decide (a < i) && decide (i < mid)):=⟨_,rfl⟩
      have xf:=zh mN;clear mN
      go_cut [199] from 192 to 199 (fun t wx => t = .bool r2 ∧ wx = w2)
      case first =>
       rcases dJ (p:=a < i) (q:=i < mid) with ⟨b1,b2⟩ | ⟨b1,b2⟩ | b1
       ·have e9 : r2 = true:=by rw [xf.out];simp [b1,b2]
        go_wp2;go_meet
        case rel => exact ⟨by rw [e9],rfl⟩
       ·have e9 : r2 = false:=by rw [xf.out];simp [b2]
        go_wp2;go_meet
        case rel => exact ⟨by rw [e9],rfl⟩
       ·have e9 : r2 = false:=by rw [xf.out];simp [b1]
        go_wp2;go_meet
        case rel => exact ⟨by rw [e9],rfl⟩
      case rest =>
       obtain ⟨eS,lm⟩:=hcut;subst eS;have qo:=lm.symm;clear lm;subst qo;cases r2
       ·have mN:=xf.out
        obtain ⟨W1,hz,yE,vL⟩ : ∃ W1,Sd w0 w2 base g c (A ++ (W1 ++ (U2 ++ (V2 ++ B)))) ∧ W1.Perm (U1 ++ V1) ∧ iO K W1:=by
         have q0:=fa.out
         have q1 : U1 = [] ∨ V1 = []:=by
          rcases dJ (p:=a < i) (q:=i < mid) with ⟨b1,b2⟩ | ⟨b1,b2⟩ | b1
          ·simp [b1,b2] at mN
          ·right;exact List.eq_nil_of_length_eq_zero (by have:=q0.l5;omega)
          ·left;exact List.eq_nil_of_length_eq_zero (by have:=q0.l1;omega)
         refine ⟨U1 ++ V1,by have h9:=Hy.out;rw [List.append_assoc];exact h9,List.Perm.refl _,?_⟩
         rcases q1 with q1 | q1
         ·rw [q1];simpa using NW.out
         ·rw [q1];simpa using NV.out
        have Hz:=zh hz;clear hz mN Hy;obtain ⟨w3,rfl⟩ : ∃ z,z = w2:=⟨_,rfl⟩
        go_upto_region 43 with (fail);obtain ⟨r3,mH⟩ : ∃ z : Bool,z = (decide (mid < e) && decide (e < b)):=⟨_,rfl⟩
        have rT:=zh mH;clear mH
        go_cut [213] from 206 to 213 (fun t wx => t = .bool r3 ∧ wx = w3)
        case first =>
         rcases dJ (p:=mid < e) (q:=e < b) with ⟨b1,b2⟩ | ⟨b1,b2⟩ | b1
         ·have e9 : r3 = true:=by rw [rT.out];simp [b1,b2]
          go_wp2;go_meet
          case rel => exact ⟨by rw [e9],rfl⟩
         ·have e9 : r3 = false:=by rw [rT.out];simp [b2]
          go_wp2;go_meet
          case rel => exact ⟨by rw [e9],rfl⟩
         ·have e9 : r3 = false:=by rw [rT.out];simp [b1]
          go_wp2;go_meet
          case rel => exact ⟨by rw [e9],rfl⟩
        case rest =>
         obtain ⟨eS,lm⟩:=hcut;subst eS;have qo:=lm.symm;clear lm;subst qo;cases r3
         ·have mH:=rT.out
          obtain ⟨W2,iv,qr,kQ⟩ : ∃ W2,Sd w0 w3 base g c (A ++ (W1 ++ (W2 ++ B))) ∧ W2.Perm (U2 ++ V2) ∧ iO K W2:=by
           have q0:=fa.out
           have q1 : U2 = [] ∨ V2 = []:=by
            rcases dJ (p:=mid < e) (q:=e < b) with ⟨b1,b2⟩ | ⟨b1,b2⟩ | b1
            ·simp [b1,b2] at mH
            ·right;exact List.eq_nil_of_length_eq_zero (by have:=q0.l4;omega)
            ·left;exact List.eq_nil_of_length_eq_zero (by have:=q0.l6;omega)
           refine ⟨U2 ++ V2,by have h9:=Hz.out;rw [List.append_assoc];exact h9,List.Perm.refl _,?_⟩
           rcases q1 with q1 | q1
           ·rw [q1];simpa using Ck.out
           ·rw [q1];simpa using Cj.out
          have j7:=zh iv;obtain ⟨vM,vN⟩:=jJ HP.out yE qr vL kQ;have vO:=zh (And.intro vM vN);clear iv qr kQ vM vN mH;go_wp2
          go_end0
          refine ⟨rfl,W1 ++ W2,by have h9:=j7.out;rw [List.append_assoc];exact h9,?_,vO.out.1⟩
          rw [fa.out.u,fa.out.v];exact vO.out.2
         ·have mH:=rT.out
          have q2 : mid < e ∧ e < b:=by
           rcases dJ (p:=mid < e) (q:=e < b) with b1 | ⟨b1,b2⟩ | b1
           ·exact b1
           ·simp [b2] at mH
           ·simp [b1] at mH
          clear mH;have vP : W1.length = U1.length + V1.length:=by rw [yE.length_eq,List.length_append]
          have vQ:=zh vP;clear vP;have wJ:=zh q2;clear q2;go_wp2_with fail;refine (Tj.out (A ++ W1) U2 V2 B (A ++ (W1 ++ (U2 ++ (V2 ++ B)))) mid e b w3 (by rw [List.append_assoc]) Hz.out ?_ ?_ ?_ ?_ ?_ ?_ Cj.out Ck.out ?_ ?_).mono ?_
          ·have h8:=HI.out.hlen;have h9:=vQ.out;rw [fa.out.xs] at h8;simp only [List.length_append] at h8 ⊢
           omega
          ·have h9:=vQ.out;have h8:=fa.out.l1;have h7:=fa.out.l5;have h6:=HI.out.hal
           rw [List.length_append];omega
          ·exact fa.out.l6
          ·exact fa.out.l4
          ·have:=fa.out.l6;have:=wJ.out;omega
          ·have:=fa.out.l4;have:=wJ.out;omega
          ·intro x hx;refine HD.out x ?_;rw [fa.out.u,fa.out.v]
           rcases List.mem_append.1 hx with h9 | h9 <;> simp [h9]
          ·have h1:=HF.out;have h2:=fa.out;rw [h2.u,h2.v,List.length_append,List.length_append] at h1;have h3:=h2.l1;have h4:=h2.l5;have h5:=Ex.out;omega
          ·rintro e4 w4 ⟨rfl,W2,iv,qr,kQ⟩;have j7:=zh iv;obtain ⟨vM,vN⟩:=jJ HP.out yE qr vL kQ;have vO:=zh (And.intro vM vN);clear iv qr kQ vM vN;go_wp2
           go_end0
           refine ⟨rfl,W1 ++ W2,by have h9:=j7.out;rw [List.append_assoc] at h9 ⊢;exact h9,?_,vO.out.1⟩
           rw [fa.out.u,fa.out.v];exact vO.out.2
       ·have mN:=xf.out
        have q2 : a < i ∧ i < mid:=by
         rcases dJ (p:=a < i) (q:=i < mid) with b1 | ⟨b1,b2⟩ | b1
         ·exact b1
         ·simp [b2] at mN
         ·simp [b1] at mN
        have wJ:=zh q2;clear mN q2;go_wp2_with fail;refine (Tj.out A U1 V1 (U2 ++ (V2 ++ B)) (A ++ (U1 ++ (V1 ++ (U2 ++ (V2 ++ B))))) a i mid w2 rfl Hy.out ?_ HI.out.hal fa.out.l1 fa.out.l5 ?_ ?_ NV.out NW.out ?_ ?_).mono ?_
        ·have h8:=HI.out.hlen;rw [fa.out.xs] at h8;simp only [List.length_append] at h8 ⊢
         omega
        ·have:=fa.out.l1;have:=wJ.out;omega
        ·have:=fa.out.l5;have:=wJ.out;omega
        ·intro x hx;refine HD.out x ?_;rw [fa.out.u,fa.out.v]
         rcases List.mem_append.1 hx with h9 | h9 <;> simp [h9]
        ·have h1:=HF.out;have h2:=fa.out;rw [h2.u,h2.v,List.length_append,List.length_append] at h1;have h3:=h2.l4;have h4:=h2.l6;have h5:=Ex.out;omega
        ·rintro e3 w3 ⟨rfl,W1,hz,yE,vL⟩;have Hz:=zh hz;clear hz Hy;go_upto_region 43 with (fail);obtain ⟨r3,mH⟩ : ∃ z : Bool,z = (decide (mid < e) && decide (e < b)):=⟨_,rfl⟩
         have rT:=zh mH;clear mH
         go_cut [213] from 206 to 213 (fun t wx => t = .bool r3 ∧ wx = w3)
         case first =>
          rcases dJ (p:=mid < e) (q:=e < b) with ⟨b1,b2⟩ | ⟨b1,b2⟩ | b1
          ·have e9 : r3 = true:=by rw [rT.out];simp [b1,b2]
           go_wp2;go_meet
           case rel => exact ⟨by rw [e9],rfl⟩
          ·have e9 : r3 = false:=by rw [rT.out];simp [b2]
           go_wp2;go_meet
           case rel => exact ⟨by rw [e9],rfl⟩
          ·have e9 : r3 = false:=by rw [rT.out];simp [b1]
           go_wp2;go_meet
           case rel => exact ⟨by rw [e9],rfl⟩
         case rest =>
          obtain ⟨eS,lm⟩:=hcut;subst eS;have qo:=lm.symm;clear lm;subst qo;cases r3
          ·have mH:=rT.out
           obtain ⟨W2,iv,qr,kQ⟩ : ∃ W2,Sd w0 w3 base g c (A ++ (W1 ++ (W2 ++ B))) ∧ W2.Perm (U2 ++ V2) ∧ iO K W2:=by
            have q0:=fa.out
            have q1 : U2 = [] ∨ V2 = []:=by
             rcases dJ (p:=mid < e) (q:=e < b) with ⟨b1,b2⟩ | ⟨b1,b2⟩ | b1
             ·simp [b1,b2] at mH
             ·right;exact List.eq_nil_of_length_eq_zero (by have:=q0.l4;omega)
             ·left;exact List.eq_nil_of_length_eq_zero (by have:=q0.l6;omega)
            refine ⟨U2 ++ V2,by have h9:=Hz.out;rw [List.append_assoc];exact h9,List.Perm.refl _,?_⟩
            rcases q1 with q1 | q1
            ·rw [q1];simpa using Ck.out
            ·rw [q1];simpa using Cj.out
           have j7:=zh iv;obtain ⟨vM,vN⟩:=jJ HP.out yE qr vL kQ;have vO:=zh (And.intro vM vN);clear iv qr kQ vM vN mH;go_wp2
           go_end0
           refine ⟨rfl,W1 ++ W2,by have h9:=j7.out;rw [List.append_assoc];exact h9,?_,vO.out.1⟩
           rw [fa.out.u,fa.out.v];exact vO.out.2
          ·have mH:=rT.out
           have q2 : mid < e ∧ e < b:=by
            rcases dJ (p:=mid < e) (q:=e < b) with b1 | ⟨b1,b2⟩ | b1
            ·exact b1
            ·simp [b2] at mH
            ·simp [b1] at mH
           clear mH;have vP : W1.length = U1.length + V1.length:=by rw [yE.length_eq,List.length_append]
           have vQ:=zh vP;clear vP;have wJ:=zh q2;clear q2;go_wp2_with fail;refine (Tj.out (A ++ W1) U2 V2 B (A ++ (W1 ++ (U2 ++ (V2 ++ B)))) mid e b w3 (by rw [List.append_assoc]) Hz.out ?_ ?_ ?_ ?_ ?_ ?_ Cj.out Ck.out ?_ ?_).mono ?_
           ·have h8:=HI.out.hlen;have h9:=vQ.out;rw [fa.out.xs] at h8;simp only [List.length_append] at h8 ⊢
            omega
           ·have h9:=vQ.out;have h8:=fa.out.l1;have h7:=fa.out.l5;have h6:=HI.out.hal
            rw [List.length_append];omega
           ·exact fa.out.l6
           ·exact fa.out.l4
           ·have:=fa.out.l6;have:=wJ.out;omega
           ·have:=fa.out.l4;have:=wJ.out;omega
           ·intro x hx;refine HD.out x ?_;rw [fa.out.u,fa.out.v]
            rcases List.mem_append.1 hx with h9 | h9 <;> simp [h9]
           ·have h1:=HF.out;have h2:=fa.out;rw [h2.u,h2.v,List.length_append,List.length_append] at h1;have h3:=h2.l1;have h4:=h2.l5;have h5:=Ex.out;omega
           ·rintro e4 w4 ⟨rfl,W2,iv,qr,kQ⟩;have j7:=zh iv;obtain ⟨vM,vN⟩:=jJ HP.out yE qr vL kQ;have vO:=zh (And.intro vM vN);clear iv qr kQ vM vN;go_wp2
            go_end0
            refine ⟨rfl,W1 ++ W2,by have h9:=j7.out;rw [List.append_assoc] at h9 ⊢;exact h9,?_,vO.out.1⟩
            rw [fa.out.u,fa.out.v];exact vO.out.2
     ·have rZ:=qM.out
      have q2 : i < m ∧ m < e:=by
       rcases dJ (p:=i < m) (q:=m < e) with b1 | ⟨b1,b2⟩ | b1
       ·exact b1
       ·simp [b2] at rZ
       ·simp [b1] at rZ
      have Ru:=zh q2;clear rZ q2;go_wp2_with fail
      refine (Eu w0 wo base g c N i m e (A ++ U1) U2 V1 (V2 ++ B) xs _ (by rw [fa.out.xs,List.append_assoc]) cw.out HI.out.hlen (by have:=HI.out.hal;have:=fa.out.l1;rw [List.length_append];omega) fa.out.l2 fa.out.l3 (by have:=fa.out.l2;have:=Ru.out;omega) (by have:=fa.out.l3;have:=Ru.out;omega) hl).mono ?_
      rintro e2 w2 ⟨rfl,hy⟩
      have Hy : Hid (Sd w0 w2 base g c (A ++ (U1 ++ (V1 ++ (U2 ++ (V2 ++ B)))))):=by show Sd _ _ _ _ _ _;rw [List.append_assoc] at hy;exact hy
      clear hy;go_upto_region 41 with (fail);obtain ⟨r2,mN⟩ : ∃ z : Bool,z = (decide (a < i) && decide (i < mid)):=⟨_,rfl⟩
      have xf:=zh mN;clear mN
      go_cut [199] from 192 to 199 (fun t wx => t = .bool r2 ∧ wx = w2)
      case first =>
       rcases dJ (p:=a < i) (q:=i < mid) with ⟨b1,b2⟩ | ⟨b1,b2⟩ | b1
       ·have e9 : r2 = true:=by rw [xf.out];simp [b1,b2]
        go_wp2;go_meet
        case rel => exact ⟨by rw [e9],rfl⟩
       ·have e9 : r2 = false:=by rw [xf.out];simp [b2]
        go_wp2;go_meet
        case rel => exact ⟨by rw [e9],rfl⟩
       ·have e9 : r2 = false:=by rw [xf.out];simp [b1]
        go_wp2;go_meet
        case rel => exact ⟨by rw [e9],rfl⟩
      case rest =>
       obtain ⟨eS,lm⟩:=hcut;subst eS;have qo:=lm.symm;clear lm;subst qo;cases r2
       ·have mN:=xf.out
        obtain ⟨W1,hz,yE,vL⟩ : ∃ W1,Sd w0 w2 base g c (A ++ (W1 ++ (U2 ++ (V2 ++ B)))) ∧ W1.Perm (U1 ++ V1) ∧ iO K W1:=by
         have q0:=fa.out
         have q1 : U1 = [] ∨ V1 = []:=by
          rcases dJ (p:=a < i) (q:=i < mid) with ⟨b1,b2⟩ | ⟨b1,b2⟩ | b1
          ·simp [b1,b2] at mN
          ·right;exact List.eq_nil_of_length_eq_zero (by have:=q0.l5;omega)
          ·left;exact List.eq_nil_of_length_eq_zero (by have:=q0.l1;omega)
         refine ⟨U1 ++ V1,by have h9:=Hy.out;rw [List.append_assoc];exact h9,List.Perm.refl _,?_⟩
         rcases q1 with q1 | q1
         ·rw [q1];simpa using NW.out
         ·rw [q1];simpa using NV.out
        have Hz:=zh hz;clear hz mN Hy;obtain ⟨w3,rfl⟩ : ∃ z,z = w2:=⟨_,rfl⟩
        go_upto_region 43 with (fail);obtain ⟨r3,mH⟩ : ∃ z : Bool,z = (decide (mid < e) && decide (e < b)):=⟨_,rfl⟩
        have rT:=zh mH;clear mH
        go_cut [213] from 206 to 213 (fun t wx => t = .bool r3 ∧ wx = w3)
        case first =>
         rcases dJ (p:=mid < e) (q:=e < b) with ⟨b1,b2⟩ | ⟨b1,b2⟩ | b1
         ·have e9 : r3 = true:=by rw [rT.out];simp [b1,b2]
          go_wp2;go_meet
          case rel => exact ⟨by rw [e9],rfl⟩
         ·have e9 : r3 = false:=by rw [rT.out];simp [b2]
          go_wp2;go_meet
          case rel => exact ⟨by rw [e9],rfl⟩
         ·have e9 : r3 = false:=by rw [rT.out];simp [b1]
          go_wp2;go_meet
          case rel => exact ⟨by rw [e9],rfl⟩
        case rest =>
         obtain ⟨eS,lm⟩:=hcut;subst eS;have qo:=lm.symm;clear lm;subst qo;cases r3
         ·have mH:=rT.out
          obtain ⟨W2,iv,qr,kQ⟩ : ∃ W2,Sd w0 w3 base g c (A ++ (W1 ++ (W2 ++ B))) ∧ W2.Perm (U2 ++ V2) ∧ iO K W2:=by
           have q0:=fa.out
           have q1 : U2 = [] ∨ V2 = []:=by
            rcases dJ (p:=mid < e) (q:=e < b) with ⟨b1,b2⟩ | ⟨b1,b2⟩ | b1
            ·simp [b1,b2] at mH
            ·right;exact List.eq_nil_of_length_eq_zero (by have:=q0.l4;omega)
            ·left;exact List.eq_nil_of_length_eq_zero (by have:=q0.l6;omega)
           refine ⟨U2 ++ V2,by have h9:=Hz.out;rw [List.append_assoc];exact h9,List.Perm.refl _,?_⟩
           rcases q1 with q1 | q1
           ·rw [q1];simpa using Ck.out
           ·rw [q1];simpa using Cj.out
          have j7:=zh iv;obtain ⟨vM,vN⟩:=jJ HP.out yE qr vL kQ;have vO:=zh (And.intro vM vN);clear iv qr kQ vM vN mH;go_wp2
          go_end0
          refine ⟨rfl,W1 ++ W2,by have h9:=j7.out;rw [List.append_assoc];exact h9,?_,vO.out.1⟩
          rw [fa.out.u,fa.out.v];exact vO.out.2
         ·have mH:=rT.out
          have q2 : mid < e ∧ e < b:=by
           rcases dJ (p:=mid < e) (q:=e < b) with b1 | ⟨b1,b2⟩ | b1
           ·exact b1
           ·simp [b2] at mH
           ·simp [b1] at mH
          clear mH;have vP : W1.length = U1.length + V1.length:=by rw [yE.length_eq,List.length_append]
          have vQ:=zh vP;clear vP;have wJ:=zh q2;clear q2;go_wp2_with fail;refine (Tj.out (A ++ W1) U2 V2 B (A ++ (W1 ++ (U2 ++ (V2 ++ B)))) mid e b w3 (by rw [List.append_assoc]) Hz.out ?_ ?_ ?_ ?_ ?_ ?_ Cj.out Ck.out ?_ ?_).mono ?_
          ·have h8:=HI.out.hlen;have h9:=vQ.out;rw [fa.out.xs] at h8;simp only [List.length_append] at h8 ⊢
           omega
          ·have h9:=vQ.out;have h8:=fa.out.l1;have h7:=fa.out.l5;have h6:=HI.out.hal
           rw [List.length_append];omega
          ·exact fa.out.l6
          ·exact fa.out.l4
          ·have:=fa.out.l6;have:=wJ.out;omega
          ·have:=fa.out.l4;have:=wJ.out;omega
          ·intro x hx;refine HD.out x ?_;rw [fa.out.u,fa.out.v]
           rcases List.mem_append.1 hx with h9 | h9 <;> simp [h9]
          ·have h1:=HF.out;have h2:=fa.out;rw [h2.u,h2.v,List.length_append,List.length_append] at h1;have h3:=h2.l1;have h4:=h2.l5;have h5:=Ex.out;omega
          ·rintro e4 w4 ⟨rfl,W2,iv,qr,kQ⟩;have j7:=zh iv;obtain ⟨vM,vN⟩:=jJ HP.out yE qr vL kQ;have vO:=zh (And.intro vM vN);clear iv qr kQ vM vN;go_wp2
           go_end0
           refine ⟨rfl,W1 ++ W2,by have h9:=j7.out;rw [List.append_assoc] at h9 ⊢;exact h9,?_,vO.out.1⟩
           rw [fa.out.u,fa.out.v];exact vO.out.2
       ·have mN:=xf.out
        have q2 : a < i ∧ i < mid:=by
         rcases dJ (p:=a < i) (q:=i < mid) with b1 | ⟨b1,b2⟩ | b1
         ·exact b1
         ·simp [b2] at mN
         ·simp [b1] at mN
        have wJ:=zh q2;clear mN q2;go_wp2_with fail;refine (Tj.out A U1 V1 (U2 ++ (V2 ++ B)) (A ++ (U1 ++ (V1 ++ (U2 ++ (V2 ++ B))))) a i mid w2 rfl Hy.out ?_ HI.out.hal fa.out.l1 fa.out.l5 ?_ ?_ NV.out NW.out ?_ ?_).mono ?_
        ·have h8:=HI.out.hlen;rw [fa.out.xs] at h8;simp only [List.length_append] at h8 ⊢
         omega
        ·have:=fa.out.l1;have:=wJ.out;omega
        ·have:=fa.out.l5;have:=wJ.out;omega
        ·intro x hx;refine HD.out x ?_;rw [fa.out.u,fa.out.v]
         rcases List.mem_append.1 hx with h9 | h9 <;> simp [h9]
        ·have h1:=HF.out;have h2:=fa.out;rw [h2.u,h2.v,List.length_append,List.length_append] at h1;have h3:=h2.l4;have h4:=h2.l6;have h5:=Ex.out;omega
        ·rintro e3 w3 ⟨rfl,W1,hz,yE,vL⟩;have Hz:=zh hz;clear hz Hy;go_upto_region 43 with (fail);obtain ⟨r3,mH⟩ : ∃ z : Bool,z = (decide (mid < e) && decide (e < b)):=⟨_,rfl⟩
         have rT:=zh mH;clear mH
         go_cut [213] from 206 to 213 (fun t wx => t = .bool r3 ∧ wx = w3)
         case first =>
          rcases dJ (p:=mid < e) (q:=e < b) with ⟨b1,b2⟩ | ⟨b1,b2⟩ | b1
          ·have e9 : r3 = true:=by rw [rT.out];simp [b1,b2]
           go_wp2;go_meet
           case rel => exact ⟨by rw [e9],rfl⟩
          ·have e9 : r3 = false:=by rw [rT.out];simp [b2]
           go_wp2;go_meet
           case rel => exact ⟨by rw [e9],rfl⟩
          ·have e9 : r3 = false:=by rw [rT.out];simp [b1]
           go_wp2;go_meet
           case rel => exact ⟨by rw [e9],rfl⟩
         case rest =>
          obtain ⟨eS,lm⟩:=hcut;subst eS;have qo:=lm.symm;clear lm;subst qo;cases r3
          ·have mH:=rT.out
           obtain ⟨W2,iv,qr,kQ⟩ : ∃ W2,Sd w0 w3 base g c (A ++ (W1 ++ (W2 ++ B))) ∧ W2.Perm (U2 ++ V2) ∧ iO K W2:=by
            have q0:=fa.out
            have q1 : U2 = [] ∨ V2 = []:=by
             rcases dJ (p:=mid < e) (q:=e < b) with ⟨b1,b2⟩ | ⟨b1,b2⟩ | b1
             ·simp [b1,b2] at mH
             ·right;exact List.eq_nil_of_length_eq_zero (by have:=q0.l4;omega)
             ·left;exact List.eq_nil_of_length_eq_zero (by have:=q0.l6;omega)
            refine ⟨U2 ++ V2,by have h9:=Hz.out;rw [List.append_assoc];exact h9,List.Perm.refl _,?_⟩
            rcases q1 with q1 | q1
            ·rw [q1];simpa using Ck.out
            ·rw [q1];simpa using Cj.out
           have j7:=zh iv;obtain ⟨vM,vN⟩:=jJ HP.out yE qr vL kQ;have vO:=zh (And.intro vM vN);clear iv qr kQ vM vN mH;go_wp2
           go_end0
           refine ⟨rfl,W1 ++ W2,by have h9:=j7.out;rw [List.append_assoc];exact h9,?_,vO.out.1⟩
           rw [fa.out.u,fa.out.v];exact vO.out.2
          ·have mH:=rT.out
           have q2 : mid < e ∧ e < b:=by
            rcases dJ (p:=mid < e) (q:=e < b) with b1 | ⟨b1,b2⟩ | b1
            ·exact b1
            ·simp [b2] at mH
            ·simp [b1] at mH
           clear mH;have vP : W1.length = U1.length + V1.length:=by rw [yE.length_eq,List.length_append]
           have vQ:=zh vP;clear vP;have wJ:=zh q2;clear q2;go_wp2_with fail;refine (Tj.out (A ++ W1) U2 V2 B (A ++ (W1 ++ (U2 ++ (V2 ++ B)))) mid e b w3 (by rw [List.append_assoc]) Hz.out ?_ ?_ ?_ ?_ ?_ ?_ Cj.out Ck.out ?_ ?_).mono ?_
           ·have h8:=HI.out.hlen;have h9:=vQ.out;rw [fa.out.xs] at h8;simp only [List.length_append] at h8 ⊢
            omega
           ·have h9:=vQ.out;have h8:=fa.out.l1;have h7:=fa.out.l5;have h6:=HI.out.hal
            rw [List.length_append];omega
           ·exact fa.out.l6
           ·exact fa.out.l4
           ·have:=fa.out.l6;have:=wJ.out;omega
           ·have:=fa.out.l4;have:=wJ.out;omega
           ·intro x hx;refine HD.out x ?_;rw [fa.out.u,fa.out.v]
            rcases List.mem_append.1 hx with h9 | h9 <;> simp [h9]
           ·have h1:=HF.out;have h2:=fa.out;rw [h2.u,h2.v,List.length_append,List.length_append] at h1;have h3:=h2.l1;have h4:=h2.l5;have h5:=Ex.out;omega
           ·rintro e4 w4 ⟨rfl,W2,iv,qr,kQ⟩;have j7:=zh iv;obtain ⟨vM,vN⟩:=jJ HP.out yE qr vL kQ;have vO:=zh (And.intro vM vN);clear iv qr kQ vM vN;go_wp2
            go_end0
            refine ⟨rfl,W1 ++ W2,by have h9:=j7.out;rw [List.append_assoc] at h9 ⊢;exact h9,?_,vO.out.1⟩
            rw [fa.out.u,fa.out.v];exact vO.out.2
theorem zK (w0 : World) (base g c N : Nat) (dR : FuncId) (cS : Array Value) (K : Int → Int) (D : Int → Prop) (hc : Gf w0 g dR cS K D) (hl : N ≤ 1000000) : ∀ (F : Nat) (A U V B xs : List Int) (a m b : Nat) (w : World),xs = A ++ (U ++ (V ++ B)) → Sd w0 w base g c xs → xs.length = N → A.length = a → a + U.length = m → m + V.length = b → 0 < U.length → 0 < V.length → iO K U → iO K V → (∀ x ∈ U ++ V,D x) → U.length + V.length ≤ F →
  Calls Tryz.prog 237 #[.slice (some ⟨g,0,none⟩) N c,.int .i64 a,.int .i64 m,.int .i64 b,.func (.func dR) #[] cS] w fun e w' => e = .returned (.tuple #[]) ∧ ∃ W,Sd w0 w' base g c (A ++ (W ++ B)) ∧ W.Perm (U ++ V) ∧ iO K W:=by
 intro F
 induction F with
 | zero => intro A U V B xs a m b w _ _ _ _ _ _ h1 h2 _ _ _ h3;omega
 | succ F ih =>
  intro A U V B xs a m b w hx hs hN ha hm hb hU hV sU sV hD hF
  by_cases h : U.length = 1 ∨ V.length = 1
  ·exact vK w0 base g c N dR cS K D hc hl A U V B xs a m b w hx hs hN ha hm hb hU hV sU sV hD h
  ·exact zJ w0 base g c N F dR cS K D hc hl ih A U V B xs a m b w hx hs hN ha hm hb (by omega) (by omega) sU sV hD hF
structure Iz (w0 : World) (g : Nat) (dR : FuncId) (cS : Array Value) (K : Int → Int) (D : Int → Prop) : Prop where
 call : ∀ x y,D x → D y → ∀ W,aU [g] w0 W → Calls Tryz.prog dR (#[.int .i64 x,.int .i64 y] ++ cS) W fun e w' => e = .returned (.int .i64 (K x - K y)) ∧ Below W.heap.size W w'
 enter : ∀ args w,(callFunc dR args).run Tryz.prog w = .ok (.enter dR args) w
theorem Iz.on {w0 : World} {g : Nat} {dR : FuncId} {cS : Array Value} {K : Int → Int} {D : Int → Prop} (h : Iz w0 g dR cS K D) : Gf w0 g dR cS K D:=
 ⟨fun x y hx hy W hW => (h.call x y hx hy W hW).mono fun e w' ⟨h1,h2⟩ => ⟨_,h1,by omega,h2⟩,h.enter⟩
theorem pi (w0 w : World) (base g c N : Nat) (dR : FuncId) (cS : Array Value) (K : Int → Int) (D : Int → Prop) (hc : Iz w0 g dR cS K D) (hl : N ≤ 1000000) (A U B xs : List Int) (a b : Nat) (hx : xs = A ++ (U ++ B)) (hs : Sd w0 w base g c xs) (hN : xs.length = N) (ha : A.length = a) (hb : a + U.length = b) (hD : ∀ x ∈ U,D x) :
  Calls Tryz.prog 236 #[.slice (some ⟨g,0,none⟩) N c,.int .i64 a,.int .i64 b,.func (.func dR) #[] cS] w fun e w' => e = .returned (.tuple #[]) ∧ ∃ W,Sd w0 w' base g c (A ++ (W ++ B)) ∧ W.Perm U ∧ iO K W:=by
 have eg:=hc.enter;have Hc:=zh hc;have Hs:=zh hs;have HD:=zh hD;have Hx:=zh hx
 have Gv : A.length + U.length + B.length = N:=by rw [← hN,hx];simp only [List.length_append];omega
 have Pq : b ≤ N:=by omega
 have Ha:=zh ha;have Hb:=zh hb;have KP:=zh Gv;have m1 : IntKind.i64.wrap ((a : Int) + 1) = ((a + 1 : Nat) : Int):=Ew (by omega);have pt : a ≤ b:=by omega
 clear hc hs hD hx hN ha hb Gv
 go_enter Tryz.func236,Tryz.ntmps236
 obtain ⟨a1,Re⟩ : ∃ z,z = a + 1:=⟨_,rfl⟩
 rw [← Re] at m1;have Yl:=zh Re;clear Re;go_wp2
 go_loopw [8] (fun ti wr => ∃ (i : Nat) (T : List Int),ti = .int .i64 i ∧ a < i ∧ (i ≤ b ∨ i = a + 1) ∧ Sd w0 wr base g c (A ++ (T ++ (U.drop (i - a) ++ B))) ∧ T.Perm (U.take (i - a)) ∧ iO K T) (fun ti _ => b - (intOf ti).toNat)
 case atStart =>
  refine ⟨a1,U.take 1,rfl,by have:=Yl.out;omega,.inr Yl.out,?_,by rw [Yl.out,show a + 1 - a = 1 by omega],?_⟩
  ·rw [Yl.out,show a + 1 - a = 1 by omega]
   have h9:=Hs.out;rw [Hx.out] at h9;rw [← List.append_assoc (U.take 1),List.take_append_drop];exact h9
  ·cases U with
   | nil => simp
   | cons x U => simp
 case round =>
  obtain ⟨i,T,rfl,hi,hib,dE,hp,gE⟩:=hrel;have cw:=zh dE;have Hp:=zh hp;have pd:=zh gE;have Hib:=zh hib;clear dE hp gE hib
  by_cases hlt : i < b
  ·have hiU : i - a < U.length:=by have:=Hb.out;omega
   obtain ⟨x,hx⟩ : ∃ z,z = U[i - a]:=⟨_,rfl⟩
   obtain ⟨R,hR⟩ : ∃ z,z = U.drop (i - a + 1) ++ B:=⟨_,rfl⟩
   have Rv : T.length = i - a:=by rw [Hp.out.length_eq,List.length_take];omega
   have hS0 : Sd w0 wr base g c (eu A x T R T.length):=by
    rw [Ce];have h9:=cw.out;rw [List.drop_eq_getElem_cons hiU,← hx] at h9;rw [hR];simpa using h9
   have hxU : x ∈ U:=by rw [hx];exact List.getElem_mem hiU
   have hTD : ∀ y ∈ T,D y:=fun y hy => HD.out y (List.mem_of_mem_take ((Hp.out.mem_iff).1 hy))
   have hlen : ∀ t,(eu A x T R t).length = N:=fun t => by
    rw [← KP.out];unfold eu;simp only [List.length_append,List.length_cons,List.length_take,List.length_drop]
    rw [hR,List.length_append,List.length_drop];omega
   have ot:=zh hS0;have HxD:=zh (HD.out x hxU);have HTD:=zh hTD;have eZ:=zh hlen;have HTl:=zh Rv;have Hxx:=zh hx;have HR:=zh hR;have m2 : IntKind.i64.wrap ((i : Int) + 1) = ((i + 1 : Nat) : Int):=Ew (by omega);clear hS0 hxU hTD hlen Rv hx hR;obtain ⟨wo,rfl⟩ : ∃ z,z = wr:=⟨_,rfl⟩
   go_upto_region 4 with (fail)
   go_loopw [9] (fun tj wr => ∃ (t : Nat),tj = .int .i64 ((a + t : Nat) : Int) ∧ t ≤ T.length ∧ (t = T.length ∨ K x ≤ K (T.getD t 0)) ∧ Sd w0 wr base g c (eu A x T R t)) (fun tj _ => (intOf tj).toNat)
   case atStart => exact ⟨T.length,by rw [HTl.out,show a + (i - a) = i by omega],Nat.le_refl _,.inl rfl,ot.out⟩
   case round =>
    obtain ⟨t,rfl,ht,IU,iB⟩:=hrel;have eY:=zh iB;have Htk:=zh IU;clear iB IU
    have hiN : a + T.length < N:=by have:=HTl.out;omega
    obtain ⟨w1,rfl⟩ : ∃ z,z = wr:=⟨_,rfl⟩
    have fin : ∀ (w2 : World),Sd w0 w2 base g c (eu A x T R t) → (t = 0 ∨ K (T.getD (t - 1) 0) ≤ K x) → Sd w0 w2 base g c (A ++ ((T.take t ++ x :: T.drop t) ++ (U.drop (i + 1 - a) ++ B))) ∧ (T.take t ++ x :: T.drop t).Perm (U.take (i + 1 - a)) ∧ iO K (T.take t ++ x :: T.drop t):=fun w2 h1 h2 => by
     refine ⟨?_,?_,?_⟩
     ·unfold eu at h1;rw [HR.out] at h1;rw [show i + 1 - a = i - a + 1 by omega]
      simp only [List.append_assoc,List.cons_append] at h1 ⊢
      exact h1
     ·refine (vF x T t).trans ?_;rw [show i + 1 - a = i - a + 1 by omega,List.take_succ_eq_append_getElem hiU,← Hxx.out]
      exact List.perm_append_comm.trans (Hp.out.append_right _)
     ·refine zE pd.out ht ?_ ?_
      ·rcases h2 with h2 | h2
       ·exact .inl h2
       ·by_cases e0 : t = 0
        ·exact .inl e0
        ·refine .inr ⟨by omega,?_⟩;rw [getD_lt (by omega)] at h2;exact h2
      ·rcases Htk.out with h2 | h2
       ·exact .inl h2
       ·by_cases e0 : t = T.length
        ·exact .inl e0
        ·refine .inr ⟨by omega,?_⟩;rw [getD_lt (by omega)] at h2;exact h2
    have Ee:=zh fin;clear fin
    by_cases h0 : t = 0
    ·subst h0;have e9 : decide (((a + 0 : Nat) : Int) > (a : Int)) = false:=by simp
     have e8 : decide ((a : Int) < ((a + 0 : Nat) : Int)) = false:=by simp
     go_upto_region 4 with (fail);refine ao 17 (aa w1) (by kernel_rfl) (by kernel_rfl) (by simp) (ak (ad _)) ?_;simp only [zT]
     iterate 4 (apply ag rfl;(intro W hW;go_simp;with_reducible rfl);simp only [zA])
     iterate 12 (refine km rfl rfl (by simp [*]) ?_;simp only [zA])
     (first | refine bJ rfl rfl ?_ | (apply ag rfl;(intro W hW;go_simp;with_reducible rfl)));simp only [zA]
     intro W hW;obtain ⟨f1,f2,f3⟩:=Ee.out W (eY.out.since hW) (.inl rfl);have Hf:=zh (And.intro f1 (And.intro f2 f3));clear f1 f2 f3 hW;obtain ⟨i1,pp⟩ : ∃ z,z = i + 1:=⟨_,rfl⟩
     rw [← pp] at m2 Hf;have Rw:=zh pp;clear pp;go_wp2;go_roundw
     case rel => exact ⟨i1,_,by first | rfl | go_num,by have:=Rw.out;omega,.inl (by have:=Rw.out;omega),Hf.out⟩
     case measure => have:=Rw.out;simp [intOf];omega
    ·obtain ⟨r,rfl⟩ : ∃ r,t = r + 1:=⟨t - 1,by omega⟩
     have kD:=eY.out
     have c1:=kD.keepCell (k:=a + (r + 1)) (by rw [eZ.out];omega)
     have c2:=kD.keepCell (k:=a + r) (by rw [eZ.out];omega)
     have f1:=kD.own.free (a + (r + 1));have f2:=kD.own.free (a + r);have iA:=kD.swap (a + (r + 1)) (a + r)
     rw [show swp (eu A x T R (r + 1)) (a + (r + 1)) (a + r) = eu A x T R r by rw [← Ha.out];exact rS A x T R (by omega)] at iA
     have g1 : (eu A x T R (r + 1)).getD (a + (r + 1)) 0 = x:=by
      unfold eu
      rw [← Ha.out,← List.append_assoc,zDd,List.getElem?_append_right (by rw [List.length_append,List.length_take];omega),show A.length + (r + 1) - (A ++ T.take (r + 1)).length = 0 by rw [List.length_append,List.length_take];omega]
      rfl
     have g2 : (eu A x T R (r + 1)).getD (a + r) 0 = T.getD r 0:=by
      unfold eu
      rw [← Ha.out,yD (by rw [List.length_take];omega),zDd,zDd,List.getElem?_take_of_lt (by omega)]
     rw [g1] at c1 iA;rw [g2] at c2 iA;obtain ⟨y,hy⟩ : ∃ z,z = T.getD r 0:=⟨_,rfl⟩
     have hyT : y ∈ T:=by rw [hy];exact jf (by omega)
     rw [← hy] at c2 iA;have Hy:=zh hy;have HyD:=zh (HTD.out y hyT);have bj : a + (r + 1) < N:=by omega
     have b_ : a + r < N:=by omega
     have e9 : decide ((a : Int) < ((a + (r + 1) : Nat) : Int)) = true:=by simp;omega
     have m3 : IntKind.i64.wrap (((a + (r + 1) : Nat) : Int) - 1) = ((a + r : Nat) : Int):=by rw [aL _ (by omega) (by omega)];omega
     obtain ⟨p,hp⟩ : ∃ z,z = a + (r + 1):=⟨_,rfl⟩
     obtain ⟨q,hq⟩ : ∃ z,z = a + r:=⟨_,rfl⟩
     have hap : a < p:=by omega
     rw [← hp] at c1 f1 bj m3 iA e9 ⊢;rw [← hq] at c2 f2 b_ m3 iA;have Ad:=zh iA;have C3:=zh (And.intro hp hq);have xj : p ≠ q:=by omega
     clear iA kD hy hyT g1 g2 hp hq;go_upto_region 4 with (fail);refine ao 17 (aa w1) (by kernel_rfl) (by kernel_rfl) (by simp) (ak (ad _)) ?_;simp only [zT]
     iterate 4 (apply ag rfl;(intro W hW;go_simp;with_reducible rfl);simp only [zA])
     iterate 4 (apply aj rfl rfl;(intro hb;intro W hW;go_simp;with_reducible rfl);simp only [zA])
     apply aj rfl rfl;(intro hb;intro W hW;have k1:=c1 W hW;go_simp;with_reducible rfl);simp only [zA]
     iterate 4 (apply aj rfl rfl;(intro hb;intro W hW;go_simp;with_reducible rfl);simp only [zA])
     apply aj rfl rfl;(intro hb;intro W hW;have k2:=c2 W hW;go_simp;with_reducible rfl);simp only [zA]
     refine bC (v:=?_) rfl rfl ?_ ?_;rotate_left;(intro hb;intro W hW;unfold bG;go_simp;(with_reducible refine (Hc.out.call x y HxD.out HyD.out W (eY.out.since hW).only).mono ?_);rintro e W' ⟨rfl,bg⟩;first | (refine ⟨?_,aa.trans hW bg⟩;with_reducible rfl) | (subst bg;refine ⟨?_,hW⟩;with_reducible rfl))
     simp only [zA]
     apply aj rfl rfl;(intro hb;intro W hW;go_simp;with_reducible rfl);simp only [zA]
     (first | refine bJ rfl rfl ?_ | (apply ag rfl;(intro W hW;go_simp;with_reducible rfl)));simp only [zA]
     intro W hW;obtain ⟨z,hz⟩ : ∃ z,z = K x - K y:=⟨_,rfl⟩
     rw [← hz];have ro:=eY.out.since hW;have Vx:=zh (ro.swap (a + (r + 1)) (a + r));have nd:=zh ro;have d1:=c1 W hW;have d2:=c2 W hW;have f1:=ro.own.free p;have f2:=ro.own.free q;clear ro hW c1 c2 eY
     by_cases jz : K x < K y
     ·have e7 : (z < 0) = True:=eq_true (by rw [hz];exact Int.sub_neg_of_lt jz)
      have e7c : (true && decide (z < 0)) = true:=by rw [decide_eq_true (of_eq_true e7)];rfl
      rw [e7c];clear hz
      have Lc : Hid (Sd w0 ((W.setCell ⟨g,p,none⟩ (.int .i64 y)).setCell ⟨g,q,none⟩ (.int .i64 x)) base g c (eu A x T R r)):=by
       show Sd _ _ _ _ _ _
       have h9:=Vx.out
       rw [show swp (eu A x T R (r + 1)) (a + (r + 1)) (a + r) = eu A x T R r by rw [← Ha.out];exact rS A x T R (by omega)] at h9
       have g1 : (eu A x T R (r + 1)).getD (a + (r + 1)) 0 = x:=by
        unfold eu
        rw [← Ha.out,← List.append_assoc,zDd,List.getElem?_append_right (by rw [List.length_append,List.length_take];omega),show A.length + (r + 1) - (A ++ T.take (r + 1)).length = 0 by rw [List.length_append,List.length_take];omega]
        rfl
       have g2 : (eu A x T R (r + 1)).getD (a + r) 0 = y:=by
        unfold eu
        rw [← Ha.out,yD (by rw [List.length_take];omega),Hy.out,zDd,zDd,List.getElem?_take_of_lt (by omega)]
       rw [g1,g2,← C3.out.1,← C3.out.2] at h9;exact h9
      clear Vx Ad;go_upto_region 6 with (fail)
      go_region
      obtain ⟨w2,dK⟩ : ∃ z,z = (W.setCell ⟨g,p,none⟩ (.int .i64 y)).setCell ⟨g,q,none⟩ (.int .i64 x):=⟨_,rfl⟩
      rw [← dK] at Lc ⊢;clear dK d1 d2 f1 f2;go_wp2;go_roundw
      case rel => exact ⟨r,by rw [C3.out.2];first | done | rfl | go_num,by omega,.inr (by rw [← Hy.out];omega),Lc.out.drew⟩
      case measure => have:=C3.out;first | (simp [intOf];done) | (simp [intOf];omega)
     ·have e7 : (z < 0) = False:=eq_false (fun h9 => jz (Int.lt_of_sub_neg (hz ▸ h9)))
      have e7b : decide (z < 0) = false:=decide_eq_false (fun h9 => jz (Int.lt_of_sub_neg (hz ▸ h9)))
      have e7c : (true && decide (z < 0)) = false:=by rw [e7b];rfl
      rw [e7c];clear hz
      obtain ⟨z1,z2,z3⟩:=Ee.out W nd.out (.inr (by rw [show r + 1 - 1 = r by omega,← Hy.out];exact Int.not_lt.1 jz))
      have Hf:=zh (And.intro z1 (And.intro z2 z3));clear z1 z2 z3 d1 d2 f1 f2;obtain ⟨i1,pp⟩ : ∃ z,z = i + 1:=⟨_,rfl⟩
      rw [← pp] at m2 Hf;have Rw:=zh pp;clear pp;clear HxD HTD eZ HTl Hxx HR Ee Htk;go_wp2;go_roundw
      case rel => exact ⟨i1,_,by first | rfl | go_num,by have:=Rw.out;omega,.inl (by have:=Rw.out;omega),Hf.out⟩
      case measure => have:=Rw.out;first | (simp [intOf];done) | (simp [intOf];omega)
  ·have X_:=zh hlt
   have fA : ∃ W,Sd w0 wr base g c (A ++ (W ++ B)) ∧ W.Perm U ∧ iO K W:=by
    have hd : U.length ≤ i - a:=by have:=Hb.out;omega
    refine ⟨T,?_,?_,pd.out⟩
    ·have h9:=cw.out;rw [List.drop_eq_nil_of_le hd] at h9;simpa using h9
    ·have h9:=Hp.out;rw [List.take_of_length_le hd] at h9;exact h9
   have Ee:=zh fA;clear fA;go_wp2
   go_end0
   exact ⟨rfl,Ee.out⟩
def Two (K : Int → Int) (L : List Int) : Prop:=∃ S1 S2,L = S1 ++ S2 ∧ S1.length = 20 ∧ 0 < S2.length ∧ iO K S1 ∧ iO K S2
structure Tk (K : Int → Int) (xs : List Int) (N r : Nat) (S R : List Int) : Prop where
 le : 20 * r ≤ N
 len : S.length = 20 * r
 perm : (S ++ R).Perm xs
 one : r = 1 → iO K S
 two : r = 2 → ∃ S1 S2,S = S1 ++ S2 ∧ S1.length = 20 ∧ S2.length = 20 ∧ iO K S1 ∧ iO K S2
theorem Tk.next {K : Int → Int} {xs : List Int} {N r : Nat} {S R W R2 : List Int} (h : Tk K xs N r S R) (hN : N ≤ 40) (n9 : 20 * r + 20 ≤ N) (hR : R = R.take 20 ++ R2) (hW : W.Perm (R.take 20)) (hs : iO K W) (Vy : W.length = 20) : Tk K xs N (r + 1) (S ++ W) R2:=by
 refine ⟨by omega,by rw [List.length_append,h.len,Vy];omega,?_,fun e => ?_,fun e => ?_⟩
 ·refine List.Perm.trans ?_ h.perm;rw [List.append_assoc];refine List.Perm.append_left S ?_
  conv => rhs;rw [hR]
  exact hW.append_right R2
 ·have : S = []:=List.eq_nil_of_length_eq_zero (by rw [h.len];omega)
  rw [this];exact hs
 ·exact ⟨S,W,rfl,by rw [h.len];omega,Vy,h.one (by omega),hs⟩
theorem Tk.fin {K : Int → Int} {xs : List Int} {N r : Nat} {S R W : List Int} (h : Tk K xs N r S R) (hN : N ≤ 40) (hx : xs.length = N) (hlt : N < 20 * r + 20) (hW : W.Perm R) (hs : iO K W) : (S ++ W).Perm xs ∧ ((N ≤ 20 ∧ iO K (S ++ W)) ∨ (20 < N ∧ Two K (S ++ W))):=by
 have hp : (S ++ W).Perm xs:=(List.Perm.append_left S hW).trans h.perm;refine ⟨hp,?_⟩;have hl : S.length + W.length = N:=by rw [← List.length_append,hp.length_eq,hx]
 have h1:=h.len;have h2:=h.le;rcases (show r = 0 ∨ r = 1 ∨ r = 2 by omega) with e | e | e
 ·subst e
  have : S = []:=List.eq_nil_of_length_eq_zero (by omega)
  exact .inl ⟨by omega,by rw [this];exact hs⟩
 ·subst e
  by_cases e0 : N = 20
  ·have : W = []:=List.eq_nil_of_length_eq_zero (by omega)
   exact .inl ⟨by omega,by rw [this,List.append_nil];exact h.one rfl⟩
  ·exact .inr ⟨by omega,S,W,rfl,by omega,by omega,h.one rfl,hs⟩
 ·subst e;obtain ⟨S1,S2,q1,q2,q3,q4,q5⟩:=h.two rfl
  have : W = []:=List.eq_nil_of_length_eq_zero (by omega)
  refine .inr ⟨by omega,S1,S2,by rw [this,List.append_nil];exact q1,q2,by omega,q4,q5⟩
theorem Ey (w0 w : World) (base g c N : Nat) (dR : FuncId) (cS : Array Value) (K : Int → Int) (D : Int → Prop) (hc : Iz w0 g dR cS K D) (hl : N ≤ 40) (xs : List Int) (hs : Sd w0 w base g c xs) (hN : xs.length = N) (hD : ∀ x ∈ xs,D x) :
  Calls Tryz.prog 224 #[.slice (some ⟨g,0,none⟩) N c,.int .i64 N,.func (.func dR) #[] cS] w fun e w' => e = .returned (.tuple #[]) ∧ ∃ W,Sd w0 w' base g c W ∧ W.Perm xs ∧ iO K W:=by
 have Hc:=zh hc;have Hs:=zh hs;have HD:=zh hD;have HN:=zh hN;clear hc hs hD hN
 go_enter Tryz.func224,Tryz.ntmps224
 go_wp2
 go_loopw [7,8] (fun ta tb wr => ∃ (r : Nat) (S R : List Int),ta = .int .i64 ((20 * r : Nat) : Int) ∧ tb = .int .i64 ((20 * r + 20 : Nat) : Int) ∧ Tk K xs N r S R ∧ Sd w0 wr base g c (S ++ R)) (fun ta _ _ => 100 - (intOf ta).toNat)
 case atStart => exact ⟨0,[],xs,rfl,rfl,⟨by omega,rfl,List.Perm.refl _,fun e => by omega,fun e => by omega⟩,Hs.out⟩
 case round =>
  obtain ⟨r,S,R,rfl,rfl,hB,hs⟩:=hrel;have mN:=hB.le;have HB:=zh hB;have cw:=zh hs;clear hB hs;obtain ⟨a,ha⟩ : ∃ z,z = 20 * r:=⟨_,rfl⟩
  obtain ⟨b,hb⟩ : ∃ z,z = 20 * r + 20:=⟨_,rfl⟩
  have m1 : IntKind.i64.wrap ((b : Int) + 20) = ((b + 20 : Nat) : Int):=by rw [aL _ (by omega) (by omega)];omega
  obtain ⟨b2,b_⟩ : ∃ z,z = b + 20:=⟨_,rfl⟩
  rw [← b_] at m1;rw [← hb,← ha];have MC:=zh (And.intro ha (And.intro hb b_));have s_ : a ≤ N:=by omega
  clear ha hb b_ mN;have hdn : ∀ x ∈ R,D x:=fun x hx => HD.out x ((HB.out.perm.mem_iff).1 (List.mem_append_right _ hx))
  have Hdn:=zh hdn;have hSR : S.length + R.length = N:=by rw [← List.length_append,HB.out.perm.length_eq,HN.out]
  have HSR:=zh hSR;clear hdn hSR
  by_cases n9 : b ≤ N
  ·have aan : ((b : Int) ≤ (N : Int)) = True:=by simp;omega
   go_wp2_with fail
   refine (pi w0 wr base g c N dR cS K D Hc.out (by omega) S (R.take 20) (R.drop 20) (S ++ R) a b (by rw [List.take_append_drop]) cw.out (by rw [HB.out.perm.length_eq,HN.out]) (by rw [HB.out.len];exact MC.out.1.symm) ?_ ?_).mono ?_
   ·have h1:=HSR.out;have h2:=HB.out.len;have h3:=MC.out
    rw [List.length_take];omega
   ·intro x hx;exact Hdn.out x (List.mem_of_mem_take hx)
   ·rintro e w2 ⟨rfl,W,rD,Tl,Ld⟩
    have Vy : W.length = 20:=by
     have h1:=HSR.out;have h2:=HB.out.len;have h3:=MC.out
     rw [Tl.length_eq,List.length_take];omega
    have vx:=zh (HB.out.next hl (by have h3:=MC.out;omega) (List.take_append_drop 20 R).symm Tl Ld Vy)
    have eY : Hid (Sd w0 w2 base g c ((S ++ W) ++ R.drop 20)):=by show Sd _ _ _ _ _ _;rw [List.append_assoc];exact rD
    clear rD Tl Ld Vy;go_wp2;go_roundw
    case rel => exact ⟨r + 1,S ++ W,R.drop 20,by have h3:=MC.out;rw [h3.2.1,show 20 * (r + 1) = 20 * r + 20 by omega],by have h3:=MC.out;rw [h3.2.2,h3.2.1,show 20 * (r + 1) + 20 = 20 * r + 20 + 20 by omega],vx.out,eY.out⟩
    case measure => have h3:=MC.out;simp [intOf];omega
  ·have aan : ((b : Int) ≤ (N : Int)) = False:=by simp;omega
   go_wp2_with fail
   refine (pi w0 wr base g c N dR cS K D Hc.out (by omega) S R [] (S ++ R) a N (by rw [List.append_nil]) cw.out (by rw [HB.out.perm.length_eq,HN.out]) (by rw [HB.out.len];exact MC.out.1.symm) ?_ Hdn.out).mono ?_
   ·have h1:=HSR.out;have h2:=HB.out.len;have h3:=MC.out;omega
   ·rintro e w2 ⟨rfl,W,rD,Tl,Ld⟩
    obtain ⟨f1,f2⟩:=HB.out.fin hl HN.out (by have h3:=MC.out;omega) Tl Ld
    rw [List.append_nil] at rD;obtain ⟨L,hL⟩ : ∃ z,z = S ++ W:=⟨_,rfl⟩
    rw [← hL] at f1 f2 rD;have Hf:=zh (And.intro f1 (And.intro f2 rD));clear f1 f2 rD hL Tl Ld;obtain ⟨wq,rfl⟩ : ∃ z,z = w2:=⟨_,rfl⟩
    go_wp2
    go_loopw [6,7,8,9] (fun t6 _ _ _ wr => (t6 = .int .i64 20 ∧ ∃ L,L.Perm xs ∧ ((N ≤ 20 ∧ iO K L) ∨ (20 < N ∧ Two K L)) ∧ Sd w0 wr base g c L) ∨ (t6 = .int .i64 40 ∧ ∃ L,L.Perm xs ∧ iO K L ∧ Sd w0 wr base g c L)) (fun t6 _ _ _ _ => 50 - (intOf t6).toNat)
    case atStart => exact .inl ⟨rfl,L,Hf.out.1,Hf.out.2.1,Hf.out.2.2⟩
    case round =>
     rcases hrel with ⟨rfl,L1,p1,(⟨q1,q2⟩ | ⟨q1,S1,S2,q2,q3,q4,q5,q6⟩),q7⟩ | ⟨rfl,L1,p1,q2,q7⟩
     ·have Hq:=zh (And.intro p1 (And.intro q2 q7));have hng : ¬ (20 : Int) < (N : Int):=by omega
      clear p1 q2 q7;go_wp2
      go_end0
      exact ⟨rfl,L1,Hq.out.2.2,Hq.out.1,Hq.out.2.1⟩
     ·have Hq:=zh (And.intro p1 (And.intro q2 (And.intro q3 (And.intro q4 (And.intro q5 (And.intro q6 q7))))));have hng : (20 : Int) < (N : Int):=by omega
      have h2l : 20 + S2.length = N:=by rw [← HN.out,← p1.length_eq,q2,List.length_append,q3]
      have H2l:=zh h2l
      have hDD : ∀ x ∈ S1 ++ S2,D x:=fun x hx => HD.out x (p1.mem_iff.1 (by rw [q2];exact hx))
      have HDD:=zh hDD;clear p1 q2 q3 q4 q5 q6 q7 h2l hDD;obtain ⟨wv,rfl⟩ : ∃ z,z = wr:=⟨_,rfl⟩
      have n8 : ∀ (W0 : World),Sd w0 W0 base g c L1 → Calls Tryz.prog 237 #[.slice (some ⟨g,0,none⟩) N c,.int .i64 0,.int .i64 20,.int .i64 N,.func (.func dR) #[] cS] W0 fun e w' => e = .returned (.tuple #[]) ∧ ∃ W,Sd w0 w' base g c W ∧ W.Perm xs ∧ iO K W:=fun W0 h0 => by
       have h9:=zK w0 base g c N dR cS K D Hc.out.on (by omega) (S1.length + S2.length) [] S1 S2 [] L1 0 20 N W0 (by rw [Hq.out.2.1];simp) h0 (by rw [Hq.out.1.length_eq,HN.out]) rfl (by rw [Hq.out.2.2.1]) H2l.out (by rw [Hq.out.2.2.1];omega) Hq.out.2.2.2.1 Hq.out.2.2.2.2.1 Hq.out.2.2.2.2.2.1 HDD.out (Nat.le_refl _)
       refine h9.mono ?_;rintro e w' ⟨rfl,W,z1,z2,z3⟩
       exact ⟨rfl,W,by simpa using z1,by rw [← Hq.out.2.1] at z2;exact z2.trans Hq.out.1,z3⟩
      have Vz:=zh n8;clear n8;have Yc : Hid (Sd w0 wv base g c L1):=Hq.out.2.2.2.2.2.2;go_wp2
      go_loopw [7,8] (fun ta tb wr => (ta = .int .i64 0 ∧ tb = .int .i64 40 ∧ Sd w0 wr base g c L1) ∨ (N = 40 ∧ ta = .int .i64 40 ∧ tb = .int .i64 80 ∧ ∃ W,Sd w0 wr base g c W ∧ W.Perm xs ∧ iO K W)) (fun _ tb _ => 100 - (intOf tb).toNat)
      case atStart => exact .inl ⟨rfl,rfl,Yc.out⟩
      case round =>
       rcases hrel with ⟨rfl,rfl,hs⟩ | ⟨NX,rfl,rfl,W,z1,z2,z3⟩
       ·have nd:=zh hs;clear hs
        by_cases h40 : N = 40
        ·have h41 : (40 : Int) ≤ (N : Int):=by omega
         have h42 : 40 ≤ N:=by omega
         have hk:=Vz.out wr nd.out;rw [show ((N : Nat) : Int) = 40 by omega] at hk
         have Hk:=zh hk;have H40:=zh h40;clear hk h40;go_wp2_with fail;refine Hk.out.mono ?_;rintro e w3 ⟨rfl,W,z1,z2,z3⟩;have Hz:=zh (And.intro z1 (And.intro z2 z3));clear z1 z2 z3;go_wp2;go_roundw
         case rel => exact .inr ⟨H40.out,by first | rfl | go_num,by first | rfl | go_num,W,Hz.out⟩
         case measure => simp [intOf]
        ·have h41 : ¬ (40 : Int) ≤ (N : Int):=by omega
         have h42 : N < 40:=by omega
         go_wp2_with fail;refine (Vz.out wr nd.out).mono ?_;rintro e w3 ⟨rfl,W,z1,z2,z3⟩;have Hz:=zh (And.intro z1 (And.intro z2 z3));clear z1 z2 z3;go_wp2;go_roundw
         case rel => exact .inr ⟨by first | rfl | go_num,W,Hz.out.2.1,Hz.out.2.2,Hz.out.1⟩
         case measure => simp [intOf]
       ·have Hz:=zh (And.intro z1 (And.intro z2 z3));clear z1 z2 z3;have h81 : ¬ (80 : Int) ≤ (N : Int):=by omega
        have h82 : N < 80:=by omega
        have h61 : ¬ (60 : Int) < (N : Int):=by omega
        have h62 : N ≤ 60:=by omega
        clear NX;go_wp2;go_roundw
        case rel => exact .inr ⟨by first | rfl | go_num,W,Hz.out.2.1,Hz.out.2.2,Hz.out.1⟩
        case measure => simp [intOf]
     ·have Hq:=zh (And.intro p1 (And.intro q2 q7));have hng : ¬ (40 : Int) < (N : Int):=by omega
      clear p1 q2 q7;go_wp2
      go_end0
      exact ⟨rfl,L1,Hq.out.2.2,Hq.out.1,Hq.out.2.1⟩
end Go.Proofs.YtgmdpppljkmabaaGreat
