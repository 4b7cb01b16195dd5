import Derived.Test.YtlfehdikgbgloaaGreatGood2
namespace Go.Proofs.YtlfehdikgbgloaaGreat
open Go.RowKit
/-- the end at a port -/
def endAt (ess : List (List (Int × Int))) (v i : Int) : Int × Int := (ess.getD v.toNat []).getD i.toNat (0, 0)
theorem port_at {w : World} {v : Value} {ess : List (List (Int × Int))} {x y : Int} (h : EndSS w v ess) (hp : hasPortB ess x y = true) :
    ∃ (k j b off c b1 off1 z : Nat) (es : List (Int × Int)) (y1 y2 : Int), x = (k : Int) ∧ y = (j : Int) ∧ v = .slice (some ⟨b, off, none⟩) ess.length c ∧ k < ess.length ∧ ess[k]? = some es ∧ j < es.length ∧ es[j]? = some (y1, y2) ∧ endAt ess x y = (y1, y2) ∧
      es.length ≤ z ∧ z ≤ 9223372036854775807 ∧ w.cell? ⟨b, off + k, none⟩ = some (.slice (some ⟨b1, off1, none⟩) es.length z) ∧ w.cell? ⟨b1, off1 + j * 2, none⟩ = some (.int .i64 y1) ∧ w.cell? ⟨b1, off1 + j * 2 + 1, none⟩ = some (.int .i64 y2) := by
  obtain ⟨A, c, rfl, hlc, hm, hA⟩ := h
  unfold hasPortB at hp
  rw [Bool.and_eq_true] at hp
  obtain ⟨p1, p2⟩ := hp
  obtain ⟨p3, p4⟩ := inB_iff.1 p1
  obtain ⟨k, rfl⟩ := Int.eq_ofNat_of_zero_le p3
  have hk : k < ess.length := by omega
  obtain ⟨es, hes⟩ := getx ess k hk
  rw [Int.toNat_natCast, getD_of hes] at p2
  obtain ⟨p5, p6⟩ := inB_iff.1 p2
  obtain ⟨j, rfl⟩ := Int.eq_ofNat_of_zero_le p5
  have hj : j < es.length := by omega
  obtain ⟨⟨y1, y2⟩, hy⟩ := getx es j hj
  obtain ⟨b, off, u, rfl, hc, hrow⟩ := hA k es hes
  obtain ⟨A1, z, rfl, hz1, hz2, hA1⟩ := hrow
  obtain ⟨b1, off1, rfl, hc1, hc2⟩ := hA1 j _ hy
  unfold maxLen at hz2
  exact ⟨k, j, b, off, c, b1, off1, z, es, y1, y2, rfl, rfl, rfl, hk, hes, hj, hy, by simp [endAt, hes, hy], hz1, by omega, hc, hc1, hc2⟩
theorem lab_at {w : World} {v : Value} {ls : List Int} (h : IntS w v ls) {x : Int} (h0 : 0 ≤ x) (h1 : x < ls.length) :
    ∃ (k b off c : Nat) (y : Int), x = (k : Int) ∧ v = .slice (some ⟨b, off, none⟩) ls.length c ∧ k < ls.length ∧ ls[k]? = some y ∧ ls.getD x.toNat 0 = y ∧ w.cell? ⟨b, off + k, none⟩ = some (.int .i64 y) := by
  obtain ⟨k, rfl⟩ := Int.eq_ofNat_of_zero_le h0
  have hk : k < ls.length := by omega
  obtain ⟨y, hy⟩ := getx ls k hk
  obtain ⟨A, c, rfl, _, _, hA⟩ := h
  obtain ⟨b, off, rfl, hc⟩ := hA k y hy
  exact ⟨k, b, off, c, y, rfl, rfl, hk, hy, by simp [hy], hc⟩
/-- in a network the end at a port is a port, and leads back -/
theorem netOk_end {n : Net} (h : netOk n = true) {v i : Int} (hp : hasPortB n.ends v i = true) :
    hasPortB n.ends (endAt n.ends v i).1 (endAt n.ends v i).2 = true ∧ endAt n.ends (endAt n.ends v i).1 (endAt n.ends v i).2 = (v, i) := by
  unfold hasPortB at hp
  rw [Bool.and_eq_true] at hp
  obtain ⟨p1, p2⟩ := hp
  obtain ⟨p3, p4⟩ := inB_iff.1 p1
  obtain ⟨k, rfl⟩ := Int.eq_ofNat_of_zero_le p3
  have hk : k < n.ends.length := by omega
  obtain ⟨es, hes⟩ := getx n.ends k hk
  rw [Int.toNat_natCast, getD_of hes] at p2
  obtain ⟨p5, p6⟩ := inB_iff.1 p2
  obtain ⟨j, rfl⟩ := Int.eq_ofNat_of_zero_le p5
  have hj : j < es.length := by omega
  obtain ⟨⟨y1, y2⟩, hy⟩ := getx es j hj
  have e : endAt n.ends (k : Int) (j : Int) = (y1, y2) := by simp [endAt, hes, hy]
  rw [e]
  unfold netOk at h
  rw [Bool.and_eq_true, List.all_eq_true] at h
  have := h.2 k (List.mem_range.2 hk)
  rw [getD_of hes] at this
  unfold rowOkB at this
  rw [Bool.and_eq_true, List.all_eq_true] at this
  have := this.2 j (List.mem_range.2 hj)
  rw [getD_of hy] at this
  unfold endOkB at this
  rw [Bool.and_eq_true] at this
  exact ⟨this.1, by simpa [eqE, endAt] using this.2⟩
theorem netOk_len {n : Net} (h : netOk n = true) : 1 ≤ n.ends.length ∧ n.ends.length ≤ 40 := by
  unfold netOk at h
  simp only [Bool.and_eq_true] at h
  have := inB_iff.1 h.1.1.1
  omega
theorem hasPort_lt {ess : List (List (Int × Int))} {v i : Int} (hp : hasPortB ess v i = true) : 0 ≤ v ∧ v < ess.length := by
  unfold hasPortB at hp
  rw [Bool.and_eq_true] at hp
  have := inB_iff.1 hp.1
  omega
/-- can two edges be crossed? -/
def mayB (ess : List (List (Int × Int))) (p q : Int × Int) : Bool := !eqE p q && !eqE (endAt ess p.1 p.2) q && !eqE (endAt ess p.1 p.2) p && !eqE (endAt ess q.1 q.2) q
def hidB (ess : List (List (Int × Int))) (ls : List Int) (p q : Int × Int) : Bool :=
  mayB ess p q && p.2 == q.2 && (endAt ess p.1 p.2).2 == (endAt ess q.1 q.2).2 && ls.getD p.1.toNat 0 == ls.getD q.1.toNat 0 && ls.getD (endAt ess p.1 p.2).1.toNat 0 == ls.getD (endAt ess q.1 q.2).1.toNat 0
end Go.Proofs.YtlfehdikgbgloaaGreat
namespace Go.Proofs.YtlfehdikgbgloaaGreat
open Go.RowKit
def nePortB (n : Net) (v i : Int) : Bool := netOk n && hasPortB n.ends v i
def neNodeB (n : Net) (v : Int) : Bool := netOk n && inB 0 ((n.ends.length : Int) - 1) v
end Go.Proofs.YtlfehdikgbgloaaGreat
