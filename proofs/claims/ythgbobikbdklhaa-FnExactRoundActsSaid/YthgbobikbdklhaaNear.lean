import Derived.Test.YthgbobikbdklhaaPort
namespace Go.Proofs.Ythgbobikbdklhaa
open Go.RowKit
theorem Own.since {w w' : World} {base : Nat} {v : Value} {xs : List Int} (h : Own w base v xs) (hs : Since w w') : Own w' base v xs := h.keep hs
/-- append of one integer to a row of its own, behind w0 -/
theorem app_int_s {w w0 : World} {ops : Array Oper} {rest : List Oper} {o : Oper} {a : Act} {Q : Exit → Act → World → Prop} (hgd : o.guard = none) (s x : Operand)
    (ho : o.op = .call { callee := .builtin .append, args := #[s, x], argTypes := #[23, 23] }) {v : Value} {xs : List Int} (hs : a.eval s = v) (h : Own w w0.heap.size v xs) (b : Nat) (y : Int)
    (hx : a.eval x = .slice (some ⟨b, 0, none⟩) 1 1) (hc : w.cell? ⟨b, 0, none⟩ = some (.int .i64 y)) (hl : xs.length + 1 ≤ 17592186044416) (hsn : Since w0 w)
    (k : ∀ g cap w', Own w' w0.heap.size (.slice (some ⟨g, 0, none⟩) (xs.length + 1) cap) (xs ++ [y]) → Since w0 w' → wpList Try.prog ops Q rest (a.put o.dst (.slice (some ⟨g, 0, none⟩) (xs.length + 1) cap)) w') : wpList Try.prog ops Q (o :: rest) a w := by
  refine app_int hgd s x ho hs h b y hx hc hl hsn.size ?_
  intro g cap w' h1 h2 h3 h4
  exact k g cap w' h1 (Below.grown hsn h2 hsn.size (fun j hj => (World.ownsRow.lt h j hj).1))
theorem row_at {w : World} {v : Value} {ess : List (List (Int × Int))} {k : Nat} {es : List (Int × Int)} (h : EndSS w v ess) (hes : ess[k]? = some es) :
    ∃ (b off c : Nat) (u : Value), v = .slice (some ⟨b, off, none⟩) ess.length c ∧ k < ess.length ∧ w.cell? ⟨b, off + k, none⟩ = some u ∧ EndS w u es := by
  obtain ⟨A, c, rfl, hlc, hm, hA⟩ := h
  obtain ⟨b, off, u, rfl, hc, hrow⟩ := hA k es hes
  exact ⟨b, off, c, u, rfl, lt_of_get hes, hc, hrow⟩
/-- the numbers of the neighbours -/
def nearB (ls : List Int) (es : List (Int × Int)) : List Int := es.map fun e => ls.getD e.1.toNat 0
theorem seen_mem {ls : List Int} {es : List (Int × Int)} {j : Nat} {x : Int × Int} {l y : Int} (hx : es[j]? = some x) (hg : ls.getD x.1.toNat 0 = y) : y ∈ l :: nearB ls es := List.mem_cons_of_mem _ (List.mem_map.2 ⟨x, List.mem_of_getElem? hx, hg⟩)
theorem seen_in {ls : List Int} {es : List (Int × Int)} {k : Nat} {l y : Int} (hk : ls[k]? = some l) (hin : ∀ e ∈ es, 0 ≤ e.1 ∧ e.1 < ls.length) (h : y ∈ l :: nearB ls es) : y ∈ ls := by
  rcases List.mem_cons.1 h with rfl | h
  · exact List.mem_of_getElem? hk
  · obtain ⟨e, he, rfl⟩ := List.mem_map.1 h
    obtain ⟨h1, h2⟩ := hin e he
    have : e.1.toNat < ls.length := by omega
    rw [List.getD_eq_getElem?_getD, List.getElem?_eq_getElem this]
    exact List.getElem_mem this
end Go.Proofs.Ythgbobikbdklhaa
