/- Net, walked: which lines are debts. Net, walked: debts of a currency; which one is left. Net, walked. -/
import Derived.Test.YtahdgojcebajkaaGreatDbR

namespace Go.Proofs.YtahdgojcebajkaaGreat
open Go.RowKit Go.Rg Go.BigFrame

/-- A slice of debts that can be read and sorted. -/
def FlSl (w : World) (base : Nat) (v : Value) (l : List Fw) : Prop :=
  ∃ A c, v = .slice A l.length c ∧ l.length ≤ c ∧ c ≤ maxLen ∧ (l = [] ∨ ∃ g cur, A = some ⟨g, 0, none⟩ ∧ base ≤ g ∧ w.heap[g]? = some (Obj.cells cur 240 (0, 0)) ∧ l.length * 3 ≤ cur.size ∧ cur.toList.take (l.length * 3) = fwCells l)
theorem FlSl.ext {w w' : World} {base : Nat} {v : Value} {l : List Fw} (h : FlSl w base v l) (k : Ext w w') : FlSl w' base v l := by
  obtain ⟨A, c, h1, h2, h3, h4⟩ := h
  refine ⟨A, c, h1, h2, h3, ?_⟩
  rcases h4 with h4 | ⟨g, cur, q1, q2, q3, q4, q5⟩
  · exact .inl h4
  · exact .inr ⟨g, cur, q1, q2, k.at q3, q4, q5⟩
theorem FlSl.sl {w : World} {base : Nat} {v : Value} {l : List Fw} (h : FlSl w base v l) : SlAt w base 3 v l.length (fwCells l) := by
  obtain ⟨A, c, h1, h2, h3, h4⟩ := h
  refine ⟨A, c, h1, h2, h3, fwCells_len l, ?_⟩
  rcases h4 with rfl | ⟨g, cur, q1, q2, q3, q4, q5⟩
  · exact .inl rfl
  · refine .inr ⟨g, q1, q2, lt_of_heap q3, fun j u hu => cell_at q3 ?_⟩
    rw [← q5] at hu
    have hj : j < l.length * 3 := by
      have := (List.getElem?_eq_some_iff.1 hu).1
      rw [List.length_take] at this
      omega
    rw [List.getElem?_take_of_lt hj] at hu
    simpa using hu
theorem FlSl.of_own {w : World} {base : Nat} {v : Value} {l : List Fw} (h : w.ownsRow base 240 3 v l.length (fwCells l)) : FlSl w base v l := by
  rcases h.2 with ⟨h1, h2⟩ | ⟨g, cap, cur, h1, h2, h3, h4, h5, h6, h7⟩
  · have hl : l = [] := List.eq_nil_of_length_eq_zero h2
    subst hl
    exact ⟨none, 0, h1, Nat.le_refl _, by unfold maxLen; omega, .inl rfl⟩
  · exact ⟨some ⟨g, 0, none⟩, cap, h1, h4, h5, .inr ⟨g, cur, rfl, h2, h3, by rw [h6]; exact Nat.mul_le_mul_right 3 h4, h7⟩⟩
end Go.Proofs.YtahdgojcebajkaaGreat

namespace Go.Proofs.YtahdgojcebajkaaGreat
open Go.RowKit Go.Rg Go.BigFrame

theorem FlSl.low {w : World} {base base' : Nat} {v : Value} {l : List Fw} (h : FlSl w base v l) (hb : base' ≤ base) : FlSl w base' v l := by
  obtain ⟨A, c, h1, h2, h3, h4⟩ := h
  refine ⟨A, c, h1, h2, h3, ?_⟩
  rcases h4 with h4 | ⟨g, cur, q1, q2, q3⟩
  · exact .inl h4
  · exact .inr ⟨g, cur, q1, Nat.le_trans hb q2, q3⟩
end Go.Proofs.YtahdgojcebajkaaGreat

namespace Go.Proofs.YtahdgojcebajkaaGreat
open Go.RowKit Go.Rg Go.BigFrame

end Go.Proofs.YtahdgojcebajkaaGreat
