/- Swaps: Swap of a house that is there. -/
import Derived.Test.YtahdgojcebajkaaGreatSwapP
namespace Go.Proofs.YtahdgojcebajkaaGreat
open Go.RowKit Go.Rg Go.BigFrame

theorem SlAt.low {w : World} {base base' size n : Nat} {v : Value} {xs : List Value} (h : SlAt w base size v n xs) (hb : base' ≤ base) : SlAt w base' size v n xs := by
  obtain ⟨A, cap, h0, h1, h2, h3, h4⟩ := h
  refine ⟨A, cap, h0, h1, h2, h3, ?_⟩
  rcases h4 with h4 | ⟨g, h4, h5, h6⟩
  · exact .inl h4
  · exact .inr ⟨g, h4, Nat.le_trans hb h5, h6⟩

/-- As RetSwap; the house is a new one. -/
def RetSwapF (r : Int × Led × Bk × List Fl) (w : World) (e : Ending) (w' : World) : Prop :=
  ∃ hv av, e = .returned (.tuple #[hv, av, .int .i64 r.1]) ∧ Ext w w' ∧ (r.1 ≠ 0 → hv = .agg #[.pointer none, .pointer none] ∧ av = .slice none 0 0) ∧
    (r.1 = 0 → ∃ p m pb g, hv = .agg #[.pointer (some ⟨p, 0, none⟩), .pointer (some ⟨pb, 0, none⟩)] ∧ IsLed w' p m r.2.1 ∧ IsBook w' pb g r.2.2.1 ∧ SlAt w' w.heap.size 5 av r.2.2.2.length (flCells r.2.2.2) ∧ w.heap.size ≤ p ∧ w.heap.size ≤ m ∧ w.heap.size ≤ pb ∧ ∀ x, g = some x → w.heap.size ≤ x)
theorem RetSwapF.old {r : Int × Led × Bk × List Fl} {w w' : World} {e : Ending} (h : RetSwapF r w e w') : RetSwap r w e w' := by
  obtain ⟨hv, av, h1, h2, h3, h4⟩ := h
  refine ⟨hv, av, h1, h2, h3, fun h0 => ?_⟩
  obtain ⟨p, m, pb, g, a1, a2, a3, a4, _⟩ := h4 h0
  exact ⟨p, m, pb, g, a1, a2, a3, a4⟩
theorem RetSwapF.bad {r : Int × Led × Bk × List Fl} {w W' : World} {er : Int} (h : r.1 = er) (h0 : er ≠ 0) (k : Ext w W') :
    RetSwapF r w (.returned (.tuple #[.agg #[.pointer none, .pointer none], .slice none 0 0, .int .i64 er])) W' :=
  ⟨_, _, by rw [h], k, fun _ => ⟨rfl, rfl⟩, fun h' => absurd (h ▸ h') h0⟩
/- A drawn error: HF tells the error's number (er), HEND what is answered; the rows stand at k4, k5, k6 (SI at hI). -/

/- The rest of the region, Do done with the row made behind it. -/
/- The rest of the region, the row made ahead of Do. -/

end Go.Proofs.YtahdgojcebajkaaGreat
