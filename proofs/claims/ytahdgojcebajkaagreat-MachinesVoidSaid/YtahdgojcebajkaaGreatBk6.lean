/- The book, further: an offer more. The book, further: one offer is struck; less is left of one. The book, further: less is left of one. -/
import Derived.Test.YtahdgojcebajkaaGreatBk
import Derived.Test.YtahdgojcebajkaaGreatGen

/-! The book, further: an offer more. -/
namespace Go.Proofs.YtahdgojcebajkaaGreat
open Go.RowKit Go.Rg Go.BigFrame

def placeR (B : Bk) (owner sell buy left num den : Int) : Int × Int × Bk :=
  if offOk ⟨B.next, owner, sell, buy, left, num, den⟩ = false then (0, 1, B)
  else if 32 ≤ B.offs.length ∨ B.next = 18446744073709551615 then (0, 9, B)
  else (B.next, 0, ⟨B.offs ++ [⟨B.next, owner, sell, buy, left, num, den⟩], B.next + 1⟩)

/-- What a call that changes a book yields. -/
def RetB (v : Value) (p : Nat) (g : Option Nat) (B' : Bk) (w : World) (e : Ending) (w' : World) : Prop :=
  e = .returned v ∧ ∃ g', Keep (p :: g.toList) w w' ∧ IsBook w' p g' B' ∧ (g' = g ∨ ∀ x, g' = some x → w.heap.size ≤ x)

theorem RetB.same {v : Value} {p : Nat} {g : Option Nat} {B : Bk} {w w' : World} (h : IsBook w p g B) (k : Ext w w') : RetB v p g B w (.returned v) w' :=
  ⟨rfl, g, Keep.of_ext k, h.ext k, .inl rfl⟩

theorem IsBook.ltg {w : World} {p : Nat} {g : Option Nat} {B : Bk} (h : IsBook w p g B) : ∀ q, g = some q → q < w.heap.size := by
  obtain ⟨v, _, hv, hown⟩ := h.row
  intro q hq
  subst hq
  exact (hown.lt q hv).2


end Go.Proofs.YtahdgojcebajkaaGreat

/-! The book, further: one offer is struck; less is left of one. -/
namespace Go.Proofs.YtahdgojcebajkaaGreat
open Go.RowKit Go.Rg Go.BigFrame

end Go.Proofs.YtahdgojcebajkaaGreat

/-! The book, further: less is left of one. -/
namespace Go.Proofs.YtahdgojcebajkaaGreat
open Go.RowKit Go.Rg Go.BigFrame

def takeR (B : Bk) (seq n : Int) : Int × Bk := match findR B.offs seq with
  | none => (7, B)
  | some o => if n < 1 ∨ o.left < n then (1, B)
    else if o.left = n then (0, { B with offs := B.offs.eraseIdx (idxR B.offs seq).toNat })
    else (0, { B with offs := B.offs.set (idxR B.offs seq).toNat { o with left := o.left - n } })

end Go.Proofs.YtahdgojcebajkaaGreat
