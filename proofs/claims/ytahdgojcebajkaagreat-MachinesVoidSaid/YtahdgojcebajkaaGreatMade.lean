/- The walks of Great and of what makes a house of a world: acts on a ledger, offers that are placed. Openers: what comes in (worlds, asks, slices of acts and of offers), as the walks want it. A call under a guard, in a region. What a row of another kind is not; numbers of offers rise. An offer that comes in, opened, with what bounds its numbers. -/
import Derived.Test.YtahdgojcebajkaaGreatWf
import Derived.ProofKit
import Derived.Lib.SmallJoins
import Derived.OpenShut
import Derived.Test.YtahdgojcebajkaaGreatAgain
import Derived.Test.YtahdgojcebajkaaGreatLed6
import Derived.Test.YtahdgojcebajkaaGreatPlaceP
import Derived.Test.YtahdgojcebajkaaGreatRows

namespace Go.Proofs.YtahdgojcebajkaaGreat
open Go.RowKit Go.Rg Go.BigFrame

/-- A slice that came in: its cells are known. -/
def ArgSl (w : World) (size : Nat) (v : Value) (n : Nat) (xs : List Value) : Prop :=
  ∃ A cap, v = .slice A n cap ∧ n ≤ cap ∧ cap ≤ maxLen ∧ xs.length = n * size ∧ (n = 0 ∨ ∃ g off, A = some ⟨g, off, none⟩ ∧ g < w.heap.size ∧ ∀ j u, xs[j]? = some u → w.cell? ⟨g, off + j, none⟩ = some u)
theorem ArgSl.ext {w w' : World} {size n : Nat} {v : Value} {xs : List Value} (h : ArgSl w size v n xs) (k : Ext w w') : ArgSl w' size v n xs := by
  obtain ⟨A, cap, hv, h1, h2, h3, h4⟩ := h
  refine ⟨A, cap, hv, h1, h2, h3, ?_⟩
  rcases h4 with h4 | ⟨g, off, hA, hlt, hc⟩
  · exact .inl h4
  · refine .inr ⟨g, off, hA, Nat.lt_of_lt_of_le hlt k.size, fun j u hu => ?_⟩
    rw [cell_block (k.block hlt)]
    exact hc j u hu

/-- An act on a ledger. -/
structure Act5 where
  kind : Int
  a : Int
  b : Int
  c : Int
  n : Int
def Act5.cells (x : Act5) : List Value := [.int .u8 x.kind, .int .u8 x.a, .int .u8 x.b, .int .u8 x.c, .int .i64 x.n]
def Act5.ok (x : Act5) : Prop := 0 ≤ x.kind ∧ x.kind ≤ 255 ∧ x.n ≤ 9223372036854775807

/-! The house of a world. -/
end Go.Proofs.YtahdgojcebajkaaGreat

namespace Go.Proofs.YtahdgojcebajkaaGreat
open Go.Joins Go.Deep Go.WideElems Go.Maps Go.ChangeShapes Go.WideShapes Go.ChangeAt Go.RowKit Go.Rg Go.BigFrame

section
variable {H : Type} {enc : TypeId × Value → H} {P : Program} {w : World} {base : Nat} {spare : Nat → Bool} {held : Bool}
end



/-! ### Slices of structs that came in -/
theorem flat_at {α : Type} (f : α → List Value) (size : Nat) (hs : ∀ x, (f x).length = size) (l : List α) (k j : Nat) (hk : k < l.length) (hj : j < size) : (l.flatMap f)[k * size + j]? = (f (l[k]'hk))[j]? := by
  induction l generalizing k with
  | nil => simp at hk
  | cons o l ih =>
    cases k with
    | zero =>
      simp only [List.flatMap_cons, Nat.zero_mul, Nat.zero_add, List.getElem_cons_zero]
      rw [List.getElem?_append_left (by rw [hs]; exact hj)]
    | succ k =>
      have h2 : (k + 1) * size = k * size + size := Nat.succ_mul k size
      simp only [List.flatMap_cons, List.getElem_cons_succ]
      rw [List.getElem?_append_right (by rw [hs]; omega), hs, show (k + 1) * size + j - size = k * size + j by omega]
      exact ih k (by simpa using hk)
theorem flat_len {α : Type} (f : α → List Value) (size : Nat) (hs : ∀ x, (f x).length = size) (l : List α) : (l.flatMap f).length = l.length * size := by
  induction l with
  | nil => simp
  | cons o l ih => rw [List.flatMap_cons, List.length_append, ih, hs, List.length_cons, Nat.succ_mul, Nat.add_comm]

section
variable {H : Type} {enc : TypeId × Value → H} {P : Program} {w : World} {base : Nat} {spare : Nat → Bool} {held : Bool}

end

section
variable {H : Type} {enc : TypeId × Value → H} {w : World} {base : Nat} {spare : Nat → Bool} {held : Bool}

end
end Go.Proofs.YtahdgojcebajkaaGreat

namespace Go.Rg
open Go.RowKit
section
variable {P : Program} {ops : Array Oper} {md : Region.Mode}
end
end Go.Rg

namespace Go.Proofs.YtahdgojcebajkaaGreat
open Go.RowKit Go.Rg Go.BigFrame

theorem led_ne {w : World} {p m x : Nat} {L : Led} {cs : Array Value} {t : TypeId} {fr : Nat × Nat} (h : IsLed w p m L) (hr : w.heap[x]? = some (.cells cs t fr)) (ht : t ≠ 152) : p ∉ [x] ∧ m ∉ [x] := by
  obtain ⟨es, c, hm, _⟩ := h.map
  refine ⟨fun hx => ?_, fun hx => ?_⟩
  · have : p = x := by simpa using hx
    subst this
    rw [h.row] at hr
    simp only [Option.some.injEq, Obj.cells.injEq] at hr
    exact ht hr.2.1.symm
  · have : m = x := by simpa using hx
    subst this
    rw [hm] at hr
    cases hr
theorem book_ne {w : World} {p x : Nat} {g : Option Nat} {B : Bk} {cs : Array Value} {t : TypeId} {fr : Nat × Nat} (h : IsBook w p g B) (hr : w.heap[x]? = some (.cells cs t fr)) (ht : t ≠ 126) (ht2 : t ≠ 32) : p ∉ [x] ∧ ∀ y, g = some y → y ∉ [x] := by
  obtain ⟨v, hv, hg, hob⟩ := h.row
  refine ⟨fun hx => ?_, fun y hy hx => ?_⟩
  · have : p = x := by simpa using hx
    subst this
    rw [hv] at hr
    simp only [Option.some.injEq, Obj.cells.injEq] at hr
    exact ht hr.2.1.symm
  · have : y = x := by simpa using hx
    subst this
    rcases hob.2 with ⟨rfl, _⟩ | ⟨b, cap, cur, rfl, _, hh, _⟩
    · rw [← hg] at hy; simp [Value.ownBlock] at hy
    · rw [← hg] at hy
      simp only [Value.ownBlock, Option.some.injEq] at hy
      subst hy
      rw [hh] at hr
      simp only [Option.some.injEq, Obj.cells.injEq] at hr
      exact ht2 hr.2.1.symm
/-- Numbers rise. -/
def SeqLt (B : Bk) : Prop := SeqN B ∧ ∀ o ∈ B.offs, o.seq < B.next
end Go.Proofs.YtahdgojcebajkaaGreat

namespace Go.Proofs.YtahdgojcebajkaaGreat
open Go.Joins Go.Deep Go.WideElems Go.Maps Go.ChangeShapes Go.WideShapes Go.ChangeAt Go.RowKit Go.Rg Go.BigFrame

section
variable {H : Type} {enc : TypeId × Value → H} {w : World} {base : Nat} {spare : Nat → Bool} {held : Bool}
end
end Go.Proofs.YtahdgojcebajkaaGreat
