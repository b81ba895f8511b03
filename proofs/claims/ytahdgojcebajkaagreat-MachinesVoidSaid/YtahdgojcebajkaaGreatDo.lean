/- The walk of Do. The walk of Do, at a house. The chapter's example, evaluated by the plain functions. The zero ledger: it is not there. -/
import Derived.Test.YtahdgojcebajkaaGreatMay
import Derived.Test.YtahdgojcebajkaaGreatBk

/-! The walk of Do. -/
namespace Go.Proofs.YtahdgojcebajkaaGreat
open Go.RowKit Go.Rg Go.BigFrame

def mayT (L : Led) (B : Bk) (seq taker to want most : Int) : Int := match findR B.offs seq with
  | none => 0
  | some o => if okT (some o) (hasP L) taker to want most then max (accL want o.left (goesR L o to) (fitsT L o taker most) 4) 0 else 0

end Go.Proofs.YtahdgojcebajkaaGreat

/-! The walk of Do, at a house. -/
namespace Go.Proofs.YtahdgojcebajkaaGreat
open Go.RowKit Go.Rg Go.BigFrame

def doR (L : Led) (B : Bk) (seq taker to n : Int) : (Int × Int × Int × Int × Int) × Int × Led × Bk :=
  if n < 1 ∨ mayT L B seq taker to n 1099511627776 < n then ((0, 0, 0, 0, 0), 1, L, B)
  else ((seq, taker, to, n, (rupR n ((findR B.offs seq).getD zeroOff).num ((findR B.offs seq).getD zeroOff).den).1), 0,
    (payR (if to = ((findR B.offs seq).getD zeroOff).owner then L else (payR L ((findR B.offs seq).getD zeroOff).owner to ((findR B.offs seq).getD zeroOff).sell n).2) taker ((findR B.offs seq).getD zeroOff).owner ((findR B.offs seq).getD zeroOff).buy
      (rupR n ((findR B.offs seq).getD zeroOff).num ((findR B.offs seq).getD zeroOff).den).1).2, (takeR B seq n).2)

theorem apart_hb {w : World} {p m pb : Nat} {g : Option Nat} {L : Led} {B : Bk} (h : IsLed w p m L) (hB : IsBook w pb g B) : p ∉ pb :: g.toList ∧ m ∉ pb :: g.toList := by
  obtain ⟨v, hv, hg, ho⟩ := hB.row
  obtain ⟨es, ck, hm, _⟩ := h.map
  have hp := h.row
  have key : ∀ x, g = some x → ∃ cur, w.heap[x]? = some (.cells cur 32 (0, 0)) := by
    intro x hx
    rcases ho.2 with ⟨rfl, _⟩ | ⟨b, cap, cur, rfl, _, hh, _⟩
    · rw [← hg] at hx; simp [Value.ownBlock] at hx
    · rw [← hg] at hx
      simp only [Value.ownBlock, Option.some.injEq] at hx
      subst hx
      exact ⟨cur, hh⟩
  constructor
  · intro hx
    rcases List.mem_cons.1 hx with rfl | hx
    · rw [hv] at hp; simp at hp
    · obtain ⟨cur, hc⟩ := key p (by simpa using hx)
      rw [hc] at hp; simp at hp
  · intro hx
    rcases List.mem_cons.1 hx with rfl | hx
    · rw [hv] at hm; simp at hm
    · obtain ⟨cur, hc⟩ := key m (by simpa using hx)
      rw [hc] at hm; simp at hm

end Go.Proofs.YtahdgojcebajkaaGreat

/-! The chapter's example, evaluated by the plain functions. -/
namespace Go.Proofs.YtahdgojcebajkaaGreat

end Go.Proofs.YtahdgojcebajkaaGreat

/-! The zero ledger: it is not there. -/
namespace Go.Proofs.YtahdgojcebajkaaGreat
open Go.RowKit Go.Rg Go.BigFrame

end Go.Proofs.YtahdgojcebajkaaGreat
