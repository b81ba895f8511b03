/- Knuth's division of two digits, in plain Lean. -/
import Derived.Test.YtahdgojcebajkaaGreatBase
import Derived.Laws.Bits64
namespace Go.Proofs.YtahdgojcebajkaaGreat

/-- One digit of the quotient. -/
structure Kn (y1 y0 u d : Nat) : Prop where
  h1 : 2147483648 ≤ y1
  h2 : y1 < 4294967296
  h0 : y0 < 4294967296
  hu : u < y1 * 4294967296 + y0
  hd : d < 4294967296

def knQ (y1 y0 u d : Nat) : Nat := (u * 4294967296 + d) / (y1 * 4294967296 + y0)

theorem Kn.small {y1 y0 u d : Nat} (h : Kn y1 y0 u d) : knQ y1 y0 u d < 4294967296 := by
  unfold knQ
  have := h.hu; have := h.hd; have := h.h1
  rw [Nat.div_lt_iff_lt_mul (by omega)]
  have e : 4294967296 * (y1 * 4294967296 + y0) = (y1 * 4294967296 + y0) * 4294967296 := Nat.mul_comm _ _
  rw [e]
  have : (u + 1) * 4294967296 ≤ (y1 * 4294967296 + y0) * 4294967296 := Nat.mul_le_mul_right _ (by omega)
  omega

/-- What the loop keeps. -/
structure KnI (y1 y0 u d q r : Nat) : Prop where
  eq : u = q * y1 + r
  ge : knQ y1 y0 u d ≤ q
  le : q ≤ 4294967297

theorem Kn.start {y1 y0 u d : Nat} (h : Kn y1 y0 u d) : KnI y1 y0 u d (u / y1) (u % y1) ∧ u % y1 < 4294967296 := by
  have h1 := h.h1; have h2 := h.h2; have h0 := h.h0; have hu := h.hu; have hd := h.hd
  have hm : u % y1 < y1 := Nat.mod_lt _ (by omega)
  refine ⟨⟨by rw [Nat.mul_comm]; exact (Nat.div_add_mod u y1).symm, ?_, ?_⟩, by omega⟩
  · unfold knQ
    have hlt : u * 4294967296 + d < (u / y1 + 1) * (y1 * 4294967296 + y0) := by
      have a1 : u < (u / y1 + 1) * y1 := by
        have := Nat.div_add_mod u y1
        rw [Nat.add_mul, Nat.one_mul, Nat.mul_comm (u / y1) y1]
        omega
      have a2 : (u + 1) * 4294967296 ≤ (u / y1 + 1) * y1 * 4294967296 := Nat.mul_le_mul_right _ a1
      have a3 : (u / y1 + 1) * (y1 * 4294967296 + y0) = (u / y1 + 1) * y1 * 4294967296 + (u / y1 + 1) * y0 := by rw [Nat.mul_add, Nat.mul_assoc]
      rw [a3]
      omega
    have := (Nat.div_lt_iff_lt_mul (show 0 < y1 * 4294967296 + y0 by omega)).2 hlt
    omega
  · have : u / y1 < 4294967298 := by
      rw [Nat.div_lt_iff_lt_mul (by omega)]
      omega
    omega

theorem Kn.cond {y1 y0 u d q r : Nat} (h : Kn y1 y0 u d) (k : KnI y1 y0 u d q r) : (4294967296 ≤ q ∨ 4294967296 * r + d < q * y0) ↔ knQ y1 y0 u d < q := by
  have hs := h.small
  have h1 := h.h1
  have key : knQ y1 y0 u d < q ↔ u * 4294967296 + d < q * (y1 * 4294967296 + y0) := by
    unfold knQ
    exact Nat.div_lt_iff_lt_mul (by omega)
  have e : q * (y1 * 4294967296 + y0) = q * y1 * 4294967296 + q * y0 := by rw [Nat.mul_add, Nat.mul_assoc]
  have eu := k.eq
  generalize q * y1 = A at *
  generalize hB : q * y0 = B at *
  constructor
  · rintro (hq | hq)
    · omega
    · rw [key, e]; omega
  · intro hq
    right
    rw [key, e] at hq
    omega

theorem Kn.next {y1 y0 u d q r : Nat} (k : KnI y1 y0 u d q r) (hq : knQ y1 y0 u d < q) : KnI y1 y0 u d (q - 1) (r + y1) ∧ q - 1 ≤ 4294967296 := by
  have hl := k.le
  refine ⟨⟨?_, by omega, by omega⟩, by omega⟩
  obtain ⟨q', rfl⟩ : ∃ q', q = q' + 1 := ⟨q - 1, by omega⟩
  have := k.eq
  rw [Nat.add_mul, Nat.one_mul] at this
  simp only [Nat.add_sub_cancel]
  omega

theorem Kn.done {y1 y0 u d q r : Nat} (h : Kn y1 y0 u d) (k : KnI y1 y0 u d q r) (hr : 4294967296 ≤ r) (hq : q ≤ 4294967296) : q = knQ y1 y0 u d := by
  have hc := h.cond k
  have hge := k.ge
  have h0 := h.h0
  have hb : q * y0 ≤ 4294967296 * y0 := Nat.mul_le_mul_right _ hq
  by_cases hq2 : knQ y1 y0 u d < q
  · rcases hc.2 hq2 with hx | hx
    · have hq3 : q = 4294967296 := by omega
      have key : knQ y1 y0 u d < q ↔ u * 4294967296 + d < q * (y1 * 4294967296 + y0) := by
        unfold knQ
        exact Nat.div_lt_iff_lt_mul (by have := h.h1; omega)
      have e : q * (y1 * 4294967296 + y0) = q * y1 * 4294967296 + q * y0 := by rw [Nat.mul_add, Nat.mul_assoc]
      have eu := k.eq
      have := key.1 hq2
      rw [e] at this
      generalize q * y1 = A at *
      omega
    · omega
  · omega

theorem Kn.second {y1 y0 U d1 d0 Y : Nat} (hk : Kn y1 y0 U d1) (hY : Y = y1 * 4294967296 + y0) (hd : d0 < 4294967296) : Kn y1 y0 ((U * 4294967296 + d1) % Y) d0 :=
  ⟨hk.h1, hk.h2, hk.h0, by rw [hY]; exact Nat.mod_lt _ (by have := hk.h1; omega), hd⟩

end Go.Proofs.YtahdgojcebajkaaGreat
