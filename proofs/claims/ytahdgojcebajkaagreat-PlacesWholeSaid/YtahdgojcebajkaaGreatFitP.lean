/- What may be filled may be done; one more may not: the plain law. -/
import Derived.Test.YtahdgojcebajkaaGreatDo
namespace Go.Proofs.YtahdgojcebajkaaGreat

theorem byR_good {a num den : Int} (ha : 0 ≤ a) (hn : 0 ≤ num) (hd : 1 ≤ den) (hq : a * num / den ≤ 9223372036854775807) : byR a num den = (a * num / den, a * num % den, 0) := by
  unfold byR
  rw [if_neg (by omega), if_neg (by omega)]
theorem byR_over {a num den : Int} (ha : 0 ≤ a) (hn : 0 ≤ num) (hd : 1 ≤ den) (hq : ¬ a * num / den ≤ 9223372036854775807) : byR a num den = (0, 0, 10) := by
  unfold byR
  rw [if_neg (by omega), if_pos (by omega)]

theorem fits_eq {g num den : Int} (hm : mayR num den = true) (h0 : 0 ≤ g) : fitsR g num den = min (g * den / num) 1099511627776 := by
  have hb := hm
  unfold mayR at hb
  rw [decide_eq_true_eq] at hb
  unfold fitsR downR MA
  rw [if_neg (by rw [hm]; simp; omega)]
  by_cases hq : g * den / num ≤ 9223372036854775807
  · rw [byR_good h0 (by omega) (by omega) hq]
    simp only [↓reduceIte]
  · rw [byR_over h0 (by omega) (by omega) hq]
    simp only
    rw [if_neg (by decide)]
    omega

theorem fits_neg {g num den : Int} (h0 : g < 0) : fitsR g num den = 0 := by
  unfold fitsR
  rw [if_pos (Or.inl h0)]

/-- What is raised is no more than what so much was floored of. -/
theorem up_le {g n num den : Int} (hm : mayR num den = true) (hn : 0 ≤ n) (hg : g ≤ 1099511627776) (h : n * num ≤ g * den) : (rupR n num den).1 ≤ g := by
  have hb := hm
  unfold mayR at hb
  rw [decide_eq_true_eq] at hb
  have hd0 : (0 : Int) < den := by omega
  have hq : n * num / den ≤ g := by
    have := Int.ediv_le_ediv hd0 h
    rw [Int.mul_ediv_cancel _ (by omega)] at this
    exact this
  unfold rupR
  rw [if_pos hm]
  unfold upR downR
  rw [byR_good hn (by omega) (by omega) (by omega)]
  simp only
  split
  · rename_i hr
    have hlt : n * num / den < g := by
      rcases Int.lt_or_eq_of_le hq with hl | he
      · exact hl
      · have hdm := Int.emod_add_mul_ediv (n * num) den
        rw [he, Int.mul_comm den g] at hdm
        omega
    unfold addR
    rw [if_neg (by omega)]
    simp only
    omega
  · exact hq

/-- The product at most: what fits is paid for. -/
theorem fits_pays {g n num den : Int} (hm : mayR num den = true) (h0 : 0 ≤ g) (h : n ≤ fitsR g num den) : n * num ≤ g * den := by
  have hb := hm
  unfold mayR at hb
  rw [decide_eq_true_eq] at hb
  rw [fits_eq hm h0] at h
  have h1 : n ≤ g * den / num := by omega
  exact Int.le_trans (Int.mul_le_mul_of_nonneg_right h1 (by omega)) (Int.ediv_mul_le _ (by omega))

/-- One more than fits is not paid for. -/
theorem fits_over {g num den : Int} (hm : mayR num den = true) (h0 : 0 ≤ g) (h : fitsR g num den < 1099511627776) : g * den < (fitsR g num den + 1) * num := by
  have hb := hm
  unfold mayR at hb
  rw [decide_eq_true_eq] at hb
  rw [fits_eq hm h0] at h ⊢
  have h1 : min (g * den / num) 1099511627776 = g * den / num := by omega
  rw [h1]
  exact Int.lt_ediv_add_one_mul_self _ (by omega)

theorem fits_nonneg (g num den : Int) : 0 ≤ fitsR g num den := by
  by_cases h0 : g < 0
  · rw [fits_neg h0]; exact Int.le_refl _
  · by_cases hm : mayR num den = true
    · have hb := hm
      unfold mayR at hb
      rw [decide_eq_true_eq] at hb
      rw [fits_eq hm (by omega)]
      have : 0 ≤ g * den / num := Int.ediv_nonneg (Int.mul_nonneg (by omega) (by omega)) (by omega)
      omega
    · unfold fitsR
      rw [if_pos (Or.inr (by simpa using hm))]
      exact Int.le_refl _

theorem fits_mono {g g' num den : Int} (hm : mayR num den = true) (h : g ≤ g') : fitsR g num den ≤ fitsR g' num den := by
  have hb := hm
  unfold mayR at hb
  rw [decide_eq_true_eq] at hb
  by_cases h0 : g < 0
  · rw [fits_neg h0]; exact fits_nonneg _ _ _
  · rw [fits_eq hm (by omega), fits_eq hm (by omega)]
    have : g * den / num ≤ g' * den / num := Int.ediv_le_ediv (by omega) (Int.mul_le_mul_of_nonneg_right h (by omega))
    omega

theorem accL_min (a b c d : Int) : accL a b c d 4 = min (min (min (min 1099511627776 a) b) c) d := rfl

theorem may_none {L : Led} {B : Bk} {seq taker to want most : Int} (h : findR B.offs seq = none) : mayT L B seq taker to want most = 0 := by
  unfold mayT; rw [h]
theorem may_some {L : Led} {B : Bk} {seq taker to want most : Int} {o : Off} (h : findR B.offs seq = some o) :
    mayT L B seq taker to want most = if okT (some o) (hasP L) taker to want most then max (accL want o.left (goesR L o to) (fitsT L o taker most) 4) 0 else 0 := by
  unfold mayT; rw [h]

/-- How much may be filled lies between none and what is wanted. -/
theorem may_bd (L : Led) (B : Bk) (seq taker to want most : Int) : 0 ≤ mayT L B seq taker to want most ∧ mayT L B seq taker to want most ≤ max want 0 ∧ mayT L B seq taker to want most ≤ 1099511627776 := by
  cases hf : findR B.offs seq with
  | none => rw [may_none hf]; omega
  | some o =>
    rw [may_some hf, accL_min]
    split <;> omega

/-- One more may not be filled. -/
theorem may_over {L : Led} {B : Bk} {seq taker to want most : Int} {o : Off} (hB : OkB B) (h : findR B.offs seq = some o) (hok : okT (some o) (hasP L) taker to want most = true)
    (h1 : mayT L B seq taker to want most < want) (h2 : mayT L B seq taker to want most < o.left) (h3 : to = o.owner ∨ mayT L B seq taker to want most < mostR (ofR L o.sell) o.owner to) :
    max (min (min most 1099511627776) (mostR (ofR L o.buy) taker o.owner)) 0 * o.den < (mayT L B seq taker to want most + 1) * o.num := by
  have hoo := hB o (findR_mem h).1
  obtain ⟨r1, r2, hm⟩ := offOk_rat hoo
  have hleft : o.left ≤ 1099511627776 := by
    unfold offOk at hoo
    rw [decide_eq_true_eq] at hoo
    omega
  have hb := hm
  unfold mayR at hb
  rw [decide_eq_true_eq] at hb
  have hgo : mayT L B seq taker to want most < goesR L o to := by
    unfold goesR
    split
    · omega
    · rename_i hne
      rcases h3 with h3 | h3
      · exact absurd h3 hne
      · exact h3
  have hg : min (min most 1099511627776) (mostR (ofR L o.buy) taker o.owner) = givenR L o taker most := by unfold givenR; omega
  rw [hg]
  have hn : mayT L B seq taker to want most = fitsT L o taker most ∧ fitsT L o taker most < 1099511627776 := by
    have hfn := fits_nonneg (givenR L o taker most) o.num o.den
    have hs := may_some (L := L) (taker := taker) (to := to) (want := want) (most := most) h
    rw [if_pos hok, accL_min] at hs
    unfold fitsT at hs ⊢
    omega
  rw [hn.1]
  by_cases h0 : givenR L o taker most < 0
  · rw [show max (givenR L o taker most) 0 = 0 by omega]
    have : fitsT L o taker most = 0 := by unfold fitsT; exact fits_neg h0
    rw [this]
    omega
  · rw [show max (givenR L o taker most) 0 = givenR L o taker most by omega]
    exact fits_over hm (by omega) hn.2

/-- What may be filled may be done. -/
theorem may_done {L : Led} {B : Bk} {seq taker to want most : Int} (hB : OkB B) (h1 : 1 ≤ mayT L B seq taker to want most) :
    ∃ given, (doR L B seq taker to (mayT L B seq taker to want most)).1 = (seq, taker, to, mayT L B seq taker to want most, given) ∧ (doR L B seq taker to (mayT L B seq taker to want most)).2.1 = 0 ∧ given ≤ most := by
  cases hf : findR B.offs seq with
  | none => rw [may_none hf] at h1; omega
  | some o =>
    have hoo := hB o (findR_mem hf).1
    obtain ⟨r1, r2, hm⟩ := offOk_rat hoo
    have hs := may_some (L := L) (taker := taker) (to := to) (want := want) (most := most) hf
    generalize hn : mayT L B seq taker to want most = n at *
    by_cases hok : okT (some o) (hasP L) taker to want most = true
    · rw [if_pos hok, accL_min] at hs
      have hfit : n ≤ fitsT L o taker most := by omega
      have hg0 : 0 ≤ givenR L o taker most := by
        by_cases h0 : givenR L o taker most < 0
        · have : fitsT L o taker most = 0 := by unfold fitsT; exact fits_neg h0
          omega
        · omega
      have hok2 : okT (some o) (hasP L) taker to n 1099511627776 = true := by
        unfold okT at hok ⊢
        simp only [Bool.and_eq_true, decide_eq_true_eq] at hok ⊢
        exact ⟨⟨hok.1.1, by omega⟩, by omega⟩
      have hmore : fitsT L o taker most ≤ fitsT L o taker 1099511627776 := by
        unfold fitsT
        exact fits_mono hm (by unfold givenR; omega)
      have hmay2 : ¬ (n < 1 ∨ mayT L B seq taker to n 1099511627776 < n) := by
        rw [may_some hf, if_pos hok2, accL_min]
        omega
      unfold doR
      rw [if_neg hmay2, hf]
      refine ⟨_, rfl, rfl, ?_⟩
      simp only [Option.getD_some]
      have hle := up_le (g := givenR L o taker most) (n := n) hm (by omega) (by unfold givenR; omega) (fits_pays hm hg0 hfit)
      have : givenR L o taker most ≤ most := by unfold givenR; omega
      omega
    · rw [if_neg hok] at hs
      omega

end Go.Proofs.YtahdgojcebajkaaGreat
