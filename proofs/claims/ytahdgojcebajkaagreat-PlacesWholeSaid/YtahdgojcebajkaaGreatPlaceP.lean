/- Places, plainly: fill by fill. -/
import Derived.Test.YtahdgojcebajkaaGreatPlace3
import Derived.Test.YtahdgojcebajkaaGreatFitP
namespace Go.Proofs.YtahdgojcebajkaaGreat

abbrev Fl := Int × Int × Int × Int × Int

theorem nextGo_spec (L : Led) (B : Bk) (o : Off) : ∀ l, (nextGo L B o l).2 = 0 ∨ (0 < (nextGo L B o l).2 ∧ (nextGo L B o l).2 = mayT L B (nextGo L B o l).1 o.owner o.owner 1099511627776 o.left)
  | [] => .inl rfl
  | y :: l => by
    unfold nextGo
    split
    · exact .inl rfl
    · split
      · rename_i h; exact .inr ⟨h, rfl⟩
      · exact nextGo_spec L B o l

/-- Fill by fill, at most so many. -/
def goesGo (o : Off) : Nat → Led → Bk → Int → List Fl → Int × Led × Bk × Int × List Fl
  | 0, L, B, left, all => (0, L, B, left, all)
  | f + 1, L, B, left, all =>
    if left ≤ 0 then (0, L, B, left, all)
    else if (nextR L B { o with left := left }).2 = 0 then (0, L, B, left, all)
    else if all.length = 64 then (13, L, B, left, all)
    else goesGo o f (doR L B (nextR L B { o with left := left }).1 o.owner o.owner (nextR L B { o with left := left }).2).2.2.1 (doR L B (nextR L B { o with left := left }).1 o.owner o.owner (nextR L B { o with left := left }).2).2.2.2
      (left - (doR L B (nextR L B { o with left := left }).1 o.owner o.owner (nextR L B { o with left := left }).2).1.2.2.2.2) (all ++ [(doR L B (nextR L B { o with left := left }).1 o.owner o.owner (nextR L B { o with left := left }).2).1])

theorem rup_nonneg {n num den : Int} (hn : 0 ≤ n) : 0 ≤ (rupR n num den).1 := by
  unfold rupR
  split
  · rename_i hm
    unfold mayR at hm
    rw [decide_eq_true_eq] at hm
    have hq : 0 ≤ n * num / den := Int.ediv_nonneg (Int.mul_nonneg hn (by omega)) (by omega)
    have h1 : 0 ≤ (byR n num den).1 := by
      unfold byR
      rw [if_neg (by omega)]
      split
      · exact Int.le_refl _
      · exact hq
    unfold upR downR
    split
    · unfold addR
      split
      · exact Int.le_refl _
      · simp only; omega
    · exact h1
  · exact Int.le_refl _

theorem do_given_nonneg (L : Led) (B : Bk) (seq taker to n : Int) : 0 ≤ (doR L B seq taker to n).1.2.2.2.2 := by
  unfold doR
  split
  · exact Int.le_refl _
  · rename_i h
    exact rup_nonneg (by omega)

/-- Numbers of offers are their own. -/
def SeqN (B : Bk) : Prop := (B.offs.map Off.seq).Nodup
theorem SeqN.b {B : Bk} (h : SeqN B) : SeqB B.offs := by
  unfold SeqN at h
  generalize B.offs = l at *
  intro x hx y hy hxy
  induction l with
  | nil => cases hx
  | cons z l ih =>
    rw [List.map_cons, List.nodup_cons] at h
    rcases List.mem_cons.1 hx with hx2 | hx2
    · rcases List.mem_cons.1 hy with hy2 | hy2
      · rw [hx2, hy2]
      · exact absurd (List.mem_map.2 ⟨y, hy2, by rw [← hxy, hx2]⟩) h.1
    · rcases List.mem_cons.1 hy with hy2 | hy2
      · exact absurd (List.mem_map.2 ⟨x, hx2, by rw [hxy, hy2]⟩) h.1
      · exact ih h.2 hx2 hy2
theorem seqN_take {B : Bk} (h : SeqN B) (seq n : Int) : SeqN (takeR B seq n).2 := by
  unfold takeR
  cases hf : findR B.offs seq with
  | none => exact h
  | some o =>
    simp only
    split
    · exact h
    · split
      · exact List.Nodup.sublist (List.Sublist.map _ (List.eraseIdx_sublist ..)) h
      · unfold SeqN
        simp only
        rw [List.map_set]
        rcases idxFrom_spec seq B.offs 0 with ⟨_, h2⟩ | ⟨j, hj, h1, h2⟩
        · rw [hf] at h2; cases h2
        · rw [hf] at h2
          injection h2 with h2
          have hj2 : (idxR B.offs seq).toNat = j := by unfold idxR; rw [h1]; simp
          rw [hj2]
          have : (B.offs.map Off.seq).set j o.seq = B.offs.map Off.seq := by
            apply List.ext_getElem?
            intro i
            by_cases hi : j = i
            · subst hi
              rw [List.getElem?_set_self (by simpa using hj), List.getElem?_map, List.getElem?_eq_getElem hj, h2]; rfl
            · rw [List.getElem?_set_ne hi]
          show ((B.offs.map Off.seq).set j o.seq).Nodup
          rw [this]
          exact h
theorem seqN_do {L : Led} {B : Bk} (h : SeqN B) (seq taker to n : Int) : SeqN (doR L B seq taker to n).2.2.2 := by
  unfold doR
  split
  · exact h
  · exact seqN_take h seq n
theorem ok_do {L : Led} {B : Bk} (h : OkB B) (seq taker to n : Int) : OkB (doR L B seq taker to n).2.2.2 := by
  unfold doR
  split
  · exact h
  · exact ok_take h seq n
theorem wf_do {L : Led} {B : Bk} (h : WF L) (seq taker to n : Int) : WF (doR L B seq taker to n).2.2.1 := by
  unfold doR
  split
  · exact h
  · split
    · exact wf_pay h _ _ _ _
    · exact wf_pay (wf_pay h _ _ _ _) _ _ _ _
end Go.Proofs.YtahdgojcebajkaaGreat
