/- What may be filled may be done; one more may not: the plain law. Places, plainly: fill by fill. -/
import Derived.Test.YtahdgojcebajkaaGreatDo
import Derived.Test.YtahdgojcebajkaaGreatPlace1

namespace Go.Proofs.YtahdgojcebajkaaGreat

end Go.Proofs.YtahdgojcebajkaaGreat

namespace Go.Proofs.YtahdgojcebajkaaGreat

abbrev Fl := Int × Int × Int × Int × Int

/-- Fill by fill, at most so many. -/
def goesGo (o : Off) : Nat → Led → Bk → Int → List Fl → Int × Led × Bk × Int × List Fl
  | 0, L, B, left, all => (0, L, B, left, all)
  | f + 1, L, B, left, all =>
    if left ≤ 0 then (0, L, B, left, all)
    else if (nextR L B { o with left := left }).2 = 0 then (0, L, B, left, all)
    else if all.length = 64 then (13, L, B, left, all)
    else goesGo o f (doR L B (nextR L B { o with left := left }).1 o.owner o.owner (nextR L B { o with left := left }).2).2.2.1 (doR L B (nextR L B { o with left := left }).1 o.owner o.owner (nextR L B { o with left := left }).2).2.2.2
      (left - (doR L B (nextR L B { o with left := left }).1 o.owner o.owner (nextR L B { o with left := left }).2).1.2.2.2.2) (all ++ [(doR L B (nextR L B { o with left := left }).1 o.owner o.owner (nextR L B { o with left := left }).2).1])

/-- Numbers of offers are their own. -/
def SeqN (B : Bk) : Prop := (B.offs.map Off.seq).Nodup
theorem SeqN.b {B : Bk} (h : SeqN B) : SeqB B.offs := by
  unfold SeqN at h
  generalize B.offs = l at *
  intro x hx y hy hxy
  induction l with
  | nil => cases hx
  | cons z l ih =>
    rw [List.map_cons, List.nodup_cons] at h
    rcases List.mem_cons.1 hx with hx2 | hx2
    · rcases List.mem_cons.1 hy with hy2 | hy2
      · rw [hx2, hy2]
      · exact absurd (List.mem_map.2 ⟨y, hy2, by rw [← hxy, hx2]⟩) h.1
    · rcases List.mem_cons.1 hy with hy2 | hy2
      · exact absurd (List.mem_map.2 ⟨x, hx2, by rw [hxy, hy2]⟩) h.1
      · exact ih h.2 hx2 hy2
end Go.Proofs.YtahdgojcebajkaaGreat
