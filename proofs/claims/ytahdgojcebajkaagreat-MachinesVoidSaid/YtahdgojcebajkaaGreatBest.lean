/- The best offers: All, the sort, Best. -/
import Derived.Test.YtahdgojcebajkaaGreatCmpD
import Derived.Test.YtahdgojcebajkaaGreatSortW
import Derived.Test.YtahdgojcebajkaaGreatSort
import Derived.Test.YtahdgojcebajkaaGreatBk
import Derived.Deep.MidRow
import Derived.OwnWalk
namespace Go.Proofs.YtahdgojcebajkaaGreat
open Go.RowKit Go.Rg Go.BigFrame

/-- Numbers of offers are their own. -/
def SeqB (l : List Off) : Prop := ∀ x ∈ l, ∀ y ∈ l, x.seq = y.seq → x = y

theorem pairwise_of_sorted {α : Type} [Inhabited α] {lt : α → α → Bool} {d : Array α} (h : Go.Sort.SortedIn lt 0 d.size d) : d.toList.Pairwise (fun a b => lt b a = false) := by
  rw [List.pairwise_iff_getElem]
  intro i j hi hj hij
  have hj' : j < d.size := by simpa using hj
  have hi' : i < d.size := by simpa using hi
  have := h i j (Nat.zero_le _) hij hj'
  rw [getElem!_pos d j hj', getElem!_pos d i hi'] at this
  simpa using this

end Go.Proofs.YtahdgojcebajkaaGreat
