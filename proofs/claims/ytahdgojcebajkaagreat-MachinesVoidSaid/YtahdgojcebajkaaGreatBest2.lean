/- The best offers of two currencies: Best. -/
import Derived.Test.YtahdgojcebajkaaGreatBest
namespace Go.Proofs.YtahdgojcebajkaaGreat
open Go.RowKit Go.Rg Go.BigFrame

section
variable {P : Program}
end

theorem news_new (w : World) (cs : List Value) (t : TypeId) : ∀ j u, cs[j]? = some u → (w.alloc (.cells cs.toArray t)).cell? ((⟨w.heap.size, 0, none⟩ : Addr).add j) = some u := fun j u hu => by
  rw [Addr.add_mid, Nat.zero_add]
  exact cell_at (heap_alloc_top _ _) (by simpa using hu)

end Go.Proofs.YtahdgojcebajkaaGreat
