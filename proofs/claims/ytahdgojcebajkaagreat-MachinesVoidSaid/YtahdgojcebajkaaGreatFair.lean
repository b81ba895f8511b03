/- Chains of fills, each of the first offer of which something may be filled: the plain law. Fair: what is given is the ceiling of a rate times what is got. -/
import Derived.Test.YtahdgojcebajkaaGreatSwapP
import Derived.Test.YtahdgojcebajkaaGreatLines
import Derived.Test.YtahdgojcebajkaaGreatDiv
import Derived.Shelf.Spec.BitsCarry

namespace Go.Proofs.YtahdgojcebajkaaGreat
open Go.RowKit

/-! ### Sums -/
end Go.Proofs.YtahdgojcebajkaaGreat

namespace Go.Proofs.YtahdgojcebajkaaGreat
open Go.RowKit Go.Rg Go.BigFrame

end Go.Proofs.YtahdgojcebajkaaGreat
