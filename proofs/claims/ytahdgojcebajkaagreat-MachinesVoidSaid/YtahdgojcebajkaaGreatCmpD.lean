/- Compare of rates, the draws counted: cmp.Compare, cmp.Or, rats.Compare, the order of the best offers. -/
import Derived.Test.YtahdgojcebajkaaGreatNumD
import Derived.Test.YtahdgojcebajkaaGreatBestP
import Derived.Test.YtahdgojcebajkaaGreatDivP
import Derived.Shelf.SlSortCmp.WholeK
namespace Go.Proofs.YtahdgojcebajkaaGreat.D
open Go.RowKit Go.RgD Go.BigFrame

end Go.Proofs.YtahdgojcebajkaaGreat.D
