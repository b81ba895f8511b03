/- math/bits.Mul64 and Div64, as whole numbers say it. -/
import Derived.Test.YtahdgojcebajkaaGreatBase
import Derived.Test.YtahdgojcebajkaaGreatShelf
import Derived.Test.YtahdgojcebajkaaGreatDivP
import Derived.Lib.ItoaNum
namespace Go.Proofs.YtahdgojcebajkaaGreat
open Go.RowKit Go.Rg Go.BigFrame

end Go.Proofs.YtahdgojcebajkaaGreat
