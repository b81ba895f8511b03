/- A range over a function whose rounds keep what the iterator has laid: a law over states. Program independent. -/
import Derived.Test.YtahdgojcebajkaaGreatGen
namespace Go.Rg
open Go.RowKit
variable {P : Program}

section
variable {ops : Array Oper} {Q : Exit → Act → World → Prop}
end

end Go.Rg
