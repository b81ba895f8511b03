/- What comes, plain: its fills are a chain, none of a rate that is over; what is left of it, and what is placed. Cancel: one offer is struck. What is placed, struck again; of what stands against it none may be filled: plain. Next: the next number. -/
import Derived.Test.YtahdgojcebajkaaGreatStands
import Derived.Test.YtahdgojcebajkaaGreatPlace4
import Derived.Test.YtahdgojcebajkaaGreatMade
import Derived.Test.YtahdgojcebajkaaGreatBk6
import Derived.Test.YtahdgojcebajkaaGreatBk

namespace Go.Proofs.YtahdgojcebajkaaGreat

end Go.Proofs.YtahdgojcebajkaaGreat

namespace Go.Proofs.YtahdgojcebajkaaGreat
open Go.RowKit Go.Rg Go.BigFrame

def cancelR (B : Bk) (owner seq : Int) : Int × Int × Bk := match findR B.offs seq with
  | none => (0, 7, B)
  | some o => if o.owner ≠ owner then (0, 15, B) else (o.left, 0, { B with offs := B.offs.eraseIdx (idxR B.offs seq).toNat })


end Go.Proofs.YtahdgojcebajkaaGreat

namespace Go.Proofs.YtahdgojcebajkaaGreat

end Go.Proofs.YtahdgojcebajkaaGreat

namespace Go.Proofs.YtahdgojcebajkaaGreat
open Go.RowKit Go.Rg Go.BigFrame
end Go.Proofs.YtahdgojcebajkaaGreat
