/- The walks of goes and fits. The walk of fills.least: the least of four bounds. The walk of May. -/
import Derived.Test.YtahdgojcebajkaaGreatWf
import Derived.Test.YtahdgojcebajkaaGreatTrade

/-! The walks of goes and fits. -/
namespace Go.Proofs.YtahdgojcebajkaaGreat
open Go.RowKit Go.Rg Go.BigFrame

def goesR (L : Led) (o : Off) (to : Int) : Int := if to = o.owner then 1099511627776 else mostR (ofR L o.sell) o.owner to
def givenR (L : Led) (o : Off) (taker most : Int) : Int := min (min most (mostR (ofR L o.buy) taker o.owner)) 1099511627776
def fitsT (L : Led) (o : Off) (taker most : Int) : Int := fitsR (givenR L o taker most) o.num o.den

end Go.Proofs.YtahdgojcebajkaaGreat

/-! The walk of fills.least: the least of four bounds. -/
namespace Go.Proofs.YtahdgojcebajkaaGreat
open Go.RowKit Go.Rg Go.BigFrame

def accL (x0 x1 x2 x3 : Int) : Nat → Int
  | 0 => 1099511627776
  | 1 => min 1099511627776 x0
  | 2 => min (min 1099511627776 x0) x1
  | 3 => min (min (min 1099511627776 x0) x1) x2
  | _ => min (min (min (min 1099511627776 x0) x1) x2) x3

end Go.Proofs.YtahdgojcebajkaaGreat

/-! The walk of May. -/
namespace Go.Proofs.YtahdgojcebajkaaGreat
open Go.RowKit Go.Rg Go.BigFrame

end Go.Proofs.YtahdgojcebajkaaGreat
