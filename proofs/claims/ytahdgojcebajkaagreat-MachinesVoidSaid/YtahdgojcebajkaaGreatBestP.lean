/- The best offers, plainly: sorted by rate, then by number. -/
import Derived.Test.YtahdgojcebajkaaGreatBk
import Derived.Test.YtahdgojcebajkaaGreatSortP
namespace Go.Proofs.YtahdgojcebajkaaGreat

def cmpR (n d m e : Int) : Int := if mayR n d && mayR m e then cmpI (n * e) (m * d) else 0
def cmpO (x y : Off) : Int := orI (cmpR x.num x.den y.num y.den) (cmpI x.seq y.seq)
def ltO (x y : Off) : Bool := decide (cmpO x y < 0)
def bestR (l : List Off) (sell buy : Int) : List Off := sortR ltO (l.filter fun o => o.sell == sell && o.buy == buy)
end Go.Proofs.YtahdgojcebajkaaGreat
