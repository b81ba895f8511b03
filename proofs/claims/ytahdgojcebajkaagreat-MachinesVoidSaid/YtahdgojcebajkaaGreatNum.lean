/- Numbers: rates and exact products: what each function of the packages rats and exacts returns. Numbers, further: May, Inverse, Add. -/
import Derived.Test.YtahdgojcebajkaaGreatBase
import Derived.Test.YtahdgojcebajkaaGreatShelf
import Derived.WalkMore
import Derived.ScopeJumps

/-! Numbers: rates and exact products: what each function of the packages rats and exacts returns. -/
namespace Go.Proofs.YtahdgojcebajkaaGreat
open Go.RowKit Go.Rg Go.BigFrame

def GcdIs (m n : Int) (g : Nat) : Prop := Int.gcd m n = g
theorem GcdIs.out {m n : Int} {g : Nat} (h : GcdIs m n g) : Int.gcd m n = g := h
/-! ### rats -/

end Go.Proofs.YtahdgojcebajkaaGreat

/-! Numbers, further: May, Inverse, Add. -/
namespace Go.Proofs.YtahdgojcebajkaaGreat
open Go.RowKit Go.Rg Go.BigFrame

def mayR (n d : Int) : Bool := decide (1 ≤ n ∧ 1 ≤ d ∧ Int.gcd n d = 1 ∧ n ≤ 1099511627776 ∧ d ≤ 1099511627776)

def invR (n d : Int) : Int × Int := if mayR n d then (d, n) else (0, 0)

end Go.Proofs.YtahdgojcebajkaaGreat
