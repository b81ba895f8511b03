/- Numbers, further: exact products by a denominator; rates floored and raised. Numbers, further: floored and raised. -/
import Derived.Test.YtahdgojcebajkaaGreatNum
import Derived.Test.YtahdgojcebajkaaGreatDiv

/-! Numbers, further: exact products by a denominator; rates floored and raised. -/
namespace Go.Proofs.YtahdgojcebajkaaGreat
open Go.RowKit Go.Rg Go.BigFrame

def byR (a num den : Int) : Int × Int × Int :=
  if a < 0 ∨ num < 0 ∨ den < 1 then (0, 0, 1) else if 9223372036854775807 < a * num / den then (0, 0, 10) else (a * num / den, a * num % den, 0)
end Go.Proofs.YtahdgojcebajkaaGreat

/-! Numbers, further: floored and raised. -/
namespace Go.Proofs.YtahdgojcebajkaaGreat
open Go.RowKit Go.Rg Go.BigFrame

def downR (a num den : Int) : Int × Int := ((byR a num den).1, (byR a num den).2.2)
def addR (a : Int) : Int × Int := if a = 9223372036854775807 then (0, 10) else (a + 1, 0)
def upR (a num den : Int) : Int × Int := if (byR a num den).2.2 = 0 ∧ 0 < (byR a num den).2.1 then addR (byR a num den).1 else downR a num den
def two (r : Int × Int) : Value := .tuple #[.int .i64 r.1, .int .i64 r.2]

def rupR (a num den : Int) : Int × Int := if mayR num den then upR a num den else (0, 1)

def MA : Int := 1099511627776
def fitsR (n num den : Int) : Int := if n < 0 ∨ mayR num den = false then 0 else if (downR n den num).2 = 0 then min (downR n den num).1 MA else MA

end Go.Proofs.YtahdgojcebajkaaGreat
