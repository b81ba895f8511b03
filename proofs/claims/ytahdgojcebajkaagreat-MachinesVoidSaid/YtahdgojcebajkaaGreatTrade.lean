/- The walk of trade: what a fill may be made of. -/
import Derived.Test.YtahdgojcebajkaaGreatWf
import Derived.Test.YtahdgojcebajkaaGreatGen
namespace Go.Proofs.YtahdgojcebajkaaGreat
open Go.RowKit Go.Rg Go.BigFrame

def okT (fo : Option Off) (hp : Int → Bool) (taker to want most : Int) : Bool := match fo with
  | none => false
  | some o => !(o.owner == taker) && hp o.owner && hp taker && hp to && decide (0 < want) && decide (0 < most)

theorem Ret.clsK {S : List Nat} {v : Value} {w1 : World} {p : KeepOf S w1} {f : FuncId} {args : Array Value} {P : Program} (h : Calls P f args p.to (Ret v p.to)) :
    Calls P f args p.to fun e w'' => e = .returned v ∧ ∃ q : KeepOf S w1, w'' = q.to :=
  h.mono fun _ _ ⟨h1, h2⟩ => ⟨h1, ⟨_, p.h.trans (Keep.of_ext h2)⟩, rfl⟩

end Go.Proofs.YtahdgojcebajkaaGreat
