/- Rates once more, the draws counted: divisor, least, great, May. -/
import Derived.Test.YtahdgojcebajkaaGreatNum
import Derived.Test.YtahdgojcebajkaaGreatRgD
namespace Go.Proofs.YtahdgojcebajkaaGreat.D
open Go.RowKit Go.RgD Go.BigFrame

theorem waiter : Waiter Tryz.prog := ⟨98, 2, Tryz.f98, Tryz.func98, by kernel_rfl, by kernel_rfl⟩
def Ret (v : Value) (w : World) (e : Ending) (w' : World) : Prop := e = .returned v ∧ Ext w w'
theorem Ret.cls {v : Value} {w1 : World} {p : ExtOf w1} {f : FuncId} {args : Array Value} {P : Program} (h : Calls P f args p.to (Ret v p.to)) :
    Calls P f args p.to fun e w'' => e = .returned v ∧ ∃ q : ExtOf w1, w'' = q.to :=
  h.mono fun _ _ ⟨h1, h2⟩ => ⟨h1, ⟨_, Ext.trans p.h h2⟩, rfl⟩
end Go.Proofs.YtahdgojcebajkaaGreat.D
