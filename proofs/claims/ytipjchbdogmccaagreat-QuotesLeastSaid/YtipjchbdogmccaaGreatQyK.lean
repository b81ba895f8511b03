/- QuotesLeast's row: what it says of the program, piece by piece. -/
import Derived.Test.YtipjchbdogmccaaGreatRows
import Derived.Test.YtipjchbdogmccaaGreatBase
import Derived.ProofKit
namespace Go.Proofs.YtipjchbdogmccaaGreat
open Go.RowKit
theorem qy_q1:laidOutB Tryz.prog=true:=by kernel_rfl
theorem qy_q2:mapsRowed Tryz.prog=true:=by kernel_rfl
theorem qy_q3:(Rows.quotesLeastRow.inPlace==Tryz.prog.inPlace 12)=true:=by kernel_rfl
theorem qy_q4:(Rows.quotesLeastRow.unfollowed==Tryz.prog.unfollowed 12)=true:=by kernel_rfl
theorem qy_q5:(Rows.quotesLeastRow.recurses==Tryz.prog.recurses 12)=true:=by kernel_rfl
theorem qy_q6:(Rows.quotesLeastRow.named==Tryz.prog.varsNamed 12)=true:=by kernel_rfl
theorem qy_q7:Tryz.prog.stopsHeard=true:=by kernel_rfl
theorem qy_q8:Tryz.prog.mayEnter=true:=by kernel_rfl
theorem qy_q9:(Rows.quotesLeastRow.lifted==Tryz.prog.liftsFinal)=true:=by kernel_rfl
theorem qy_q10:(Rows.quotesLeastRow.plainKeys==Tryz.prog.plainKeys)=true:=by kernel_rfl
theorem qy_q11:(Tryz.prog.make==some Rows.quotesLeastRow.make)=true:=by kernel_rfl
theorem qy_q12:(Tryz.prog.stops==[])=true:=by kernel_rfl
theorem qy_q13:(Tryz.prog.stopKnobs==[])=true:=by kernel_rfl
theorem qy_k2:joinedFacts Tryz.prog 12 Tryz.f12 Rows.quotesLeastSpec Rows.quotesLeastRow=true:=by
 unfold joinedFacts
 rw [qy_q1,qy_q2,qy_q3,qy_q4,qy_q5,qy_q6,qy_q7,qy_q8,qy_q9,qy_q10,qy_q11,qy_q12,qy_q13]
 kernel_rfl
end Go.Proofs.YtipjchbdogmccaaGreat
