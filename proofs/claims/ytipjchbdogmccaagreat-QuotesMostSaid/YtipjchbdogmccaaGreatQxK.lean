/- QuotesMost's row: what it says of the program, piece by piece. -/
import Derived.Test.YtipjchbdogmccaaGreatRows
import Derived.Test.YtipjchbdogmccaaGreatBase
import Derived.ProofKit
namespace Go.Proofs.YtipjchbdogmccaaGreat
open Go.RowKit
theorem qx_q1:laidOutB Tryz.prog=true:=by kernel_rfl
theorem qx_q2:mapsRowed Tryz.prog=true:=by kernel_rfl
theorem qx_q3:(Rows.quotesMostRow.inPlace==Tryz.prog.inPlace 13)=true:=by kernel_rfl
theorem qx_q4:(Rows.quotesMostRow.unfollowed==Tryz.prog.unfollowed 13)=true:=by kernel_rfl
theorem qx_q5:(Rows.quotesMostRow.recurses==Tryz.prog.recurses 13)=true:=by kernel_rfl
theorem qx_q6:(Rows.quotesMostRow.named==Tryz.prog.varsNamed 13)=true:=by kernel_rfl
theorem qx_q7:Tryz.prog.stopsHeard=true:=by kernel_rfl
theorem qx_q8:Tryz.prog.mayEnter=true:=by kernel_rfl
theorem qx_q9:(Rows.quotesMostRow.lifted==Tryz.prog.liftsFinal)=true:=by kernel_rfl
theorem qx_q10:(Rows.quotesMostRow.plainKeys==Tryz.prog.plainKeys)=true:=by kernel_rfl
theorem qx_q11:(Tryz.prog.make==some Rows.quotesMostRow.make)=true:=by kernel_rfl
theorem qx_q12:(Tryz.prog.stops==[])=true:=by kernel_rfl
theorem qx_q13:(Tryz.prog.stopKnobs==[])=true:=by kernel_rfl
theorem qx_k2:joinedFacts Tryz.prog 13 Tryz.f13 Rows.quotesMostSpec Rows.quotesMostRow=true:=by
 unfold joinedFacts
 rw [qx_q1,qx_q2,qx_q3,qx_q4,qx_q5,qx_q6,qx_q7,qx_q8,qx_q9,qx_q10,qx_q11,qx_q12,qx_q13]
 kernel_rfl
end Go.Proofs.YtipjchbdogmccaaGreat
