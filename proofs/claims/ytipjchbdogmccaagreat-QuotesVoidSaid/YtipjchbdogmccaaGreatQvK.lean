/- QuotesVoid's row: what it says of the program, piece by piece. -/
import Derived.Test.YtipjchbdogmccaaGreatRows
import Derived.Test.YtipjchbdogmccaaGreatBase
import Derived.ProofKit
namespace Go.Proofs.YtipjchbdogmccaaGreat
open Go.RowKit
theorem qv_q1:laidOutB Tryz.prog=true:=by kernel_rfl
theorem qv_q2:mapsRowed Tryz.prog=true:=by kernel_rfl
theorem qv_q3:(Rows.quotesVoidRow.inPlace==Tryz.prog.inPlace 10)=true:=by kernel_rfl
theorem qv_q4:(Rows.quotesVoidRow.unfollowed==Tryz.prog.unfollowed 10)=true:=by kernel_rfl
theorem qv_q5:(Rows.quotesVoidRow.recurses==Tryz.prog.recurses 10)=true:=by kernel_rfl
theorem qv_q6:(Rows.quotesVoidRow.named==Tryz.prog.varsNamed 10)=true:=by kernel_rfl
theorem qv_q7:Tryz.prog.stopsHeard=true:=by kernel_rfl
theorem qv_q8:Tryz.prog.mayEnter=true:=by kernel_rfl
theorem qv_q9:(Rows.quotesVoidRow.lifted==Tryz.prog.liftsFinal)=true:=by kernel_rfl
theorem qv_q10:(Rows.quotesVoidRow.plainKeys==Tryz.prog.plainKeys)=true:=by kernel_rfl
theorem qv_q11:(Tryz.prog.make==some Rows.quotesVoidRow.make)=true:=by kernel_rfl
theorem qv_q12:(Tryz.prog.stops==[])=true:=by kernel_rfl
theorem qv_q13:(Tryz.prog.stopKnobs==[])=true:=by kernel_rfl
theorem qv_k2:joinedFacts Tryz.prog 10 Tryz.f10 Rows.quotesVoidSpec Rows.quotesVoidRow=true:=by
 unfold joinedFacts
 rw [qv_q1,qv_q2,qv_q3,qv_q4,qv_q5,qv_q6,qv_q7,qv_q8,qv_q9,qv_q10,qv_q11,qv_q12,qv_q13]
 kernel_rfl
end Go.Proofs.YtipjchbdogmccaaGreat
