/- JournalsVoid's row: what it says of the program, piece by piece. -/
import Derived.Test.YtipjchbdogmccaaGreatRows
import Derived.Test.YtipjchbdogmccaaGreatBase
import Derived.ProofKit
namespace Go.Proofs.YtipjchbdogmccaaGreat
open Go.RowKit
theorem jv_q1:laidOutB Tryz.prog=true:=by kernel_rfl
theorem jv_q2:mapsRowed Tryz.prog=true:=by kernel_rfl
theorem jv_q3:(Rows.journalsVoidRow.inPlace==Tryz.prog.inPlace 9)=true:=by kernel_rfl
theorem jv_q4:(Rows.journalsVoidRow.unfollowed==Tryz.prog.unfollowed 9)=true:=by kernel_rfl
theorem jv_q5:(Rows.journalsVoidRow.recurses==Tryz.prog.recurses 9)=true:=by kernel_rfl
theorem jv_q6:(Rows.journalsVoidRow.named==Tryz.prog.varsNamed 9)=true:=by kernel_rfl
theorem jv_q7:Tryz.prog.stopsHeard=true:=by kernel_rfl
theorem jv_q8:Tryz.prog.mayEnter=true:=by kernel_rfl
theorem jv_q9:(Rows.journalsVoidRow.lifted==Tryz.prog.liftsFinal)=true:=by kernel_rfl
theorem jv_q10:(Rows.journalsVoidRow.plainKeys==Tryz.prog.plainKeys)=true:=by kernel_rfl
theorem jv_q11:(Tryz.prog.make==some Rows.journalsVoidRow.make)=true:=by kernel_rfl
theorem jv_q12:(Tryz.prog.stops==[])=true:=by kernel_rfl
theorem jv_q13:(Tryz.prog.stopKnobs==[])=true:=by kernel_rfl
theorem jv_k2:joinedFacts Tryz.prog 9 Tryz.f9 Rows.journalsVoidSpec Rows.journalsVoidRow=true:=by
 unfold joinedFacts
 rw [jv_q1,jv_q2,jv_q3,jv_q4,jv_q5,jv_q6,jv_q7,jv_q8,jv_q9,jv_q10,jv_q11,jv_q12,jv_q13]
 kernel_rfl
end Go.Proofs.YtipjchbdogmccaaGreat
