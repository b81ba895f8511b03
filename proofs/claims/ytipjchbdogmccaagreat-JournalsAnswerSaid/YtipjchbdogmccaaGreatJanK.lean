/- JournalsAnswer's row: what it says of the program, piece by piece. -/
import Derived.Test.YtipjchbdogmccaaGreatRows
import Derived.Test.YtipjchbdogmccaaGreatBase
import Derived.ProofKit
namespace Go.Proofs.YtipjchbdogmccaaGreat
open Go.RowKit
theorem jan_q1:laidOutB Tryz.prog=true:=by kernel_rfl
theorem jan_q2:mapsRowed Tryz.prog=true:=by kernel_rfl
theorem jan_q3:(Rows.journalsAnswerRow.inPlace==Tryz.prog.inPlace 8)=true:=by kernel_rfl
theorem jan_q4:(Rows.journalsAnswerRow.unfollowed==Tryz.prog.unfollowed 8)=true:=by kernel_rfl
theorem jan_q5:(Rows.journalsAnswerRow.recurses==Tryz.prog.recurses 8)=true:=by kernel_rfl
theorem jan_q6:(Rows.journalsAnswerRow.named==Tryz.prog.varsNamed 8)=true:=by kernel_rfl
theorem jan_q7:Tryz.prog.stopsHeard=true:=by kernel_rfl
theorem jan_q8:Tryz.prog.mayEnter=true:=by kernel_rfl
theorem jan_q9:(Rows.journalsAnswerRow.lifted==Tryz.prog.liftsFinal)=true:=by kernel_rfl
theorem jan_q10:(Rows.journalsAnswerRow.plainKeys==Tryz.prog.plainKeys)=true:=by kernel_rfl
theorem jan_q11:(Tryz.prog.make==some Rows.journalsAnswerRow.make)=true:=by kernel_rfl
theorem jan_q12:(Tryz.prog.stops==[])=true:=by kernel_rfl
theorem jan_q13:(Tryz.prog.stopKnobs==[])=true:=by kernel_rfl
theorem jan_k2:joinedFacts Tryz.prog 8 Tryz.f8 Rows.journalsAnswerSpec Rows.journalsAnswerRow=true:=by
 unfold joinedFacts
 rw [jan_q1,jan_q2,jan_q3,jan_q4,jan_q5,jan_q6,jan_q7,jan_q8,jan_q9,jan_q10,jan_q11,jan_q12,jan_q13]
 kernel_rfl
end Go.Proofs.YtipjchbdogmccaaGreat
