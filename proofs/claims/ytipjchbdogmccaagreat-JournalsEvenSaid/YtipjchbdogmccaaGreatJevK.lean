/- JournalsEven's row: what it says of the program, piece by piece. -/
import Derived.Test.YtipjchbdogmccaaGreatRows
import Derived.Test.YtipjchbdogmccaaGreatBase
import Derived.ProofKit
namespace Go.Proofs.YtipjchbdogmccaaGreat
open Go.RowKit
theorem jev_q1:laidOutB Tryz.prog=true:=by kernel_rfl
theorem jev_q2:mapsRowed Tryz.prog=true:=by kernel_rfl
theorem jev_q3:(Rows.journalsEvenRow.inPlace==Tryz.prog.inPlace 6)=true:=by kernel_rfl
theorem jev_q4:(Rows.journalsEvenRow.unfollowed==Tryz.prog.unfollowed 6)=true:=by kernel_rfl
theorem jev_q5:(Rows.journalsEvenRow.recurses==Tryz.prog.recurses 6)=true:=by kernel_rfl
theorem jev_q6:(Rows.journalsEvenRow.named==Tryz.prog.varsNamed 6)=true:=by kernel_rfl
theorem jev_q7:Tryz.prog.stopsHeard=true:=by kernel_rfl
theorem jev_q8:Tryz.prog.mayEnter=true:=by kernel_rfl
theorem jev_q9:(Rows.journalsEvenRow.lifted==Tryz.prog.liftsFinal)=true:=by kernel_rfl
theorem jev_q10:(Rows.journalsEvenRow.plainKeys==Tryz.prog.plainKeys)=true:=by kernel_rfl
theorem jev_q11:(Tryz.prog.make==some Rows.journalsEvenRow.make)=true:=by kernel_rfl
theorem jev_q12:(Tryz.prog.stops==[])=true:=by kernel_rfl
theorem jev_q13:(Tryz.prog.stopKnobs==[])=true:=by kernel_rfl
theorem jev_k2:joinedFacts Tryz.prog 6 Tryz.f6 Rows.journalsEvenSpec Rows.journalsEvenRow=true:=by
 unfold joinedFacts
 rw [jev_q1,jev_q2,jev_q3,jev_q4,jev_q5,jev_q6,jev_q7,jev_q8,jev_q9,jev_q10,jev_q11,jev_q12,jev_q13]
 kernel_rfl
end Go.Proofs.YtipjchbdogmccaaGreat
