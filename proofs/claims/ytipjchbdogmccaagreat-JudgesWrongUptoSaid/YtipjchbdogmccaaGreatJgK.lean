/- JudgesWrong's row: what it says of the program, piece by piece. -/
import Derived.Test.YtipjchbdogmccaaGreatRows
import Derived.Test.YtipjchbdogmccaaGreatBase
import Derived.ProofKit
namespace Go.Proofs.YtipjchbdogmccaaGreat
open Go.RowKit
theorem jgi_q1:laidOutB Tryz.prog=true:=by kernel_rfl
theorem jgi_q2:mapsRowed Tryz.prog=true:=by kernel_rfl
theorem jgi_q3:(Rows.judgesWrongUptoRow.inPlace==Tryz.prog.inPlace 5)=true:=by kernel_rfl
theorem jgi_q4:(Rows.judgesWrongUptoRow.unfollowed==Tryz.prog.unfollowed 5)=true:=by kernel_rfl
theorem jgi_q5:(Rows.judgesWrongUptoRow.recurses==Tryz.prog.recurses 5)=true:=by kernel_rfl
theorem jgi_q6:(Rows.judgesWrongUptoRow.named==Tryz.prog.varsNamed 5)=true:=by kernel_rfl
theorem jgi_q7:Tryz.prog.stopsHeard=true:=by kernel_rfl
theorem jgi_q8:Tryz.prog.mayEnter=true:=by kernel_rfl
theorem jgi_q9:(Rows.judgesWrongUptoRow.lifted==Tryz.prog.liftsFinal)=true:=by kernel_rfl
theorem jgi_q10:(Rows.judgesWrongUptoRow.plainKeys==Tryz.prog.plainKeys)=true:=by kernel_rfl
theorem jgi_q11:(Tryz.prog.make==some Rows.judgesWrongUptoRow.make)=true:=by kernel_rfl
theorem jgi_q12:(Tryz.prog.stops==[])=true:=by kernel_rfl
theorem jgi_q13:(Tryz.prog.stopKnobs==[])=true:=by kernel_rfl
theorem jgi_k2:joinedFacts Tryz.prog 5 Tryz.f5 (Rows.OpenSpec.upto Rows.judgesWrongSpec).bare Rows.judgesWrongUptoRow=true:=by
 unfold joinedFacts
 rw [jgi_q1,jgi_q2,jgi_q3,jgi_q4,jgi_q5,jgi_q6,jgi_q7,jgi_q8,jgi_q9,jgi_q10,jgi_q11,jgi_q12,jgi_q13]
 kernel_rfl
end Go.Proofs.YtipjchbdogmccaaGreat
