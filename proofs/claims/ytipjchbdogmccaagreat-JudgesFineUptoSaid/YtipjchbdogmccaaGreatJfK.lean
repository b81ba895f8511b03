/- JudgesFine's row: what it says of the program, piece by piece. -/
import Derived.Test.YtipjchbdogmccaaGreatRows
import Derived.Test.YtipjchbdogmccaaGreatBase
import Derived.ProofKit
namespace Go.Proofs.YtipjchbdogmccaaGreat
open Go.RowKit
theorem jfi_q1:laidOutB Tryz.prog=true:=by kernel_rfl
theorem jfi_q2:mapsRowed Tryz.prog=true:=by kernel_rfl
theorem jfi_q3:(Rows.judgesFineUptoRow.inPlace==Tryz.prog.inPlace 4)=true:=by kernel_rfl
theorem jfi_q4:(Rows.judgesFineUptoRow.unfollowed==Tryz.prog.unfollowed 4)=true:=by kernel_rfl
theorem jfi_q5:(Rows.judgesFineUptoRow.recurses==Tryz.prog.recurses 4)=true:=by kernel_rfl
theorem jfi_q6:(Rows.judgesFineUptoRow.named==Tryz.prog.varsNamed 4)=true:=by kernel_rfl
theorem jfi_q7:Tryz.prog.stopsHeard=true:=by kernel_rfl
theorem jfi_q8:Tryz.prog.mayEnter=true:=by kernel_rfl
theorem jfi_q9:(Rows.judgesFineUptoRow.lifted==Tryz.prog.liftsFinal)=true:=by kernel_rfl
theorem jfi_q10:(Rows.judgesFineUptoRow.plainKeys==Tryz.prog.plainKeys)=true:=by kernel_rfl
theorem jfi_q11:(Tryz.prog.make==some Rows.judgesFineUptoRow.make)=true:=by kernel_rfl
theorem jfi_q12:(Tryz.prog.stops==[])=true:=by kernel_rfl
theorem jfi_q13:(Tryz.prog.stopKnobs==[])=true:=by kernel_rfl
theorem jfi_k2:joinedFacts Tryz.prog 4 Tryz.f4 (Rows.OpenSpec.upto Rows.judgesFineSpec).bare Rows.judgesFineUptoRow=true:=by
 unfold joinedFacts
 rw [jfi_q1,jfi_q2,jfi_q3,jfi_q4,jfi_q5,jfi_q6,jfi_q7,jfi_q8,jfi_q9,jfi_q10,jfi_q11,jfi_q12,jfi_q13]
 kernel_rfl
end Go.Proofs.YtipjchbdogmccaaGreat
