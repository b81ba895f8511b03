/- JournalsChain's row: what it says of the program, piece by piece. -/
import Derived.Test.YtipjchbdogmccaaGreatRows
import Derived.Test.YtipjchbdogmccaaGreatBase
import Derived.ProofKit
namespace Go.Proofs.YtipjchbdogmccaaGreat
open Go.RowKit
theorem jch_q1:laidOutB Tryz.prog=true:=by kernel_rfl
theorem jch_q2:mapsRowed Tryz.prog=true:=by kernel_rfl
theorem jch_q3:(Rows.journalsChainRow.inPlace==Tryz.prog.inPlace 7)=true:=by kernel_rfl
theorem jch_q4:(Rows.journalsChainRow.unfollowed==Tryz.prog.unfollowed 7)=true:=by kernel_rfl
theorem jch_q5:(Rows.journalsChainRow.recurses==Tryz.prog.recurses 7)=true:=by kernel_rfl
theorem jch_q6:(Rows.journalsChainRow.named==Tryz.prog.varsNamed 7)=true:=by kernel_rfl
theorem jch_q7:Tryz.prog.stopsHeard=true:=by kernel_rfl
theorem jch_q8:Tryz.prog.mayEnter=true:=by kernel_rfl
theorem jch_q9:(Rows.journalsChainRow.lifted==Tryz.prog.liftsFinal)=true:=by kernel_rfl
theorem jch_q10:(Rows.journalsChainRow.plainKeys==Tryz.prog.plainKeys)=true:=by kernel_rfl
theorem jch_q11:(Tryz.prog.make==some Rows.journalsChainRow.make)=true:=by kernel_rfl
theorem jch_q12:(Tryz.prog.stops==[])=true:=by kernel_rfl
theorem jch_q13:(Tryz.prog.stopKnobs==[])=true:=by kernel_rfl
theorem jch_k2:joinedFacts Tryz.prog 7 Tryz.f7 Rows.journalsChainSpec Rows.journalsChainRow=true:=by
 unfold joinedFacts
 rw [jch_q1,jch_q2,jch_q3,jch_q4,jch_q5,jch_q6,jch_q7,jch_q8,jch_q9,jch_q10,jch_q11,jch_q12,jch_q13]
 kernel_rfl
end Go.Proofs.YtipjchbdogmccaaGreat
