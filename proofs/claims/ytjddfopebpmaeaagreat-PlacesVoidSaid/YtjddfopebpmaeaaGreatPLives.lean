/- Chapter 12's example, evaluated. -/
import Derived.Test.YtjddfopebpmaeaaGreatPlace5
namespace Go.Proofs.YtjddfopebpmaeaaGreat

def exL3 : Led := (trustR exL 1 2 1 9).2
def exB2 : Bk := (placeR exB 2 1 2 5 1 1).2.2
def exO1 : Off := ⟨0, 1, 2, 1, 7, 1, 1⟩
def exO2 : Off := ⟨0, 1, 2, 1, 7, 2, 3⟩
set_option maxRecDepth 100000 in
theorem ex_c11 : (comeR exL3 exB2 exO1).1 = 0 := by decide +kernel
set_option maxRecDepth 100000 in
theorem ex_c12 : (comeR exL3 exB2 exO1).2.1 = 3 := by decide +kernel
set_option maxRecDepth 100000 in
theorem ex_c13 : (comeR exL3 exB2 exO1).2.2.2.2 = ([(2, 1, 1, 5, 5)] : List (Int × Int × Int × Int × Int)) := by decide +kernel
set_option maxRecDepth 100000 in
theorem ex_c14 : (findR (comeR exL3 exB2 exO1).2.2.2.1.offs 3).map Off.left = some 2 ∧ (findR (comeR exL3 exB2 exO1).2.2.2.1.offs 3).isSome = true := by decide +kernel
set_option maxRecDepth 100000 in
theorem ex_c21 : (comeR exL3 exB2 exO2).1 = 0 := by decide +kernel
set_option maxRecDepth 100000 in
theorem ex_c22 : (comeR exL3 exB2 exO2).2.1 = 0 := by decide +kernel
set_option maxRecDepth 100000 in
theorem ex_c23 : (comeR exL3 exB2 exO2).2.2.2.2 = ([(2, 1, 1, 5, 5), (1, 1, 1, 1, 2)] : List (Int × Int × Int × Int × Int)) := by decide +kernel
theorem ex_seqN : SeqN exB2 := by unfold SeqN; decide +kernel
end Go.Proofs.YtjddfopebpmaeaaGreat
