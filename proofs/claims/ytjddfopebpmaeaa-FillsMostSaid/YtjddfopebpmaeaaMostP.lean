/- Helpers of FillsMost's walk. -/
import Derived.Test.YtjddfopebpmaeaaFitP
import Derived.Test.YtjddfopebpmaeaaMade
import Derived.Test.YtjddfopebpmaeaaLives
namespace Go.Proofs.Ytjddfopebpmaeaa
open Go.RowKit Go.Rg Go.BigFrame

/-- A number in two words. -/
theorem split64 (x : Int) : ∃ X hi lo : Int, X = x ∧ X = hi * W64 + lo ∧ 0 ≤ lo ∧ lo < W64 := by
  refine ⟨x, x / W64, x % W64, rfl, ?_, Int.emod_nonneg _ (by rw [W64_eq]; decide), Int.emod_lt_of_pos _ (by rw [W64_eq]; decide)⟩
  have := Int.emod_add_mul_ediv x W64
  rw [Int.mul_comm] at this
  omega
theorem cmp64 {X Y A B C D : Int} (h : Y < X) (hX : X = A * W64 + B) (hY : Y = C * W64 + D) (b0 : 0 ≤ B) (b1 : B < W64) (d0 : 0 ≤ D) (d1 : D < W64) : decide (A < C) = false ∧ ((A == C) = false ∨ (A == C) = true ∧ decide (B ≤ D) = false) := by
  rw [W64_eq] at *
  refine ⟨?_, ?_⟩
  · rw [decide_eq_false_iff_not]; omega
  · by_cases hac : A = C
    · right
      refine ⟨by simpa using hac, ?_⟩
      rw [decide_eq_false_iff_not]; omega
    · left
      simpa using hac


section
variable {P : Program}
theorem wpList_min3 {ops : Array Oper} {rest : List Oper} {o : Oper} {a : Act} {w : World} {Q : Exit → Act → World → Prop} (hgd : o.guard = none) (r : Int) (x y z : Operand) (tx ty tz : TypeId) (k k' k'' : IntKind) (i j l : Int)
    (ho : o.op = .call { callee := .builtin .min, args := #[x, y, z], argTypes := #[tx, ty, tz] }) (hx : a.eval x = .int k i) (hy : a.eval y = .int k' j) (hz : a.eval z = .int k'' l) (hr : r = (if l < (if j < i then j else i) then l else (if j < i then j else i)))
    (h : wpList P ops Q rest (a.put o.dst (.int k r)) w) : wpList P ops Q (o :: rest) a w :=
  wpList_plain hgd fun K hK => by
    unfold Oper.wp execOp
    simp only [ho, resolve, invoke, builtin, Sem.run_bind, Sem.run_pure, Result.andThen_ok, List.map_toArray, List.map_cons, List.map_nil, hx, hy, hz, run_min_int3]
    rw [← hr]
    exact hK _ _ h
theorem wpList_max2 {ops : Array Oper} {rest : List Oper} {o : Oper} {a : Act} {w : World} {Q : Exit → Act → World → Prop} (hgd : o.guard = none) (r : Int) (x y : Operand) (tx ty : TypeId) (k k' : IntKind) (i j : Int)
    (ho : o.op = .call { callee := .builtin .max, args := #[x, y], argTypes := #[tx, ty] }) (hx : a.eval x = .int k i) (hy : a.eval y = .int k' j) (hr : r = (if j > i then j else i))
    (h : wpList P ops Q rest (a.put o.dst (.int k r)) w) : wpList P ops Q (o :: rest) a w :=
  wpList_plain hgd fun K hK => by
    unfold Oper.wp execOp
    simp only [ho, resolve, invoke, builtin, Sem.run_bind, Sem.run_pure, Result.andThen_ok, List.map_toArray, List.map_cons, List.map_nil, hx, hy, run_max_int2]
    rw [← hr]
    exact hK _ _ h
end
end Go.Proofs.Ytjddfopebpmaeaa
