/- Debts that go round, walked: all that goes round. Debts that go round, walked: all that goes round these parties. Debts that go round, walked: the least that is left of them. -/
import Derived.Test.YtahdgojcebajkaaGreatDb
import Derived.Laws.MakeOwn
import Derived.OwnWalk
import Derived.Deep.MidRow

namespace Go.Rg
open Go.RowKit
section
variable {P : Program} {ops : Array Oper} {Q : Exit → Act → World → Prop} {rest : List Oper} {o : Oper} {a : Act} {w : World}
/-- A slice that is made whole. -/
theorem wpList_makeF (hg : o.guard = none) (l c : Operand) (t : TypeId) (hop : o.op = Op.makeSlice t l c) (base : Nat) (e : TypeId) (i : TypeInfo) (z : Value) (size : Nat) (h1 : P.underlying t = some (.slice e)) (h2 : P.info? e = some i) (h3 : i.zero = some z) (h4 : i.size = size)
    (kl kc : IntKind) (n : Nat) (hl : a.eval l = .int kl n) (hc : a.eval c = .int kc n) (b2 : i.bytes * n ≤ 281474976710656) (b3 : n ≤ maxLen) (b4 : base ≤ w.heap.size) (xs : List Value) (hx : (madeCells z.cells (n * size)).toList = xs)
    (h : ∀ w', Ext w w' → w.heap.size < w'.heap.size → w'.ownsRow base e size (.slice (some ⟨w.heap.size, 0, none⟩) n n) n xs → wpList P ops Q rest (a.put o.dst (.slice (some ⟨w.heap.size, 0, none⟩) n n)) w') : wpList P ops Q (o :: rest) a w :=
  wpList_plain hg fun K hK => by
    have hrun := run_make (P := P) w t e i z h1 h2 h3 kl kc n n (by omega) (by omega) (by
      have h : ((i.bytes * n : Nat) : Int) ≤ 281474976710656 := by omega
      rwa [Int.natCast_mul] at h) (by unfold maxLen at b3; omega)
    rw [h4] at hrun
    simp only [Int.toNat_natCast] at hrun
    unfold Oper.wp execOp
    simp only [hop, hl, hc, hrun, Sem.run_bind, Sem.run_pure, Result.andThen_ok]
    refine hK _ _ (h _ (ext_alloc _ _) (by rw [size_alloc]; omega) ⟨?_, .inr ⟨w.heap.size, n, _, rfl, b4, heap_alloc_top _ _, Nat.le_refl _, b3, by rw [size_madeCells], ?_⟩⟩)
    · rw [← hx, Array.length_toList, size_madeCells]
    · rw [List.take_of_length_le (by rw [Array.length_toList, size_madeCells]; exact Nat.le_refl _), hx]

/-- A value of several cells is stored in the midst of a row. -/
theorem wpList_mid (hgd : o.guard = none) (hd : o.dst = none) (ty : TypeId) (x y : Operand) (hop : o.op = .store ty x y) (b off : Nat) (cells : Array Value) (hx : a.eval x = .pointer (some ⟨b, off, none⟩)) (hy : a.eval y = .agg cells)
    (ht : w.there b off cells.size) (hi : (P.info? ty).map (·.size) = some cells.size) (h1 : cells.all (·.oneCell') = true) (h : wpList P ops Q rest a (w.setCells b off cells.toList)) : wpList P ops Q (o :: rest) a w :=
  wpList_plain hgd fun K hK => by
    unfold Oper.wp execOp
    simp only [hop, hx, hy, Instr.storeAt, Instr.sureAddr, Sem.run_bind, Sem.run_pure, Result.andThen_ok, run_storeVar_mid w b off ty cells ht hi h1, Oper.upon]
    rw [hd]
    exact hK _ _ h
end
theorem made2 (a b : Value) (n : Nat) : (madeCells #[a, b] (n * 2)).toList = (List.replicate n [a, b]).flatten := by
  induction n with
  | zero => simp [madeCells]
  | succ n ih =>
    rw [List.replicate_succ', List.flatten_append, ← ih, show (n + 1) * 2 = n * 2 + 1 + 1 by omega]
    unfold madeCells
    rw [Array.range_succ, Array.range_succ]
    simp

end Go.Rg
namespace Go.Proofs.YtahdgojcebajkaaGreat
open Go.RowKit Go.Rg Go.BigFrame

end Go.Proofs.YtahdgojcebajkaaGreat

namespace Go.Proofs.YtahdgojcebajkaaGreat
open Go.RowKit Go.Rg Go.BigFrame

end Go.Proofs.YtahdgojcebajkaaGreat

namespace Go.Proofs.YtahdgojcebajkaaGreat
open Go.RowKit Go.Rg Go.BigFrame

end Go.Proofs.YtahdgojcebajkaaGreat
