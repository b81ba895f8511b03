/- A call under a guard, in a region. What a row of another kind is not; numbers of offers rise. -/
import Derived.Test.YtjddfopebpmaeaaGreatAgain
import Derived.Test.YtjddfopebpmaeaaGreatLed6
import Derived.Test.YtjddfopebpmaeaaGreatMade
import Derived.Test.YtjddfopebpmaeaaGreatPlaceP

namespace Go.Rg
open Go.RowKit
section
variable {P : Program} {ops : Array Oper} {md : Region.Mode}
/-- A call that a guard lets by. -/
theorem wpX_callg {n f : Nat} {L : Array Bool → Act → World → Prop} {listed : Array Bool} {a : Act} {w0 w : World} (i : Nat) (g : FuncId) (fn : Func) (vals : Array Value) (o : Oper) (ho : ops[i]? = some o) (args : Array Operand) (ts : Array TypeId)
    (hop : o.op = .call { callee := .value (.func g), args := args, argTypes := ts }) (hf : P.funcs[g]? = some fn) (hb : fn.body.isNone = false) (hn : (fn.name == "runtime.NumGoroutine") = false) (hv : args.map a.eval = vals) (hw : Region.wanted o (yielded ops a.tmps) = true)
    (hr : Region.ready md ops listed = [i]) (hin : i < n)
    (h : ∀ w' : World, Ext w0 w' → Ext w w' → Calls P g vals w' (fun e w'' => ∃ v, e = .returned v ∧ Ext w0 w'' ∧ wpX P md ops w0 n L f (listed.setIfInBounds i true) (a.put o.dst v) w'')) : wpX P md ops w0 n L (f + 1) listed a w :=
  wpX_one i o hr hin ho hw fun w' h0 hw' => by
    unfold xRun
    rw [run_call_func fn hop hf hb hn w', hv]
    exact h w' h0 hw'
end
end Go.Rg

namespace Go.Proofs.YtjddfopebpmaeaaGreat
open Go.RowKit Go.Rg Go.BigFrame

theorem led_ne {w : World} {p m x : Nat} {L : Led} {cs : Array Value} {t : TypeId} {fr : Nat × Nat} (h : IsLed w p m L) (hr : w.heap[x]? = some (.cells cs t fr)) (ht : t ≠ 76) : p ∉ [x] ∧ m ∉ [x] := by
  obtain ⟨es, c, hm, _⟩ := h.map
  refine ⟨fun hx => ?_, fun hx => ?_⟩
  · have : p = x := by simpa using hx
    subst this
    rw [h.row] at hr
    simp only [Option.some.injEq, Obj.cells.injEq] at hr
    exact ht hr.2.1.symm
  · have : m = x := by simpa using hx
    subst this
    rw [hm] at hr
    cases hr
theorem book_ne {w : World} {p x : Nat} {g : Option Nat} {B : Bk} {cs : Array Value} {t : TypeId} {fr : Nat × Nat} (h : IsBook w p g B) (hr : w.heap[x]? = some (.cells cs t fr)) (ht : t ≠ 78) (ht2 : t ≠ 60) : p ∉ [x] ∧ ∀ y, g = some y → y ∉ [x] := by
  obtain ⟨v, hv, hg, hob⟩ := h.row
  refine ⟨fun hx => ?_, fun y hy hx => ?_⟩
  · have : p = x := by simpa using hx
    subst this
    rw [hv] at hr
    simp only [Option.some.injEq, Obj.cells.injEq] at hr
    exact ht hr.2.1.symm
  · have : y = x := by simpa using hx
    subst this
    rcases hob.2 with ⟨rfl, _⟩ | ⟨b, cap, cur, rfl, _, hh, _⟩
    · rw [← hg] at hy; simp [Value.ownBlock] at hy
    · rw [← hg] at hy
      simp only [Value.ownBlock, Option.some.injEq] at hy
      subst hy
      rw [hh] at hr
      simp only [Option.some.injEq, Obj.cells.injEq] at hr
      exact ht2 hr.2.1.symm
theorem SlAt.keepS {S : List Nat} {w w' : World} {base size n : Nat} {v : Value} {xs : List Value} (h : SlAt w base size v n xs) (k : Keep S w w') (hS : ∀ x ∈ S, x < base) : SlAt w' base size v n xs := by
  obtain ⟨A, cap, h0, h1, h2, h3, h4⟩ := h
  refine ⟨A, cap, h0, h1, h2, h3, ?_⟩
  rcases h4 with h4 | ⟨g, h4, h5, h6, h7⟩
  · exact .inl h4
  · exact .inr ⟨g, h4, h5, Nat.lt_of_lt_of_le h6 k.size, fun j u hu => by
      rw [cell_block (k.block g h6 (fun hx => by have := hS g hx; omega))]
      exact h7 j u hu⟩

/-- Numbers rise. -/
def SeqLt (B : Bk) : Prop := SeqN B ∧ ∀ o ∈ B.offs, o.seq < B.next
theorem seqLt_step {B : Bk} (h : SeqLt B) (o : Off) : SeqLt (stepB B o) := by
  unfold stepB placeR
  split
  · exact h
  · split
    · exact h
    · obtain ⟨h1, h2⟩ := h
      refine ⟨?_, fun x hx => ?_⟩
      · unfold SeqN at *
        simp only [List.map_append, List.map_cons, List.map_nil]
        rw [List.nodup_append]
        refine ⟨h1, by simp, fun a ha b hb e => ?_⟩
        obtain ⟨y, hy, rfl⟩ := List.mem_map.1 ha
        have := h2 y hy
        simp at hb
        omega
      · simp only [List.mem_append, List.mem_singleton] at hx
        rcases hx with hx | rfl
        · have := h2 x hx
          simp only
          omega
        · simp only
          omega
theorem seqLt_made (l : List Off) : SeqLt (madeB l) := by
  unfold madeB
  have h0 : SeqLt ⟨[], 1⟩ := ⟨by simp [SeqN], fun o ho => by simp at ho⟩
  generalize (⟨[], 1⟩ : Bk) = B at *
  induction l generalizing B with
  | nil => exact h0
  | cons o l ih => exact ih _ (seqLt_step h0 o)
end Go.Proofs.YtjddfopebpmaeaaGreat
