/- The walk of FillsMost: whatever the world and the ask, it answers true. -/
import Derived.Test.YtjddfopebpmaeaaMostA
import Derived.Test.YtjddfopebpmaeaaMostB
import Derived.Test.YtjddfopebpmaeaaMostC
namespace Go.Proofs.Ytjddfopebpmaeaa
open Go.RowKit Go.Rg Go.BigFrame

theorem most10_any (va vo : Value) (acts : List Act5) (offs : List Off) (w : World) (ha : ArgSl w 5 va acts.length (actCells acts)) (hoa : ∀ x ∈ acts, x.ok) (ho : ArgSl w 7 vo offs.length (offCells offs)) (hoo : ∀ x ∈ offs, x.in64)
    (seq taker to n0 most : Int) (full : Bool) (hn0 : n0 ≤ 9223372036854775807) (hm0 : most ≤ 9223372036854775807) :
    Calls Try.prog 4 #[.agg #[va, vo], .agg #[.int .u64 seq, .int .u8 taker, .int .u8 to, .int .i64 n0, .int .i64 most, .bool full]] w (Ret (.bool true) w) := by
  cases hg : (decide (120 < acts.length) || decide (40 < offs.length)) with
  | true => exact most10_bad va vo acts offs w ha hoa ho hoo seq taker to n0 most full hn0 hm0 (Or.inl hg)
  | false =>
    cases hf : findR (madeB offs).offs seq with
    | none => exact most10_bad va vo acts offs w ha hoa ho hoo seq taker to n0 most full hn0 hm0 (Or.inr fun o ho => by rw [hf] at ho; cases ho)
    | some o =>
      obtain ⟨oseq, own, sell, buy, left, num, den⟩ := o
      cases hb : (!(own == taker) && hasP (madeL acts) own && hasP (madeL acts) taker && hasP (madeL acts) to && decide (0 < n0) && decide (0 < most)) with
      | false =>
        refine most10_bad va vo acts offs w ha hoa ho hoo seq taker to n0 most full hn0 hm0 (Or.inr fun o ho => ?_)
        rw [hf] at ho
        cases ho
        exact hb
      | true =>
        simp only [Bool.and_eq_true, Bool.not_eq_true', decide_eq_true_eq] at hb
        obtain ⟨⟨⟨⟨⟨q1, q2⟩, q3⟩, q4⟩, q5⟩, q6⟩ := hb
        by_cases hq : mayT (madeL acts) (madeB offs) seq taker to n0 most < n0 ∧ mayT (madeL acts) (madeB offs) seq taker to n0 most < left ∧ (to = own ∨ mayT (madeL acts) (madeB offs) seq taker to n0 most < mostR (ofR (madeL acts) sell) own to)
        · exact most10_over va vo acts offs w ha hoa ho hoo seq taker to n0 most full hn0 hm0 hg oseq own sell buy left num den hf ⟨q1, q2, q3, q4, q5, q6⟩ hq
        · refine most10_rest va vo acts offs w ha hoa ho hoo seq taker to n0 most full hn0 hm0 hg oseq own sell buy left num den hf ⟨q1, q2, q3, q4, q5, q6⟩ ?_
          omega
end Go.Proofs.Ytjddfopebpmaeaa
