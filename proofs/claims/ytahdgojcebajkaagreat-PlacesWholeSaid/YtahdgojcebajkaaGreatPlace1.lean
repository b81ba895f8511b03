/- Places: may an offer be. -/
import Derived.Test.YtahdgojcebajkaaGreatHCopy
import Derived.Test.YtahdgojcebajkaaGreatBest2
import Derived.Test.YtahdgojcebajkaaGreatAgain
namespace Go.Proofs.YtahdgojcebajkaaGreat
open Go.RowKit Go.Rg Go.BigFrame

/-- May an offer be? -/
def cmayR (o : Off) : Bool := (placeR ⟨[], 1⟩ o.owner o.sell o.buy o.left o.num o.den).2.1 == 0

set_option maxRecDepth 100000 in
set_option maxHeartbeats 800000 in
theorem cmay_any (o : Off) (w : World) (b1 : o.num ≤ 9223372036854775807) (b2 : o.den ≤ 9223372036854775807) : Calls Tryz.prog 53 #[o.agg] w (Ret (.bool (cmayR o)) w) := by
  obtain ⟨o0, o1, o2, o3, o4, o5, o6⟩ := o
  unfold cmayR
  simp only [Off.agg] at *
  have e0 := ext_alloc w (.cells #[.int .u64 o0, .int .u8 o1, .int .u8 o2, .int .u8 o3, .int .i64 o4, .int .i64 o5, .int .i64 o6] 32)
  have h0 := heap_alloc_top w (.cells #[.int .u64 o0, .int .u8 o1, .int .u8 o2, .int .u8 o3, .int .i64 o4, .int .i64 o5, .int .i64 o6] 32)
  go_enter Tryz.func53, Tryz.ntmps53
  go_wp2
  refine wp_region_hat waiter 16 [0, 11, 12, 13, 14, 15] (by kernel_rfl) (by kernel_rfl) ?_
  intro w1 hw1
  have q0 : ∀ u : ExtOf w1, u.to.heap[w.heap.size]? = _ := fun u => (Ext.trans hw1 u.h).at h0
  have d1 : ∀ u : ExtOf w1, u.to.cell? ⟨w.heap.size, 1, none⟩ = _ := fun u => cell_at (j := 1) (q0 u) rfl
  have d2 : ∀ u : ExtOf w1, u.to.cell? ⟨w.heap.size, 2, none⟩ = _ := fun u => cell_at (j := 2) (q0 u) rfl
  have d3 : ∀ u : ExtOf w1, u.to.cell? ⟨w.heap.size, 3, none⟩ = _ := fun u => cell_at (j := 3) (q0 u) rfl
  have d4 : ∀ u : ExtOf w1, u.to.cell? ⟨w.heap.size, 4, none⟩ = _ := fun u => cell_at (j := 4) (q0 u) rfl
  have d5 : ∀ u : ExtOf w1, u.to.cell? ⟨w.heap.size, 5, none⟩ = _ := fun u => cell_at (j := 5) (q0 u) rfl
  have d6 : ∀ u : ExtOf w1, u.to.cell? ⟨w.heap.size, 6, none⟩ = _ := fun u => cell_at (j := 6) (q0 u) rfl
  clear q0
  simp only [heads, List.take_succ_cons, List.take_zero, List.contains_cons, List.contains_nil, Nat.reduceBEq, Bool.or_false, Bool.false_eq_true, Nat.reduceAdd, Bool.or_true, ↓reduceIte, Bool.or_self]
  repeat (go_big_quiet_step (fail))
  refine wpQuiet_nil ?_
  clear d1 d2 d3 d4 d5 d6
  refine wpX_callf 0 50 _ #[] _ (by rfl) _ _ (by rfl) Tryz.func50 rfl rfl (by kernel_rfl) (by rfl) (by kernel_rfl) (by decide) ?_
  intro w3 h03 h3
  refine (bnew_any w3).mono ?_
  rintro e w4 ⟨pb, g, rfl, e4, hB4, hpb4, hg4⟩
  refine ⟨_, rfl, Ext.trans h03 e4, ?_⟩
  refine wpX_callf 11 51 _ #[.pointer (some ⟨pb, 0, none⟩), .int .u8 o1, .int .u8 o2, .int .u8 o3, .int .i64 o4, .agg #[.int .i64 o5, .int .i64 o6]] _ (by rfl) _ _ (by rfl) Tryz.func51 rfl rfl (by kernel_rfl) (by rfl) (by kernel_rfl) (by decide) ?_
  intro w5 h05 h5
  refine (place_any pb g _ o1 o2 o3 o4 o5 o6 _ (hB4.ext h5) b1 b2).mono ?_
  rintro e w6 ⟨rfl, g', k6, hB6, hg6⟩
  have s3 := (Ext.trans e0 h03).size
  have s30 := h03.size
  have E6 : Ext _ w6 := (Keep.trans_fresh (S := []) (Keep.of_ext h05) k6 (fun x hx => by
    right
    rcases List.mem_cons.1 hx with rfl | hx
    · omega
    · have := hg4 x (by simpa using hx)
      omega)).ext
  refine ⟨_, rfl, E6, ?_⟩
  clear k6 hB6 hg6
  generalize placeR ⟨[], 1⟩ o1 o2 o3 o4 o5 o6 = r at *
  obtain ⟨r1, r2, r3⟩ := r
  refine wpX_again waiter 12 [] (by kernel_rfl) E6 ?_
  intro w1 hw1
  simp only [Act.put, List.getElem_toArray, List.getElem_cons_succ, List.getElem_cons_zero, List.setIfInBounds_toArray, List.set_cons_zero, List.set_cons_succ]
  simp only [heads, List.take_succ_cons, List.take_zero, List.drop_succ_cons, List.drop_zero, List.contains_nil, Bool.false_eq_true, Nat.reduceAdd, ↓reduceIte]
  repeat (go_big_quiet_step (fail))
  refine wpQuiet_nil ?_
  refine wpX_tail (by kernel_rfl) ?_
  intro w7 e7 e7'
  simp only [List.drop_succ_cons, List.drop_zero]
  go_wp2
  go_ret
  exact ⟨rfl, Ext.trans e0 (Ext.trans E6 e7)⟩
end Go.Proofs.YtahdgojcebajkaaGreat
