/- The walk of FillsVoid. -/
import Derived.Test.YtjddfopebpmaeaaLives
namespace Go.Proofs.Ytjddfopebpmaeaa
open Go.RowKit Go.Rg Go.BigFrame

theorem neq_fill0 (w : World) : (binOp .neq 41 (.agg #[.int .u64 0, .int .u8 0, .int .u8 0, .int .i64 0, .int .i64 0]) (.agg #[.int .u64 0, .int .u8 0, .int .u8 0, .int .i64 0, .int .i64 0])).run Try.prog w = .ok (.bool false) w := by kernel_rfl

/-- What each of the four houses does: nothing. -/
def VoidAt (W : World) (l b : Option Addr) : Prop := ∀ w', Ext W w' → ∀ seq taker to n most : Int,
  Calls Try.prog 7 #[.agg #[.pointer l, .pointer b], .int .u64 seq, .int .u8 taker, .int .u8 to, .int .i64 n] w' (Ret (fillV (0, 0, 0, 0, 0) 2) w') ∧
  Calls Try.prog 8 #[.agg #[.pointer l, .pointer b], .int .u64 seq, .int .u8 taker, .int .u8 to, .int .i64 n, .int .i64 most] w' (Ret (.int .i64 0) w')

theorem void0 (W : World) : VoidAt W none none := fun w' _ seq taker to n most =>
  ⟨do_void_l none none seq taker to n w' (fun w2 _ => copy_nil w2), may_void none none seq taker to n most w' (fun w2 _ => find_nil seq w2)⟩
theorem void1 (W : World) (p m : Nat) (L : Led) (h : IsLed W p m L) : VoidAt W (some ⟨p, 0, none⟩) none := fun w' k seq taker to n most =>
  ⟨do_void_b _ none seq taker to n w' (fun w2 k2 => (copy_any p m L w2 (h.ext (Ext.trans k k2))).mono (fun e w3 ⟨p3, m3, h1, h2, _⟩ => ⟨⟨_, h1⟩, h2⟩)) (fun w2 _ => bcopy_nil w2), may_void _ none seq taker to n most w' (fun w2 _ => find_nil seq w2)⟩
theorem void2 (W : World) (pb : Nat) (g : Option Nat) (h : IsBook W pb g ⟨[], 1⟩) : VoidAt W none (some ⟨pb, 0, none⟩) := fun w' k seq taker to n most =>
  ⟨do_void_l none _ seq taker to n w' (fun w2 _ => copy_nil w2), may_void none _ seq taker to n most w' (fun w2 k2 => by
    have := find_any pb g ⟨[], 1⟩ seq w2 (h.ext (Ext.trans k k2))
    exact this)⟩
theorem void3 (W : World) (p4 b4 : Nat) (v : Value) (h : W.heap[p4]? = some (.cells ledZero 35 (0, 0))) (hb : W.heap[b4]? = some (.cells #[v, .int .u64 0] 38 (0, 0))) : VoidAt W (some ⟨p4, 0, none⟩) (some ⟨b4, 0, none⟩) := fun w' k seq taker to n most =>
  ⟨do_void_l _ _ seq taker to n w' (fun w2 k2 => copy_zero p4 w2 ((Ext.trans k k2).at h)), may_void _ _ seq taker to n most w' (fun w2 k2 => find_zero b4 v seq w2 ((Ext.trans k k2).at hb))⟩

set_option maxRecDepth 100000 in
set_option maxHeartbeats 3200000 in
theorem void_any (seq taker to n most : Int) (full : Bool) (w : World) :
    Calls Try.prog 3 #[.agg #[.int .u64 seq, .int .u8 taker, .int .u8 to, .int .i64 n, .int .i64 most, .bool full]] w (Ret (.bool true) w) := by
  have h0 := heap_alloc_top w (.cells #[.int .u64 seq, .int .u8 taker, .int .u8 to, .int .i64 n, .int .i64 most, .bool full] 25)
  have e0 := ext_alloc w (.cells #[.int .u64 seq, .int .u8 taker, .int .u8 to, .int .i64 n, .int .i64 most, .bool full] 25)
  go_enter Try.func3, Try.ntmps3
  go_wp2_with fail
  refine (new_any _).mono ?_
  rintro e w1 ⟨p, m, rfl, e1, hL1, _, _⟩
  go_wp2_with fail
  refine (bnew_any _).mono ?_
  rintro e w2 ⟨pb, g, rfl, e2, hB2, _, _⟩
  have z0 := heap_alloc_top w2 (.cells ledZero 35)
  have ez := ext_alloc w2 (.cells ledZero 35)
  have sz := size_alloc w2 (.cells ledZero 35)
  have y0 := heap_alloc_top (w2.alloc (.cells ledZero 35)) (.cells #[.slice none 0 0, .int .u64 0] 38)
  have ey := ext_alloc (w2.alloc (.cells ledZero 35)) (.cells #[.slice none 0 0, .int .u64 0] 38)
  have sy := size_alloc (w2.alloc (.cells ledZero 35)) (.cells #[.slice none 0 0, .int .u64 0] 38)
  have x0 := heap_alloc_top ((w2.alloc (.cells ledZero 35)).alloc (.cells #[.slice none 0 0, .int .u64 0] 38)) (.cells #[.pointer none, .pointer none, .pointer (some ⟨p, 0, none⟩), .pointer none, .pointer none, .pointer (some ⟨pb, 0, none⟩), .pointer (some ⟨w2.heap.size, 0, none⟩), .pointer (some ⟨w2.heap.size + 1, 0, none⟩)] 29)
  have ex := ext_alloc ((w2.alloc (.cells ledZero 35)).alloc (.cells #[.slice none 0 0, .int .u64 0] 38)) (.cells #[.pointer none, .pointer none, .pointer (some ⟨p, 0, none⟩), .pointer none, .pointer none, .pointer (some ⟨pb, 0, none⟩), .pointer (some ⟨w2.heap.size, 0, none⟩), .pointer (some ⟨w2.heap.size + 1, 0, none⟩)] 29)
  rw [sy, sz] at x0
  rw [sz] at y0
  have E2 := Ext.trans ez (Ext.trans ey ex)
  have z1 := ex.at (ey.at z0)
  have y1 := ex.at y0
  obtain ⟨W, hW⟩ : ∃ W, W = ((w2.alloc (.cells ledZero 35)).alloc (.cells #[.slice none 0 0, .int .u64 0] 38)).alloc (.cells #[.pointer none, .pointer none, .pointer (some ⟨p, 0, none⟩), .pointer none, .pointer none, .pointer (some ⟨pb, 0, none⟩), .pointer (some ⟨w2.heap.size, 0, none⟩), .pointer (some ⟨w2.heap.size + 1, 0, none⟩)] 29) := ⟨_, rfl⟩
  rw [← hW] at x0 E2 z1 y1
  have E0 : Ext w W := Ext.trans e0 (Ext.trans e1 (Ext.trans e2 E2))
  have hx1 := (Ext.trans e1 (Ext.trans e2 E2)).at h0
  have v0 := void0 W
  have v1 := void1 W p m _ ((hL1.ext e2).ext E2)
  have v2 := void2 W pb g (hB2.ext E2)
  have v3 := void3 W _ _ _ z1 y1
  have hneq := neq_fill0
  have HW := Lib.hid hW
  clear hW z0 ez sz y0 ey sy ex z1 y1 hL1 hB2 e0 h0 E2 e1 e2
  go_wp2_with fail
  refine cast (congrArg (fun X => Code.wp _ _ _ _ X) HW.out) ?_
  clear HW
  go_loopw [4] (fun i wr => ∃ k : Nat, k ≤ 4 ∧ i = .int .i64 k ∧ Ext W wr) (fun i _ => 4 - (intOf i).toNat)
  case atStart => exact ⟨0, by omega, rfl, Ext.refl _⟩
  case round =>
    obtain ⟨k, hk, rfl, er⟩ := hrel
    have hxr := er.at hx1
    have q0 := cell_at (j := 0) hxr rfl
    have q1 := cell_at (j := 1) hxr rfl
    have q2 := cell_at (j := 2) hxr rfl
    have q3 := cell_at (j := 3) hxr rfl
    have xr := er.at x0
    rcases (show k = 0 ∨ k = 1 ∨ k = 2 ∨ k = 3 ∨ k = 4 by omega) with rfl | rfl | rfl | rfl | rfl
    · have r0 := cell_at (j := 0) xr rfl
      have r1 := cell_at (j := 1) xr rfl
      have vv := v0
      clear q0 q1 q2 q3 r0 r1
      go_wp2
      refine wp_region_hat waiter 18 [16, 17] (by kernel_rfl) (by kernel_rfl) ?_
      intro w1 hw1
      have hxq : ∀ u : ExtOf w1, u.to.heap[w.heap.size]? = _ := fun u => (Ext.trans hw1 u.h).at hxr
      have xq : ∀ u : ExtOf w1, u.to.heap[w2.heap.size + 1 + 1]? = _ := fun u => (Ext.trans hw1 u.h).at xr
      have s0 : ∀ u : ExtOf w1, u.to.cell? ⟨w.heap.size, 0, none⟩ = some (.int .u64 seq) := fun u => cell_at (hxq u) rfl
      have s1 : ∀ u : ExtOf w1, u.to.cell? ⟨w.heap.size, 1, none⟩ = some (.int .u8 taker) := fun u => cell_at (hxq u) rfl
      have s2 : ∀ u : ExtOf w1, u.to.cell? ⟨w.heap.size, 2, none⟩ = some (.int .u8 to) := fun u => cell_at (hxq u) rfl
      have s3 : ∀ u : ExtOf w1, u.to.cell? ⟨w.heap.size, 3, none⟩ = some (.int .i64 n) := fun u => cell_at (hxq u) rfl
      have ld : ∀ wq, Cls w1 wq → (loadVar 29 ⟨w2.heap.size + 1 + 1, 0, none⟩).run Try.prog wq = .ok (.agg #[.pointer none, .pointer none]) wq := by
        rintro _ ⟨u, rfl⟩
        exact run_loadVar_part u.to _ 0 29 [_, _] _ (fun j v hv => by
          match j, hv with
          | 0, hv => simp at hv; subst hv; exact cell_at (j := 0) (xq u) rfl
          | 1, hv => simp at hv; subst hv; exact cell_at (j := 1) (xq u) rfl
          | j + 2, hv => simp at hv) Try.underlying29 rfl (by kernel_rfl)
      have hdo : ∀ u : ExtOf w1, Calls Try.prog 7 #[.agg #[.pointer none, .pointer none], .int .u64 seq, .int .u8 taker, .int .u8 to, .int .i64 n] u.to (Ret (.tuple #[.agg #[.int .u64 0, .int .u8 0, .int .u8 0, .int .i64 0, .int .i64 0], .int .i64 2]) u.to) := fun u => (vv u.to (Ext.trans er (Ext.trans hw1 u.h)) seq taker to n most).1
      simp only [heads, List.take_succ_cons, List.take_zero, List.contains_cons, List.contains_nil, Nat.reduceBEq, Bool.or_false, Bool.false_eq_true, Nat.reduceAdd, Bool.or_true, Bool.true_or, ↓reduceIte, Bool.or_self]
      repeat (first | go_big_quiet_step ((go_at_call 7; exact Ret.cls (hdo _))) | (go_big_quiet_want; refine quiet_load 29 _ _ _ rfl rfl ld ?_; go_big_quiet_on; simp only [Act.put, List.setIfInBounds_toArray, List.set_cons_zero, List.set_cons_succ]))
      refine wpQuiet_nil ?_
      refine wpX_new 16 _ (.cells #[.int .u64 0, .int .u8 0, .int .u8 0, .int .i64 0, .int .i64 0] 41) (fun a w => ?_) rfl (by kernel_rfl) (by decide) rfl ?_
      · simp [go_sem]
      intro s w4 h04 h4 hs4 _ hsb
      refine wpX_store 17 _ 41 _ _ rfl rfl rfl (by kernel_rfl) (by decide) rfl s _ (by kernel_rfl) rfl 41 _ (by kernel_rfl) (by rfl) (by rfl) hsb hs4 ?_
      intro w5 h05 hk5 hs5
      refine wpX_tail (by kernel_rfl) ?_
      intro w6 e6 e6'
      simp only [Act.put, List.setIfInBounds_toArray, List.set_cons_zero, List.set_cons_succ, List.drop_succ_cons, List.drop_zero]
      have hs6 := e6'.at hs5
      have hx6 := e6.at hxr
      have xr6 := e6.at xr
      have E6 : Ext W w6 := Ext.trans er e6
      go_wp2
      refine wp_region_hat waiter 24 [] (by kernel_rfl) (by kernel_rfl) ?_
      intro w1 hw1
      have fq : ∀ u : ExtOf w1, u.to.heap[s]? = _ := fun u => (Ext.trans hw1 u.h).at hs6
      have hxq : ∀ u : ExtOf w1, u.to.heap[w.heap.size]? = _ := fun u => (Ext.trans hw1 u.h).at hx6
      have xq : ∀ u : ExtOf w1, u.to.heap[w2.heap.size + 1 + 1]? = _ := fun u => (Ext.trans hw1 u.h).at xr6
      have s0 : ∀ u : ExtOf w1, u.to.cell? ⟨w.heap.size, 0, none⟩ = some (.int .u64 seq) := fun u => cell_at (hxq u) rfl
      have s1 : ∀ u : ExtOf w1, u.to.cell? ⟨w.heap.size, 1, none⟩ = some (.int .u8 taker) := fun u => cell_at (hxq u) rfl
      have s2 : ∀ u : ExtOf w1, u.to.cell? ⟨w.heap.size, 2, none⟩ = some (.int .u8 to) := fun u => cell_at (hxq u) rfl
      have s3 : ∀ u : ExtOf w1, u.to.cell? ⟨w.heap.size, 3, none⟩ = some (.int .i64 n) := fun u => cell_at (hxq u) rfl
      have s4 : ∀ u : ExtOf w1, u.to.cell? ⟨w.heap.size, 4, none⟩ = some (.int .i64 most) := fun u => cell_at (hxq u) rfl
      have ld : ∀ wq, Cls w1 wq → (loadVar 29 ⟨w2.heap.size + 1 + 1, 0, none⟩).run Try.prog wq = .ok (.agg #[.pointer none, .pointer none]) wq := by
        rintro _ ⟨u, rfl⟩
        exact run_loadVar_part u.to _ 0 29 [_, _] _ (fun j v hv => by
          match j, hv with
          | 0, hv => simp at hv; subst hv; exact cell_at (j := 0) (xq u) rfl
          | 1, hv => simp at hv; subst hv; exact cell_at (j := 1) (xq u) rfl
          | j + 2, hv => simp at hv) Try.underlying29 rfl (by kernel_rfl)
      have lf : ∀ wq, Cls w1 wq → (loadVar 41 ⟨s, 0, none⟩).run Try.prog wq = .ok (.agg #[.int .u64 0, .int .u8 0, .int .u8 0, .int .i64 0, .int .i64 0]) wq := by
        rintro _ ⟨u, rfl⟩
        exact run_loadVar_row u.to s _ _ _ _ _ (fq u) Try.underlying41 rfl (by kernel_rfl)
      have hmy : ∀ u : ExtOf w1, Calls Try.prog 8 #[.agg #[.pointer none, .pointer none], .int .u64 seq, .int .u8 taker, .int .u8 to, .int .i64 n, .int .i64 most] u.to (Ret (.int .i64 0) u.to) := fun u => (vv u.to (Ext.trans E6 (Ext.trans hw1 u.h)) seq taker to n most).2
      simp only [heads, List.take_succ_cons, List.take_zero, List.contains_cons, List.contains_nil, Nat.reduceBEq, Bool.or_false, Bool.false_eq_true, Nat.reduceAdd, Bool.or_true, Bool.true_or, ↓reduceIte, Bool.or_self]
      repeat (first | go_big_quiet_step ((go_at_call 8; exact Ret.cls (hmy _))) | (go_big_quiet_want; (first | refine quiet_load 29 _ _ _ rfl rfl ld ?_ | refine quiet_load 41 _ _ _ rfl rfl lf ?_); go_big_quiet_on; simp only [Act.put, List.setIfInBounds_toArray, List.set_cons_zero, List.set_cons_succ]))
      refine wpQuiet_nil ?_
      refine wpX_tail (by kernel_rfl) ?_
      intro w7 e7 e7'
      simp only [Act.put, List.setIfInBounds_toArray, List.set_cons_zero, List.set_cons_succ, List.drop_succ_cons, List.drop_zero]
      go_wp2
      have E9 : Ext W w7 := Ext.trans E6 e7
      exact ⟨⟨1, by omega, by first | rfl | go_num, E9⟩, by simp [intOf]⟩
    · have r0 := cell_at (j := 2) xr rfl
      have r1 := cell_at (j := 3) xr rfl
      have vv := v1
      clear q0 q1 q2 q3 r0 r1
      go_wp2
      refine wp_region_hat waiter 18 [16, 17] (by kernel_rfl) (by kernel_rfl) ?_
      intro w1 hw1
      have hxq : ∀ u : ExtOf w1, u.to.heap[w.heap.size]? = _ := fun u => (Ext.trans hw1 u.h).at hxr
      have xq : ∀ u : ExtOf w1, u.to.heap[w2.heap.size + 1 + 1]? = _ := fun u => (Ext.trans hw1 u.h).at xr
      have s0 : ∀ u : ExtOf w1, u.to.cell? ⟨w.heap.size, 0, none⟩ = some (.int .u64 seq) := fun u => cell_at (hxq u) rfl
      have s1 : ∀ u : ExtOf w1, u.to.cell? ⟨w.heap.size, 1, none⟩ = some (.int .u8 taker) := fun u => cell_at (hxq u) rfl
      have s2 : ∀ u : ExtOf w1, u.to.cell? ⟨w.heap.size, 2, none⟩ = some (.int .u8 to) := fun u => cell_at (hxq u) rfl
      have s3 : ∀ u : ExtOf w1, u.to.cell? ⟨w.heap.size, 3, none⟩ = some (.int .i64 n) := fun u => cell_at (hxq u) rfl
      have ld : ∀ wq, Cls w1 wq → (loadVar 29 ⟨w2.heap.size + 1 + 1, 2, none⟩).run Try.prog wq = .ok (.agg #[.pointer (some ⟨p, 0, none⟩), .pointer none]) wq := by
        rintro _ ⟨u, rfl⟩
        exact run_loadVar_part u.to _ 2 29 [_, _] _ (fun j v hv => by
          match j, hv with
          | 0, hv => simp at hv; subst hv; exact cell_at (j := 2) (xq u) rfl
          | 1, hv => simp at hv; subst hv; exact cell_at (j := 3) (xq u) rfl
          | j + 2, hv => simp at hv) Try.underlying29 rfl (by kernel_rfl)
      have hdo : ∀ u : ExtOf w1, Calls Try.prog 7 #[.agg #[.pointer (some ⟨p, 0, none⟩), .pointer none], .int .u64 seq, .int .u8 taker, .int .u8 to, .int .i64 n] u.to (Ret (.tuple #[.agg #[.int .u64 0, .int .u8 0, .int .u8 0, .int .i64 0, .int .i64 0], .int .i64 2]) u.to) := fun u => (vv u.to (Ext.trans er (Ext.trans hw1 u.h)) seq taker to n most).1
      simp only [heads, List.take_succ_cons, List.take_zero, List.contains_cons, List.contains_nil, Nat.reduceBEq, Bool.or_false, Bool.false_eq_true, Nat.reduceAdd, Bool.or_true, Bool.true_or, ↓reduceIte, Bool.or_self]
      repeat (first | go_big_quiet_step ((go_at_call 7; exact Ret.cls (hdo _))) | (go_big_quiet_want; refine quiet_load 29 _ _ _ rfl rfl ld ?_; go_big_quiet_on; simp only [Act.put, List.setIfInBounds_toArray, List.set_cons_zero, List.set_cons_succ]))
      refine wpQuiet_nil ?_
      refine wpX_new 16 _ (.cells #[.int .u64 0, .int .u8 0, .int .u8 0, .int .i64 0, .int .i64 0] 41) (fun a w => ?_) rfl (by kernel_rfl) (by decide) rfl ?_
      · simp [go_sem]
      intro s w4 h04 h4 hs4 _ hsb
      refine wpX_store 17 _ 41 _ _ rfl rfl rfl (by kernel_rfl) (by decide) rfl s _ (by kernel_rfl) rfl 41 _ (by kernel_rfl) (by rfl) (by rfl) hsb hs4 ?_
      intro w5 h05 hk5 hs5
      refine wpX_tail (by kernel_rfl) ?_
      intro w6 e6 e6'
      simp only [Act.put, List.setIfInBounds_toArray, List.set_cons_zero, List.set_cons_succ, List.drop_succ_cons, List.drop_zero]
      have hs6 := e6'.at hs5
      have hx6 := e6.at hxr
      have xr6 := e6.at xr
      have E6 : Ext W w6 := Ext.trans er e6
      go_wp2
      refine wp_region_hat waiter 24 [] (by kernel_rfl) (by kernel_rfl) ?_
      intro w1 hw1
      have fq : ∀ u : ExtOf w1, u.to.heap[s]? = _ := fun u => (Ext.trans hw1 u.h).at hs6
      have hxq : ∀ u : ExtOf w1, u.to.heap[w.heap.size]? = _ := fun u => (Ext.trans hw1 u.h).at hx6
      have xq : ∀ u : ExtOf w1, u.to.heap[w2.heap.size + 1 + 1]? = _ := fun u => (Ext.trans hw1 u.h).at xr6
      have s0 : ∀ u : ExtOf w1, u.to.cell? ⟨w.heap.size, 0, none⟩ = some (.int .u64 seq) := fun u => cell_at (hxq u) rfl
      have s1 : ∀ u : ExtOf w1, u.to.cell? ⟨w.heap.size, 1, none⟩ = some (.int .u8 taker) := fun u => cell_at (hxq u) rfl
      have s2 : ∀ u : ExtOf w1, u.to.cell? ⟨w.heap.size, 2, none⟩ = some (.int .u8 to) := fun u => cell_at (hxq u) rfl
      have s3 : ∀ u : ExtOf w1, u.to.cell? ⟨w.heap.size, 3, none⟩ = some (.int .i64 n) := fun u => cell_at (hxq u) rfl
      have s4 : ∀ u : ExtOf w1, u.to.cell? ⟨w.heap.size, 4, none⟩ = some (.int .i64 most) := fun u => cell_at (hxq u) rfl
      have ld : ∀ wq, Cls w1 wq → (loadVar 29 ⟨w2.heap.size + 1 + 1, 2, none⟩).run Try.prog wq = .ok (.agg #[.pointer (some ⟨p, 0, none⟩), .pointer none]) wq := by
        rintro _ ⟨u, rfl⟩
        exact run_loadVar_part u.to _ 2 29 [_, _] _ (fun j v hv => by
          match j, hv with
          | 0, hv => simp at hv; subst hv; exact cell_at (j := 2) (xq u) rfl
          | 1, hv => simp at hv; subst hv; exact cell_at (j := 3) (xq u) rfl
          | j + 2, hv => simp at hv) Try.underlying29 rfl (by kernel_rfl)
      have lf : ∀ wq, Cls w1 wq → (loadVar 41 ⟨s, 0, none⟩).run Try.prog wq = .ok (.agg #[.int .u64 0, .int .u8 0, .int .u8 0, .int .i64 0, .int .i64 0]) wq := by
        rintro _ ⟨u, rfl⟩
        exact run_loadVar_row u.to s _ _ _ _ _ (fq u) Try.underlying41 rfl (by kernel_rfl)
      have hmy : ∀ u : ExtOf w1, Calls Try.prog 8 #[.agg #[.pointer (some ⟨p, 0, none⟩), .pointer none], .int .u64 seq, .int .u8 taker, .int .u8 to, .int .i64 n, .int .i64 most] u.to (Ret (.int .i64 0) u.to) := fun u => (vv u.to (Ext.trans E6 (Ext.trans hw1 u.h)) seq taker to n most).2
      simp only [heads, List.take_succ_cons, List.take_zero, List.contains_cons, List.contains_nil, Nat.reduceBEq, Bool.or_false, Bool.false_eq_true, Nat.reduceAdd, Bool.or_true, Bool.true_or, ↓reduceIte, Bool.or_self]
      repeat (first | go_big_quiet_step ((go_at_call 8; exact Ret.cls (hmy _))) | (go_big_quiet_want; (first | refine quiet_load 29 _ _ _ rfl rfl ld ?_ | refine quiet_load 41 _ _ _ rfl rfl lf ?_); go_big_quiet_on; simp only [Act.put, List.setIfInBounds_toArray, List.set_cons_zero, List.set_cons_succ]))
      refine wpQuiet_nil ?_
      refine wpX_tail (by kernel_rfl) ?_
      intro w7 e7 e7'
      simp only [Act.put, List.setIfInBounds_toArray, List.set_cons_zero, List.set_cons_succ, List.drop_succ_cons, List.drop_zero]
      go_wp2
      have E9 : Ext W w7 := Ext.trans E6 e7
      exact ⟨⟨2, by omega, by first | rfl | go_num, E9⟩, by simp [intOf]⟩
    · have r0 := cell_at (j := 4) xr rfl
      have r1 := cell_at (j := 5) xr rfl
      have vv := v2
      clear q0 q1 q2 q3 r0 r1
      go_wp2
      refine wp_region_hat waiter 18 [16, 17] (by kernel_rfl) (by kernel_rfl) ?_
      intro w1 hw1
      have hxq : ∀ u : ExtOf w1, u.to.heap[w.heap.size]? = _ := fun u => (Ext.trans hw1 u.h).at hxr
      have xq : ∀ u : ExtOf w1, u.to.heap[w2.heap.size + 1 + 1]? = _ := fun u => (Ext.trans hw1 u.h).at xr
      have s0 : ∀ u : ExtOf w1, u.to.cell? ⟨w.heap.size, 0, none⟩ = some (.int .u64 seq) := fun u => cell_at (hxq u) rfl
      have s1 : ∀ u : ExtOf w1, u.to.cell? ⟨w.heap.size, 1, none⟩ = some (.int .u8 taker) := fun u => cell_at (hxq u) rfl
      have s2 : ∀ u : ExtOf w1, u.to.cell? ⟨w.heap.size, 2, none⟩ = some (.int .u8 to) := fun u => cell_at (hxq u) rfl
      have s3 : ∀ u : ExtOf w1, u.to.cell? ⟨w.heap.size, 3, none⟩ = some (.int .i64 n) := fun u => cell_at (hxq u) rfl
      have ld : ∀ wq, Cls w1 wq → (loadVar 29 ⟨w2.heap.size + 1 + 1, 4, none⟩).run Try.prog wq = .ok (.agg #[.pointer none, .pointer (some ⟨pb, 0, none⟩)]) wq := by
        rintro _ ⟨u, rfl⟩
        exact run_loadVar_part u.to _ 4 29 [_, _] _ (fun j v hv => by
          match j, hv with
          | 0, hv => simp at hv; subst hv; exact cell_at (j := 4) (xq u) rfl
          | 1, hv => simp at hv; subst hv; exact cell_at (j := 5) (xq u) rfl
          | j + 2, hv => simp at hv) Try.underlying29 rfl (by kernel_rfl)
      have hdo : ∀ u : ExtOf w1, Calls Try.prog 7 #[.agg #[.pointer none, .pointer (some ⟨pb, 0, none⟩)], .int .u64 seq, .int .u8 taker, .int .u8 to, .int .i64 n] u.to (Ret (.tuple #[.agg #[.int .u64 0, .int .u8 0, .int .u8 0, .int .i64 0, .int .i64 0], .int .i64 2]) u.to) := fun u => (vv u.to (Ext.trans er (Ext.trans hw1 u.h)) seq taker to n most).1
      simp only [heads, List.take_succ_cons, List.take_zero, List.contains_cons, List.contains_nil, Nat.reduceBEq, Bool.or_false, Bool.false_eq_true, Nat.reduceAdd, Bool.or_true, Bool.true_or, ↓reduceIte, Bool.or_self]
      repeat (first | go_big_quiet_step ((go_at_call 7; exact Ret.cls (hdo _))) | (go_big_quiet_want; refine quiet_load 29 _ _ _ rfl rfl ld ?_; go_big_quiet_on; simp only [Act.put, List.setIfInBounds_toArray, List.set_cons_zero, List.set_cons_succ]))
      refine wpQuiet_nil ?_
      refine wpX_new 16 _ (.cells #[.int .u64 0, .int .u8 0, .int .u8 0, .int .i64 0, .int .i64 0] 41) (fun a w => ?_) rfl (by kernel_rfl) (by decide) rfl ?_
      · simp [go_sem]
      intro s w4 h04 h4 hs4 _ hsb
      refine wpX_store 17 _ 41 _ _ rfl rfl rfl (by kernel_rfl) (by decide) rfl s _ (by kernel_rfl) rfl 41 _ (by kernel_rfl) (by rfl) (by rfl) hsb hs4 ?_
      intro w5 h05 hk5 hs5
      refine wpX_tail (by kernel_rfl) ?_
      intro w6 e6 e6'
      simp only [Act.put, List.setIfInBounds_toArray, List.set_cons_zero, List.set_cons_succ, List.drop_succ_cons, List.drop_zero]
      have hs6 := e6'.at hs5
      have hx6 := e6.at hxr
      have xr6 := e6.at xr
      have E6 : Ext W w6 := Ext.trans er e6
      go_wp2
      refine wp_region_hat waiter 24 [] (by kernel_rfl) (by kernel_rfl) ?_
      intro w1 hw1
      have fq : ∀ u : ExtOf w1, u.to.heap[s]? = _ := fun u => (Ext.trans hw1 u.h).at hs6
      have hxq : ∀ u : ExtOf w1, u.to.heap[w.heap.size]? = _ := fun u => (Ext.trans hw1 u.h).at hx6
      have xq : ∀ u : ExtOf w1, u.to.heap[w2.heap.size + 1 + 1]? = _ := fun u => (Ext.trans hw1 u.h).at xr6
      have s0 : ∀ u : ExtOf w1, u.to.cell? ⟨w.heap.size, 0, none⟩ = some (.int .u64 seq) := fun u => cell_at (hxq u) rfl
      have s1 : ∀ u : ExtOf w1, u.to.cell? ⟨w.heap.size, 1, none⟩ = some (.int .u8 taker) := fun u => cell_at (hxq u) rfl
      have s2 : ∀ u : ExtOf w1, u.to.cell? ⟨w.heap.size, 2, none⟩ = some (.int .u8 to) := fun u => cell_at (hxq u) rfl
      have s3 : ∀ u : ExtOf w1, u.to.cell? ⟨w.heap.size, 3, none⟩ = some (.int .i64 n) := fun u => cell_at (hxq u) rfl
      have s4 : ∀ u : ExtOf w1, u.to.cell? ⟨w.heap.size, 4, none⟩ = some (.int .i64 most) := fun u => cell_at (hxq u) rfl
      have ld : ∀ wq, Cls w1 wq → (loadVar 29 ⟨w2.heap.size + 1 + 1, 4, none⟩).run Try.prog wq = .ok (.agg #[.pointer none, .pointer (some ⟨pb, 0, none⟩)]) wq := by
        rintro _ ⟨u, rfl⟩
        exact run_loadVar_part u.to _ 4 29 [_, _] _ (fun j v hv => by
          match j, hv with
          | 0, hv => simp at hv; subst hv; exact cell_at (j := 4) (xq u) rfl
          | 1, hv => simp at hv; subst hv; exact cell_at (j := 5) (xq u) rfl
          | j + 2, hv => simp at hv) Try.underlying29 rfl (by kernel_rfl)
      have lf : ∀ wq, Cls w1 wq → (loadVar 41 ⟨s, 0, none⟩).run Try.prog wq = .ok (.agg #[.int .u64 0, .int .u8 0, .int .u8 0, .int .i64 0, .int .i64 0]) wq := by
        rintro _ ⟨u, rfl⟩
        exact run_loadVar_row u.to s _ _ _ _ _ (fq u) Try.underlying41 rfl (by kernel_rfl)
      have hmy : ∀ u : ExtOf w1, Calls Try.prog 8 #[.agg #[.pointer none, .pointer (some ⟨pb, 0, none⟩)], .int .u64 seq, .int .u8 taker, .int .u8 to, .int .i64 n, .int .i64 most] u.to (Ret (.int .i64 0) u.to) := fun u => (vv u.to (Ext.trans E6 (Ext.trans hw1 u.h)) seq taker to n most).2
      simp only [heads, List.take_succ_cons, List.take_zero, List.contains_cons, List.contains_nil, Nat.reduceBEq, Bool.or_false, Bool.false_eq_true, Nat.reduceAdd, Bool.or_true, Bool.true_or, ↓reduceIte, Bool.or_self]
      repeat (first | go_big_quiet_step ((go_at_call 8; exact Ret.cls (hmy _))) | (go_big_quiet_want; (first | refine quiet_load 29 _ _ _ rfl rfl ld ?_ | refine quiet_load 41 _ _ _ rfl rfl lf ?_); go_big_quiet_on; simp only [Act.put, List.setIfInBounds_toArray, List.set_cons_zero, List.set_cons_succ]))
      refine wpQuiet_nil ?_
      refine wpX_tail (by kernel_rfl) ?_
      intro w7 e7 e7'
      simp only [Act.put, List.setIfInBounds_toArray, List.set_cons_zero, List.set_cons_succ, List.drop_succ_cons, List.drop_zero]
      go_wp2
      have E9 : Ext W w7 := Ext.trans E6 e7
      exact ⟨⟨3, by omega, by first | rfl | go_num, E9⟩, by simp [intOf]⟩
    · have r0 := cell_at (j := 6) xr rfl
      have r1 := cell_at (j := 7) xr rfl
      have vv := v3
      clear q0 q1 q2 q3 r0 r1
      go_wp2
      refine wp_region_hat waiter 18 [16, 17] (by kernel_rfl) (by kernel_rfl) ?_
      intro w1 hw1
      have hxq : ∀ u : ExtOf w1, u.to.heap[w.heap.size]? = _ := fun u => (Ext.trans hw1 u.h).at hxr
      have xq : ∀ u : ExtOf w1, u.to.heap[w2.heap.size + 1 + 1]? = _ := fun u => (Ext.trans hw1 u.h).at xr
      have s0 : ∀ u : ExtOf w1, u.to.cell? ⟨w.heap.size, 0, none⟩ = some (.int .u64 seq) := fun u => cell_at (hxq u) rfl
      have s1 : ∀ u : ExtOf w1, u.to.cell? ⟨w.heap.size, 1, none⟩ = some (.int .u8 taker) := fun u => cell_at (hxq u) rfl
      have s2 : ∀ u : ExtOf w1, u.to.cell? ⟨w.heap.size, 2, none⟩ = some (.int .u8 to) := fun u => cell_at (hxq u) rfl
      have s3 : ∀ u : ExtOf w1, u.to.cell? ⟨w.heap.size, 3, none⟩ = some (.int .i64 n) := fun u => cell_at (hxq u) rfl
      have ld : ∀ wq, Cls w1 wq → (loadVar 29 ⟨w2.heap.size + 1 + 1, 6, none⟩).run Try.prog wq = .ok (.agg #[.pointer (some ⟨w2.heap.size, 0, none⟩), .pointer (some ⟨w2.heap.size + 1, 0, none⟩)]) wq := by
        rintro _ ⟨u, rfl⟩
        exact run_loadVar_part u.to _ 6 29 [_, _] _ (fun j v hv => by
          match j, hv with
          | 0, hv => simp at hv; subst hv; exact cell_at (j := 6) (xq u) rfl
          | 1, hv => simp at hv; subst hv; exact cell_at (j := 7) (xq u) rfl
          | j + 2, hv => simp at hv) Try.underlying29 rfl (by kernel_rfl)
      have hdo : ∀ u : ExtOf w1, Calls Try.prog 7 #[.agg #[.pointer (some ⟨w2.heap.size, 0, none⟩), .pointer (some ⟨w2.heap.size + 1, 0, none⟩)], .int .u64 seq, .int .u8 taker, .int .u8 to, .int .i64 n] u.to (Ret (.tuple #[.agg #[.int .u64 0, .int .u8 0, .int .u8 0, .int .i64 0, .int .i64 0], .int .i64 2]) u.to) := fun u => (vv u.to (Ext.trans er (Ext.trans hw1 u.h)) seq taker to n most).1
      simp only [heads, List.take_succ_cons, List.take_zero, List.contains_cons, List.contains_nil, Nat.reduceBEq, Bool.or_false, Bool.false_eq_true, Nat.reduceAdd, Bool.or_true, Bool.true_or, ↓reduceIte, Bool.or_self]
      repeat (first | go_big_quiet_step ((go_at_call 7; exact Ret.cls (hdo _))) | (go_big_quiet_want; refine quiet_load 29 _ _ _ rfl rfl ld ?_; go_big_quiet_on; simp only [Act.put, List.setIfInBounds_toArray, List.set_cons_zero, List.set_cons_succ]))
      refine wpQuiet_nil ?_
      refine wpX_new 16 _ (.cells #[.int .u64 0, .int .u8 0, .int .u8 0, .int .i64 0, .int .i64 0] 41) (fun a w => ?_) rfl (by kernel_rfl) (by decide) rfl ?_
      · simp [go_sem]
      intro s w4 h04 h4 hs4 _ hsb
      refine wpX_store 17 _ 41 _ _ rfl rfl rfl (by kernel_rfl) (by decide) rfl s _ (by kernel_rfl) rfl 41 _ (by kernel_rfl) (by rfl) (by rfl) hsb hs4 ?_
      intro w5 h05 hk5 hs5
      refine wpX_tail (by kernel_rfl) ?_
      intro w6 e6 e6'
      simp only [Act.put, List.setIfInBounds_toArray, List.set_cons_zero, List.set_cons_succ, List.drop_succ_cons, List.drop_zero]
      have hs6 := e6'.at hs5
      have hx6 := e6.at hxr
      have xr6 := e6.at xr
      have E6 : Ext W w6 := Ext.trans er e6
      go_wp2
      refine wp_region_hat waiter 24 [] (by kernel_rfl) (by kernel_rfl) ?_
      intro w1 hw1
      have fq : ∀ u : ExtOf w1, u.to.heap[s]? = _ := fun u => (Ext.trans hw1 u.h).at hs6
      have hxq : ∀ u : ExtOf w1, u.to.heap[w.heap.size]? = _ := fun u => (Ext.trans hw1 u.h).at hx6
      have xq : ∀ u : ExtOf w1, u.to.heap[w2.heap.size + 1 + 1]? = _ := fun u => (Ext.trans hw1 u.h).at xr6
      have s0 : ∀ u : ExtOf w1, u.to.cell? ⟨w.heap.size, 0, none⟩ = some (.int .u64 seq) := fun u => cell_at (hxq u) rfl
      have s1 : ∀ u : ExtOf w1, u.to.cell? ⟨w.heap.size, 1, none⟩ = some (.int .u8 taker) := fun u => cell_at (hxq u) rfl
      have s2 : ∀ u : ExtOf w1, u.to.cell? ⟨w.heap.size, 2, none⟩ = some (.int .u8 to) := fun u => cell_at (hxq u) rfl
      have s3 : ∀ u : ExtOf w1, u.to.cell? ⟨w.heap.size, 3, none⟩ = some (.int .i64 n) := fun u => cell_at (hxq u) rfl
      have s4 : ∀ u : ExtOf w1, u.to.cell? ⟨w.heap.size, 4, none⟩ = some (.int .i64 most) := fun u => cell_at (hxq u) rfl
      have ld : ∀ wq, Cls w1 wq → (loadVar 29 ⟨w2.heap.size + 1 + 1, 6, none⟩).run Try.prog wq = .ok (.agg #[.pointer (some ⟨w2.heap.size, 0, none⟩), .pointer (some ⟨w2.heap.size + 1, 0, none⟩)]) wq := by
        rintro _ ⟨u, rfl⟩
        exact run_loadVar_part u.to _ 6 29 [_, _] _ (fun j v hv => by
          match j, hv with
          | 0, hv => simp at hv; subst hv; exact cell_at (j := 6) (xq u) rfl
          | 1, hv => simp at hv; subst hv; exact cell_at (j := 7) (xq u) rfl
          | j + 2, hv => simp at hv) Try.underlying29 rfl (by kernel_rfl)
      have lf : ∀ wq, Cls w1 wq → (loadVar 41 ⟨s, 0, none⟩).run Try.prog wq = .ok (.agg #[.int .u64 0, .int .u8 0, .int .u8 0, .int .i64 0, .int .i64 0]) wq := by
        rintro _ ⟨u, rfl⟩
        exact run_loadVar_row u.to s _ _ _ _ _ (fq u) Try.underlying41 rfl (by kernel_rfl)
      have hmy : ∀ u : ExtOf w1, Calls Try.prog 8 #[.agg #[.pointer (some ⟨w2.heap.size, 0, none⟩), .pointer (some ⟨w2.heap.size + 1, 0, none⟩)], .int .u64 seq, .int .u8 taker, .int .u8 to, .int .i64 n, .int .i64 most] u.to (Ret (.int .i64 0) u.to) := fun u => (vv u.to (Ext.trans E6 (Ext.trans hw1 u.h)) seq taker to n most).2
      simp only [heads, List.take_succ_cons, List.take_zero, List.contains_cons, List.contains_nil, Nat.reduceBEq, Bool.or_false, Bool.false_eq_true, Nat.reduceAdd, Bool.or_true, Bool.true_or, ↓reduceIte, Bool.or_self]
      repeat (first | go_big_quiet_step ((go_at_call 8; exact Ret.cls (hmy _))) | (go_big_quiet_want; (first | refine quiet_load 29 _ _ _ rfl rfl ld ?_ | refine quiet_load 41 _ _ _ rfl rfl lf ?_); go_big_quiet_on; simp only [Act.put, List.setIfInBounds_toArray, List.set_cons_zero, List.set_cons_succ]))
      refine wpQuiet_nil ?_
      refine wpX_tail (by kernel_rfl) ?_
      intro w7 e7 e7'
      simp only [Act.put, List.setIfInBounds_toArray, List.set_cons_zero, List.set_cons_succ, List.drop_succ_cons, List.drop_zero]
      go_wp2
      have E9 : Ext W w7 := Ext.trans E6 e7
      exact ⟨⟨4, by omega, by first | rfl | go_num, E9⟩, by simp [intOf]⟩
    · go_wp2_with fail
      refine (lives_any _).mono ?_
      rintro e w5 ⟨rfl, e5⟩
      go_wp2
      go_ret
      exact ⟨rfl, Ext.trans E0 (Ext.trans er e5)⟩
end Go.Proofs.Ytjddfopebpmaeaa
