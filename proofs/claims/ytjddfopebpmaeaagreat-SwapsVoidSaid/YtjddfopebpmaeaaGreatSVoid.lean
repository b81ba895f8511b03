/- The walk of SwapsVoid. -/
import Derived.Test.YtjddfopebpmaeaaGreatSLives
namespace Go.Proofs.YtjddfopebpmaeaaGreat
open Go.RowKit Go.Rg Go.BigFrame

/-- What Swap does at each of the four houses: nothing. -/
def SVoidAt (W : World) (l b : Option Addr) : Prop := ∀ w', Ext W w' → ∀ o0 o1 o2 o3 o4 o5 : Int,
  Calls Tryz.prog 31 #[.agg #[.pointer l, .pointer b], .int .u8 o0, .int .u8 o1, .int .u8 o2, .int .u8 o3, .int .i64 o4, .int .i64 o5] w' (Ret (.tuple #[.agg #[.pointer none, .pointer none], .slice none 0 0, .int .i64 2]) w')

theorem svoid_at (W : World) (l b : Option Addr) (PX PY : Option Addr → Prop) (hxy : ∀ x y, PX x → PY y → x = none ∨ y = none) (hc : ∀ w', Ext W w' → Calls Tryz.prog 48 #[.pointer l] w' (fun e w2 => (∃ x, e = .returned (.pointer x) ∧ PX x) ∧ Ext w' w2))
    (hd : ∀ w', Ext W w' → Calls Tryz.prog 49 #[.pointer b] w' (fun e w2 => (∃ x, e = .returned (.pointer x) ∧ PY x) ∧ Ext w' w2)) : SVoidAt W l b := fun w' k o0 o1 o2 o3 o4 o5 =>
  swap_void l b o0 o1 o2 o3 o4 o5 w' fun w2 k2 => (hcopy_void PX PY l b w2 (fun w3 k3 => hc w3 (Ext.trans k (Ext.trans k2 k3))) (fun w3 k3 => hd w3 (Ext.trans k (Ext.trans k2 k3)))).mono fun _ _ ⟨x, y, h1, hx, hy, h2⟩ => ⟨x, y, h1, hxy x y hx hy, h2⟩

theorem svoid0 (W : World) : SVoidAt W none none :=
  svoid_at W none none (fun x => x = none) (fun _ => True) (fun _ _ h _ => .inl h) (fun w2 _ => (copy_nil w2).mono fun _ _ ⟨h1, h2⟩ => ⟨⟨_, h1, rfl⟩, h2⟩) (fun w2 _ => (bcopy_nil w2).mono fun _ _ ⟨h1, h2⟩ => ⟨⟨_, h1, trivial⟩, h2⟩)
theorem svoid1 (W : World) (p m : Nat) (L : Led) (h : IsLed W p m L) : SVoidAt W (some ⟨p, 0, none⟩) none :=
  svoid_at W _ none (fun _ => True) (fun y => y = none) (fun _ _ _ h => .inr h) (fun w2 k2 => (copy_any p m L w2 (h.ext k2)).mono fun _ _ ⟨p3, m3, h1, h2, _⟩ => ⟨⟨_, h1, trivial⟩, h2⟩) (fun w2 _ => (bcopy_nil w2).mono fun _ _ ⟨h1, h2⟩ => ⟨⟨_, h1, rfl⟩, h2⟩)
theorem svoid2 (W : World) (pb : Nat) (g : Option Nat) (h : IsBook W pb g ⟨[], 1⟩) : SVoidAt W none (some ⟨pb, 0, none⟩) :=
  svoid_at W none _ (fun x => x = none) (fun _ => True) (fun _ _ h _ => .inl h) (fun w2 _ => (copy_nil w2).mono fun _ _ ⟨h1, h2⟩ => ⟨⟨_, h1, rfl⟩, h2⟩) (fun w2 k2 => (bcopy_own pb g _ w2 (h.ext k2)).mono fun _ _ ⟨p3, g3, h1, h2, _⟩ => ⟨⟨_, h1, trivial⟩, h2⟩)

theorem bcopy_zero (p : Nat) (v : Value) (w : World) (h : w.heap[p]? = some (.cells #[v, .int .u64 0] 78 (0, 0))) : Calls Tryz.prog 49 #[.pointer (some ⟨p, 0, none⟩)] w (Ret (.pointer none) w) := by
  go_enter Tryz.func49, Tryz.ntmps49
  go_wp2_with fail
  refine (bthere_zero p v _ h).mono ?_
  rintro e w2 ⟨rfl, e2⟩
  go_wp2
  go_ret
  exact ⟨rfl, e2⟩
theorem svoid3 (W : World) (p4 b4 : Nat) (v : Value) (h : W.heap[p4]? = some (.cells ledZero 76 (0, 0))) (hb : W.heap[b4]? = some (.cells #[v, .int .u64 0] 78 (0, 0))) : SVoidAt W (some ⟨p4, 0, none⟩) (some ⟨b4, 0, none⟩) :=
  svoid_at W _ _ (fun x => x = none) (fun _ => True) (fun _ _ h _ => .inl h) (fun w2 k2 => (copy_zero p4 w2 (k2.at h)).mono fun _ _ ⟨h1, h2⟩ => ⟨⟨_, h1, rfl⟩, h2⟩) (fun w2 k2 => (bcopy_zero b4 v w2 (k2.at hb)).mono fun _ _ ⟨h1, h2⟩ => ⟨⟨_, h1, trivial⟩, h2⟩)

set_option maxRecDepth 100000 in
set_option maxHeartbeats 3200000 in
theorem svoid_any (o0 o1 o2 o3 o4 o5 : Int) (w : World) : Calls Tryz.prog 6 #[.agg #[.int .u8 o0, .int .u8 o1, .int .u8 o2, .int .u8 o3, .int .i64 o4, .int .i64 o5]] w (Ret (.bool true) w) := by
  have h0 := heap_alloc_top w (.cells #[.int .u8 o0, .int .u8 o1, .int .u8 o2, .int .u8 o3, .int .i64 o4, .int .i64 o5] 85)
  have e0 := ext_alloc w (.cells #[.int .u8 o0, .int .u8 o1, .int .u8 o2, .int .u8 o3, .int .i64 o4, .int .i64 o5] 85)
  go_enter Tryz.func6, Tryz.ntmps6
  go_wp2_with fail
  refine (new_any _).mono ?_
  rintro e w1 ⟨p, m, rfl, e1, hL1, _, _⟩
  go_wp2_with fail
  refine (bnew_any _).mono ?_
  rintro e w2 ⟨pb, g, rfl, e2, hB2, _, _⟩
  have z0 := heap_alloc_top w2 (.cells ledZero 76)
  have ez := ext_alloc w2 (.cells ledZero 76)
  have sz := size_alloc w2 (.cells ledZero 76)
  have y0 := heap_alloc_top (w2.alloc (.cells ledZero 76)) (.cells #[.slice none 0 0, .int .u64 0] 78)
  have ey := ext_alloc (w2.alloc (.cells ledZero 76)) (.cells #[.slice none 0 0, .int .u64 0] 78)
  have sy := size_alloc (w2.alloc (.cells ledZero 76)) (.cells #[.slice none 0 0, .int .u64 0] 78)
  have x0 := heap_alloc_top ((w2.alloc (.cells ledZero 76)).alloc (.cells #[.slice none 0 0, .int .u64 0] 78)) (.cells #[.pointer none, .pointer none, .pointer (some ⟨p, 0, none⟩), .pointer none, .pointer none, .pointer (some ⟨pb, 0, none⟩), .pointer (some ⟨w2.heap.size, 0, none⟩), .pointer (some ⟨w2.heap.size + 1, 0, none⟩)] 32)
  have ex := ext_alloc ((w2.alloc (.cells ledZero 76)).alloc (.cells #[.slice none 0 0, .int .u64 0] 78)) (.cells #[.pointer none, .pointer none, .pointer (some ⟨p, 0, none⟩), .pointer none, .pointer none, .pointer (some ⟨pb, 0, none⟩), .pointer (some ⟨w2.heap.size, 0, none⟩), .pointer (some ⟨w2.heap.size + 1, 0, none⟩)] 32)
  rw [sy, sz] at x0
  rw [sz] at y0
  have E2 := Ext.trans ez (Ext.trans ey ex)
  have z1 := ex.at (ey.at z0)
  have y1 := ex.at y0
  obtain ⟨W, hW⟩ : ∃ W, W = ((w2.alloc (.cells ledZero 76)).alloc (.cells #[.slice none 0 0, .int .u64 0] 78)).alloc (.cells #[.pointer none, .pointer none, .pointer (some ⟨p, 0, none⟩), .pointer none, .pointer none, .pointer (some ⟨pb, 0, none⟩), .pointer (some ⟨w2.heap.size, 0, none⟩), .pointer (some ⟨w2.heap.size + 1, 0, none⟩)] 32) := ⟨_, rfl⟩
  rw [← hW] at x0 E2 z1 y1
  have E0 : Ext w W := Ext.trans e0 (Ext.trans e1 (Ext.trans e2 E2))
  have hx1 := (Ext.trans e1 (Ext.trans e2 E2)).at h0
  have v0 := svoid0 W
  have v1 := svoid1 W p m _ ((hL1.ext e2).ext E2)
  have v2 := svoid2 W pb g (hB2.ext E2)
  have v3 := svoid3 W _ _ _ z1 y1
  have HW := Lib.hid hW
  clear hW z0 ez sz y0 ey sy ex z1 y1 hL1 hB2 e0 h0 E2 e1 e2
  go_wp2_with fail
  refine cast (congrArg (fun X => Code.wp _ _ _ _ X) HW.out) ?_
  clear HW
  go_loopw [4] (fun i wr => ∃ k : Nat, k ≤ 4 ∧ i = .int .i64 k ∧ Ext W wr) (fun i _ => 4 - (intOf i).toNat)
  case atStart => exact ⟨0, by omega, rfl, Ext.refl _⟩
  case round =>
    obtain ⟨k, hk, rfl, er⟩ := hrel
    have hxr := er.at hx1
    have xr := er.at x0
    rcases (show k = 0 ∨ k = 1 ∨ k = 2 ∨ k = 3 ∨ k = 4 by omega) with rfl | rfl | rfl | rfl | rfl
    · have r0 := cell_at (j := 0) xr rfl
      have r1 := cell_at (j := 1) xr rfl
      have vv := v0
      clear r0 r1
      go_wp2
      refine wp_region_hat waiter 24 [21, 22, 23] (by kernel_rfl) (by kernel_rfl) ?_
      intro w1 hw1
      have hxq : ∀ u : ExtOf w1, u.to.heap[w.heap.size]? = _ := fun u => (Ext.trans hw1 u.h).at hxr
      have xq : ∀ u : ExtOf w1, u.to.heap[w2.heap.size + 1 + 1]? = _ := fun u => (Ext.trans hw1 u.h).at xr
      have ld : ∀ wq, Cls w1 wq → (loadVar 32 ⟨w2.heap.size + 1 + 1, 0, none⟩).run Tryz.prog wq = .ok (.agg #[.pointer none, .pointer none]) wq := by
        rintro _ ⟨u, rfl⟩
        exact run_loadVar_part u.to _ 0 32 [_, _] _ (fun j v hv => by
          match j, hv with
          | 0, hv => simp at hv; subst hv; exact cell_at (j := 0) (xq u) rfl
          | 1, hv => simp at hv; subst hv; exact cell_at (j := 1) (xq u) rfl
          | j + 2, hv => simp at hv) Tryz.underlying32 rfl (by kernel_rfl)
      have a0 : ∀ u : ExtOf w1, u.to.cell? ⟨w.heap.size, 0, none⟩ = _ := fun u => cell_at (j := 0) (hxq u) rfl
      have a1 : ∀ u : ExtOf w1, u.to.cell? ⟨w.heap.size, 1, none⟩ = _ := fun u => cell_at (j := 1) (hxq u) rfl
      have a2 : ∀ u : ExtOf w1, u.to.cell? ⟨w.heap.size, 2, none⟩ = _ := fun u => cell_at (j := 2) (hxq u) rfl
      have a3 : ∀ u : ExtOf w1, u.to.cell? ⟨w.heap.size, 3, none⟩ = _ := fun u => cell_at (j := 3) (hxq u) rfl
      have a4 : ∀ u : ExtOf w1, u.to.cell? ⟨w.heap.size, 4, none⟩ = _ := fun u => cell_at (j := 4) (hxq u) rfl
      have a5 : ∀ u : ExtOf w1, u.to.cell? ⟨w.heap.size, 5, none⟩ = _ := fun u => cell_at (j := 5) (hxq u) rfl
      have hpl : ∀ u : ExtOf w1, Calls Tryz.prog 31 #[.agg #[.pointer none, .pointer none], .int .u8 o0, .int .u8 o1, .int .u8 o2, .int .u8 o3, .int .i64 o4, .int .i64 o5] u.to (Ret (.tuple #[.agg #[.pointer none, .pointer none], .slice none 0 0, .int .i64 2]) u.to) := fun u => vv u.to (Ext.trans er (Ext.trans hw1 u.h)) o0 o1 o2 o3 o4 o5
      simp only [heads, List.take_succ_cons, List.take_zero, List.contains_cons, List.contains_nil, Nat.reduceBEq, Bool.or_false, Bool.false_eq_true, Nat.reduceAdd, Bool.or_true, Bool.true_or, ↓reduceIte, Bool.or_self]
      repeat (first | go_big_quiet_step ((go_at_call 31; exact Ret.cls (hpl _))) | (go_big_quiet_want; refine quiet_load 32 _ _ _ rfl rfl ld ?_; go_big_quiet_on; simp only [Act.put, List.setIfInBounds_toArray, List.set_cons_zero, List.set_cons_succ]))
      refine wpQuiet_nil ?_
      refine wpX_new 21 _ (.cells #[.pointer none, .pointer none] 32) (fun a w => ?_) rfl (by kernel_rfl) (by decide) rfl ?_
      · simp [go_sem]
      intro s w4 h04 h4 hs4 _ hsb
      refine wpX_store 22 _ 32 _ _ rfl rfl rfl (by kernel_rfl) (by decide) rfl s _ (by kernel_rfl) rfl 32 _ (by kernel_rfl) (by rfl) (by rfl) hsb hs4 ?_
      intro w5 h05 hk5 hs5
      refine wpX_again waiter 23 [] (by kernel_rfl) h05 ?_
      intro w1 hw1
      simp only [Act.put, List.getElem_toArray, List.getElem_cons_succ, List.getElem_cons_zero, List.setIfInBounds_toArray, List.set_cons_zero, List.set_cons_succ]
      simp only [heads, List.take_succ_cons, List.take_zero, List.drop_succ_cons, List.drop_zero, List.contains_cons, List.contains_nil, Nat.reduceBEq, Bool.or_false, Bool.false_eq_true, Nat.reduceAdd, Bool.or_true, Bool.true_or, ↓reduceIte, Bool.or_self]
      repeat (go_big_quiet_step (fail))
      refine wpQuiet_nil ?_
      refine wpX_tail (by kernel_rfl) ?_
      intro w6 e6 e6'
      simp only [Act.put, List.setIfInBounds_toArray, List.set_cons_zero, List.set_cons_succ, List.drop_succ_cons, List.drop_zero]
      have E6 : Ext W w6 := Ext.trans er (Ext.trans h05 e6)
      have hs6 := e6.at hs5
      have z0 := cell_at (j := 0) hs6 rfl
      have z1 := cell_at (j := 1) hs6 rfl
      go_wp2
      have E9 : Ext W w6 := E6
      exact ⟨⟨1, by omega, by first | rfl | go_num, E9⟩, by simp [intOf]⟩
    · have r0 := cell_at (j := 2) xr rfl
      have r1 := cell_at (j := 3) xr rfl
      have vv := v1
      clear r0 r1
      go_wp2
      refine wp_region_hat waiter 24 [21, 22, 23] (by kernel_rfl) (by kernel_rfl) ?_
      intro w1 hw1
      have hxq : ∀ u : ExtOf w1, u.to.heap[w.heap.size]? = _ := fun u => (Ext.trans hw1 u.h).at hxr
      have xq : ∀ u : ExtOf w1, u.to.heap[w2.heap.size + 1 + 1]? = _ := fun u => (Ext.trans hw1 u.h).at xr
      have ld : ∀ wq, Cls w1 wq → (loadVar 32 ⟨w2.heap.size + 1 + 1, 2, none⟩).run Tryz.prog wq = .ok (.agg #[.pointer (some ⟨p, 0, none⟩), .pointer none]) wq := by
        rintro _ ⟨u, rfl⟩
        exact run_loadVar_part u.to _ 2 32 [_, _] _ (fun j v hv => by
          match j, hv with
          | 0, hv => simp at hv; subst hv; exact cell_at (j := 2) (xq u) rfl
          | 1, hv => simp at hv; subst hv; exact cell_at (j := 3) (xq u) rfl
          | j + 2, hv => simp at hv) Tryz.underlying32 rfl (by kernel_rfl)
      have a0 : ∀ u : ExtOf w1, u.to.cell? ⟨w.heap.size, 0, none⟩ = _ := fun u => cell_at (j := 0) (hxq u) rfl
      have a1 : ∀ u : ExtOf w1, u.to.cell? ⟨w.heap.size, 1, none⟩ = _ := fun u => cell_at (j := 1) (hxq u) rfl
      have a2 : ∀ u : ExtOf w1, u.to.cell? ⟨w.heap.size, 2, none⟩ = _ := fun u => cell_at (j := 2) (hxq u) rfl
      have a3 : ∀ u : ExtOf w1, u.to.cell? ⟨w.heap.size, 3, none⟩ = _ := fun u => cell_at (j := 3) (hxq u) rfl
      have a4 : ∀ u : ExtOf w1, u.to.cell? ⟨w.heap.size, 4, none⟩ = _ := fun u => cell_at (j := 4) (hxq u) rfl
      have a5 : ∀ u : ExtOf w1, u.to.cell? ⟨w.heap.size, 5, none⟩ = _ := fun u => cell_at (j := 5) (hxq u) rfl
      have hpl : ∀ u : ExtOf w1, Calls Tryz.prog 31 #[.agg #[.pointer (some ⟨p, 0, none⟩), .pointer none], .int .u8 o0, .int .u8 o1, .int .u8 o2, .int .u8 o3, .int .i64 o4, .int .i64 o5] u.to (Ret (.tuple #[.agg #[.pointer none, .pointer none], .slice none 0 0, .int .i64 2]) u.to) := fun u => vv u.to (Ext.trans er (Ext.trans hw1 u.h)) o0 o1 o2 o3 o4 o5
      simp only [heads, List.take_succ_cons, List.take_zero, List.contains_cons, List.contains_nil, Nat.reduceBEq, Bool.or_false, Bool.false_eq_true, Nat.reduceAdd, Bool.or_true, Bool.true_or, ↓reduceIte, Bool.or_self]
      repeat (first | go_big_quiet_step ((go_at_call 31; exact Ret.cls (hpl _))) | (go_big_quiet_want; refine quiet_load 32 _ _ _ rfl rfl ld ?_; go_big_quiet_on; simp only [Act.put, List.setIfInBounds_toArray, List.set_cons_zero, List.set_cons_succ]))
      refine wpQuiet_nil ?_
      refine wpX_new 21 _ (.cells #[.pointer none, .pointer none] 32) (fun a w => ?_) rfl (by kernel_rfl) (by decide) rfl ?_
      · simp [go_sem]
      intro s w4 h04 h4 hs4 _ hsb
      refine wpX_store 22 _ 32 _ _ rfl rfl rfl (by kernel_rfl) (by decide) rfl s _ (by kernel_rfl) rfl 32 _ (by kernel_rfl) (by rfl) (by rfl) hsb hs4 ?_
      intro w5 h05 hk5 hs5
      refine wpX_again waiter 23 [] (by kernel_rfl) h05 ?_
      intro w1 hw1
      simp only [Act.put, List.getElem_toArray, List.getElem_cons_succ, List.getElem_cons_zero, List.setIfInBounds_toArray, List.set_cons_zero, List.set_cons_succ]
      simp only [heads, List.take_succ_cons, List.take_zero, List.drop_succ_cons, List.drop_zero, List.contains_cons, List.contains_nil, Nat.reduceBEq, Bool.or_false, Bool.false_eq_true, Nat.reduceAdd, Bool.or_true, Bool.true_or, ↓reduceIte, Bool.or_self]
      repeat (go_big_quiet_step (fail))
      refine wpQuiet_nil ?_
      refine wpX_tail (by kernel_rfl) ?_
      intro w6 e6 e6'
      simp only [Act.put, List.setIfInBounds_toArray, List.set_cons_zero, List.set_cons_succ, List.drop_succ_cons, List.drop_zero]
      have E6 : Ext W w6 := Ext.trans er (Ext.trans h05 e6)
      have hs6 := e6.at hs5
      have z0 := cell_at (j := 0) hs6 rfl
      have z1 := cell_at (j := 1) hs6 rfl
      go_wp2
      have E9 : Ext W w6 := E6
      exact ⟨⟨2, by omega, by first | rfl | go_num, E9⟩, by simp [intOf]⟩
    · have r0 := cell_at (j := 4) xr rfl
      have r1 := cell_at (j := 5) xr rfl
      have vv := v2
      clear r0 r1
      go_wp2
      refine wp_region_hat waiter 24 [21, 22, 23] (by kernel_rfl) (by kernel_rfl) ?_
      intro w1 hw1
      have hxq : ∀ u : ExtOf w1, u.to.heap[w.heap.size]? = _ := fun u => (Ext.trans hw1 u.h).at hxr
      have xq : ∀ u : ExtOf w1, u.to.heap[w2.heap.size + 1 + 1]? = _ := fun u => (Ext.trans hw1 u.h).at xr
      have ld : ∀ wq, Cls w1 wq → (loadVar 32 ⟨w2.heap.size + 1 + 1, 4, none⟩).run Tryz.prog wq = .ok (.agg #[.pointer none, .pointer (some ⟨pb, 0, none⟩)]) wq := by
        rintro _ ⟨u, rfl⟩
        exact run_loadVar_part u.to _ 4 32 [_, _] _ (fun j v hv => by
          match j, hv with
          | 0, hv => simp at hv; subst hv; exact cell_at (j := 4) (xq u) rfl
          | 1, hv => simp at hv; subst hv; exact cell_at (j := 5) (xq u) rfl
          | j + 2, hv => simp at hv) Tryz.underlying32 rfl (by kernel_rfl)
      have a0 : ∀ u : ExtOf w1, u.to.cell? ⟨w.heap.size, 0, none⟩ = _ := fun u => cell_at (j := 0) (hxq u) rfl
      have a1 : ∀ u : ExtOf w1, u.to.cell? ⟨w.heap.size, 1, none⟩ = _ := fun u => cell_at (j := 1) (hxq u) rfl
      have a2 : ∀ u : ExtOf w1, u.to.cell? ⟨w.heap.size, 2, none⟩ = _ := fun u => cell_at (j := 2) (hxq u) rfl
      have a3 : ∀ u : ExtOf w1, u.to.cell? ⟨w.heap.size, 3, none⟩ = _ := fun u => cell_at (j := 3) (hxq u) rfl
      have a4 : ∀ u : ExtOf w1, u.to.cell? ⟨w.heap.size, 4, none⟩ = _ := fun u => cell_at (j := 4) (hxq u) rfl
      have a5 : ∀ u : ExtOf w1, u.to.cell? ⟨w.heap.size, 5, none⟩ = _ := fun u => cell_at (j := 5) (hxq u) rfl
      have hpl : ∀ u : ExtOf w1, Calls Tryz.prog 31 #[.agg #[.pointer none, .pointer (some ⟨pb, 0, none⟩)], .int .u8 o0, .int .u8 o1, .int .u8 o2, .int .u8 o3, .int .i64 o4, .int .i64 o5] u.to (Ret (.tuple #[.agg #[.pointer none, .pointer none], .slice none 0 0, .int .i64 2]) u.to) := fun u => vv u.to (Ext.trans er (Ext.trans hw1 u.h)) o0 o1 o2 o3 o4 o5
      simp only [heads, List.take_succ_cons, List.take_zero, List.contains_cons, List.contains_nil, Nat.reduceBEq, Bool.or_false, Bool.false_eq_true, Nat.reduceAdd, Bool.or_true, Bool.true_or, ↓reduceIte, Bool.or_self]
      repeat (first | go_big_quiet_step ((go_at_call 31; exact Ret.cls (hpl _))) | (go_big_quiet_want; refine quiet_load 32 _ _ _ rfl rfl ld ?_; go_big_quiet_on; simp only [Act.put, List.setIfInBounds_toArray, List.set_cons_zero, List.set_cons_succ]))
      refine wpQuiet_nil ?_
      refine wpX_new 21 _ (.cells #[.pointer none, .pointer none] 32) (fun a w => ?_) rfl (by kernel_rfl) (by decide) rfl ?_
      · simp [go_sem]
      intro s w4 h04 h4 hs4 _ hsb
      refine wpX_store 22 _ 32 _ _ rfl rfl rfl (by kernel_rfl) (by decide) rfl s _ (by kernel_rfl) rfl 32 _ (by kernel_rfl) (by rfl) (by rfl) hsb hs4 ?_
      intro w5 h05 hk5 hs5
      refine wpX_again waiter 23 [] (by kernel_rfl) h05 ?_
      intro w1 hw1
      simp only [Act.put, List.getElem_toArray, List.getElem_cons_succ, List.getElem_cons_zero, List.setIfInBounds_toArray, List.set_cons_zero, List.set_cons_succ]
      simp only [heads, List.take_succ_cons, List.take_zero, List.drop_succ_cons, List.drop_zero, List.contains_cons, List.contains_nil, Nat.reduceBEq, Bool.or_false, Bool.false_eq_true, Nat.reduceAdd, Bool.or_true, Bool.true_or, ↓reduceIte, Bool.or_self]
      repeat (go_big_quiet_step (fail))
      refine wpQuiet_nil ?_
      refine wpX_tail (by kernel_rfl) ?_
      intro w6 e6 e6'
      simp only [Act.put, List.setIfInBounds_toArray, List.set_cons_zero, List.set_cons_succ, List.drop_succ_cons, List.drop_zero]
      have E6 : Ext W w6 := Ext.trans er (Ext.trans h05 e6)
      have hs6 := e6.at hs5
      have z0 := cell_at (j := 0) hs6 rfl
      have z1 := cell_at (j := 1) hs6 rfl
      go_wp2
      have E9 : Ext W w6 := E6
      exact ⟨⟨3, by omega, by first | rfl | go_num, E9⟩, by simp [intOf]⟩
    · have r0 := cell_at (j := 6) xr rfl
      have r1 := cell_at (j := 7) xr rfl
      have vv := v3
      clear r0 r1
      go_wp2
      refine wp_region_hat waiter 24 [21, 22, 23] (by kernel_rfl) (by kernel_rfl) ?_
      intro w1 hw1
      have hxq : ∀ u : ExtOf w1, u.to.heap[w.heap.size]? = _ := fun u => (Ext.trans hw1 u.h).at hxr
      have xq : ∀ u : ExtOf w1, u.to.heap[w2.heap.size + 1 + 1]? = _ := fun u => (Ext.trans hw1 u.h).at xr
      have ld : ∀ wq, Cls w1 wq → (loadVar 32 ⟨w2.heap.size + 1 + 1, 6, none⟩).run Tryz.prog wq = .ok (.agg #[.pointer (some ⟨w2.heap.size, 0, none⟩), .pointer (some ⟨w2.heap.size + 1, 0, none⟩)]) wq := by
        rintro _ ⟨u, rfl⟩
        exact run_loadVar_part u.to _ 6 32 [_, _] _ (fun j v hv => by
          match j, hv with
          | 0, hv => simp at hv; subst hv; exact cell_at (j := 6) (xq u) rfl
          | 1, hv => simp at hv; subst hv; exact cell_at (j := 7) (xq u) rfl
          | j + 2, hv => simp at hv) Tryz.underlying32 rfl (by kernel_rfl)
      have a0 : ∀ u : ExtOf w1, u.to.cell? ⟨w.heap.size, 0, none⟩ = _ := fun u => cell_at (j := 0) (hxq u) rfl
      have a1 : ∀ u : ExtOf w1, u.to.cell? ⟨w.heap.size, 1, none⟩ = _ := fun u => cell_at (j := 1) (hxq u) rfl
      have a2 : ∀ u : ExtOf w1, u.to.cell? ⟨w.heap.size, 2, none⟩ = _ := fun u => cell_at (j := 2) (hxq u) rfl
      have a3 : ∀ u : ExtOf w1, u.to.cell? ⟨w.heap.size, 3, none⟩ = _ := fun u => cell_at (j := 3) (hxq u) rfl
      have a4 : ∀ u : ExtOf w1, u.to.cell? ⟨w.heap.size, 4, none⟩ = _ := fun u => cell_at (j := 4) (hxq u) rfl
      have a5 : ∀ u : ExtOf w1, u.to.cell? ⟨w.heap.size, 5, none⟩ = _ := fun u => cell_at (j := 5) (hxq u) rfl
      have hpl : ∀ u : ExtOf w1, Calls Tryz.prog 31 #[.agg #[.pointer (some ⟨w2.heap.size, 0, none⟩), .pointer (some ⟨w2.heap.size + 1, 0, none⟩)], .int .u8 o0, .int .u8 o1, .int .u8 o2, .int .u8 o3, .int .i64 o4, .int .i64 o5] u.to (Ret (.tuple #[.agg #[.pointer none, .pointer none], .slice none 0 0, .int .i64 2]) u.to) := fun u => vv u.to (Ext.trans er (Ext.trans hw1 u.h)) o0 o1 o2 o3 o4 o5
      simp only [heads, List.take_succ_cons, List.take_zero, List.contains_cons, List.contains_nil, Nat.reduceBEq, Bool.or_false, Bool.false_eq_true, Nat.reduceAdd, Bool.or_true, Bool.true_or, ↓reduceIte, Bool.or_self]
      repeat (first | go_big_quiet_step ((go_at_call 31; exact Ret.cls (hpl _))) | (go_big_quiet_want; refine quiet_load 32 _ _ _ rfl rfl ld ?_; go_big_quiet_on; simp only [Act.put, List.setIfInBounds_toArray, List.set_cons_zero, List.set_cons_succ]))
      refine wpQuiet_nil ?_
      refine wpX_new 21 _ (.cells #[.pointer none, .pointer none] 32) (fun a w => ?_) rfl (by kernel_rfl) (by decide) rfl ?_
      · simp [go_sem]
      intro s w4 h04 h4 hs4 _ hsb
      refine wpX_store 22 _ 32 _ _ rfl rfl rfl (by kernel_rfl) (by decide) rfl s _ (by kernel_rfl) rfl 32 _ (by kernel_rfl) (by rfl) (by rfl) hsb hs4 ?_
      intro w5 h05 hk5 hs5
      refine wpX_again waiter 23 [] (by kernel_rfl) h05 ?_
      intro w1 hw1
      simp only [Act.put, List.getElem_toArray, List.getElem_cons_succ, List.getElem_cons_zero, List.setIfInBounds_toArray, List.set_cons_zero, List.set_cons_succ]
      simp only [heads, List.take_succ_cons, List.take_zero, List.drop_succ_cons, List.drop_zero, List.contains_cons, List.contains_nil, Nat.reduceBEq, Bool.or_false, Bool.false_eq_true, Nat.reduceAdd, Bool.or_true, Bool.true_or, ↓reduceIte, Bool.or_self]
      repeat (go_big_quiet_step (fail))
      refine wpQuiet_nil ?_
      refine wpX_tail (by kernel_rfl) ?_
      intro w6 e6 e6'
      simp only [Act.put, List.setIfInBounds_toArray, List.set_cons_zero, List.set_cons_succ, List.drop_succ_cons, List.drop_zero]
      have E6 : Ext W w6 := Ext.trans er (Ext.trans h05 e6)
      have hs6 := e6.at hs5
      have z0 := cell_at (j := 0) hs6 rfl
      have z1 := cell_at (j := 1) hs6 rfl
      go_wp2
      have E9 : Ext W w6 := E6
      exact ⟨⟨4, by omega, by first | rfl | go_num, E9⟩, by simp [intOf]⟩
    · go_wp2_with fail
      refine (given_any 0 (.slice none 0 0) [] _ (by simp) (SlAt.nil _ _ _)).mono ?_
      rintro e w5 ⟨rfl, e5⟩
      rw [show givenS [] = 0 from by decide +kernel]
      go_wp2_with fail
      refine (lives11_any _).mono ?_
      rintro e w6 ⟨rfl, e6⟩
      go_wp2
      go_ret
      exact ⟨rfl, Ext.trans E0 (Ext.trans er (Ext.trans e5 e6))⟩
end Go.Proofs.YtjddfopebpmaeaaGreat
