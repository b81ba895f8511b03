/- Steps, walked: what is asked, and turns nothing: position, total, debt, left. Steps, walked: open, trust, pay, cancel, net. Steps, walked: swap. Steps, walked: place. -/
import Derived.Test.YtahdgojcebajkaaGreatRnd
import Derived.Test.YtahdgojcebajkaaGreatNt
import Derived.Test.YtahdgojcebajkaaGreatSwap5
import Derived.Test.YtahdgojcebajkaaGreatLines
import Derived.Test.YtahdgojcebajkaaGreatFair

namespace Go.Proofs.YtahdgojcebajkaaGreat
open Go.RowKit Go.Rg Go.BigFrame

/-- Nothing has turned but what may, and what is new. -/
structure FrA (A : Nat → Prop) (w w' : World) : Prop where
  os : w'.os = w.os
  tape : w'.tape = w.tape
  output : w'.output = w.output
  size : w.heap.size ≤ w'.heap.size
  block : ∀ k, k < w.heap.size → ¬ A k → w'.heap[k]? = w.heap[k]?
theorem FrA.of_ext {A : Nat → Prop} {w w' : World} (h : Ext w w') : FrA A w w' := ⟨h.os, h.tape, h.output, h.size, fun _ hk _ => h.block hk⟩
theorem fra_keep {A : Nat → Prop} {S : List Nat} {a b c : World} (h : FrA A a b) (k : Keep S b c) (hS : ∀ x ∈ S, A x ∨ a.heap.size ≤ x) : FrA A a c :=
  ⟨k.os.trans h.os, k.tape.trans h.tape, k.output.trans h.output, Nat.le_trans h.size k.size, fun i hi hA => (k.block i (Nat.lt_of_lt_of_le hi h.size) (fun hm => by
    rcases hS i hm with h1 | h1
    · exact hA h1
    · omega)).trans (h.block i hi hA)⟩
theorem FrA.at {A : Nat → Prop} {w w' : World} (h : FrA A w w') {k : Nat} {ob : Obj} (hk : w.heap[k]? = some ob) (hA : ¬ A k) : w'.heap[k]? = some ob := (h.block k (lt_of_heap hk) hA).trans hk
/-- A work's house: its row, its ledger, its book; all of what may turn. -/
structure IsH (w : World) (base : Nat → Prop) (hw p m pb : Nat) (g : Option Nat) (L : Led) (B : Bk) : Prop where
  row : w.heap[hw]? = some (Obj.cells #[.pointer (some ⟨p, 0, none⟩), .pointer (some ⟨pb, 0, none⟩)] 169 (0, 0))
  led : IsLed w p m L
  book : IsBook w pb g B
  ok : MOk L B
  lo : base hw ∧ base p ∧ base m ∧ base pb ∧ ∀ x, g = some x → base x
theorem IsH.ext {w w' : World} {base : Nat → Prop} {hw p m pb : Nat} {g : Option Nat} {L : Led} {B : Bk} (h : IsH w base hw p m pb g L B) (k : Ext w w') : IsH w' base hw p m pb g L B :=
  ⟨k.at h.row, h.led.ext k, h.book.ext k, h.ok, h.lo⟩
/-- What a step leaves: its answer, its error, and, if it has none, the house behind it. -/
def RetM (base : Nat → Prop) (hw : Nat) (r : Gt × Int × Led × Bk) (w : World) (e : Ending) (w' : World) : Prop :=
  ∃ x y, e = .returned (.tuple #[.agg #[.int .i64 x, .int .i64 y], .int .i64 r.2.1]) ∧ FrA base w w' ∧ (r.2.1 = 0 → (x, y) = r.1 ∧ ∃ p m pb g, IsH w' base hw p m pb g r.2.2.1 r.2.2.2)
set_option maxRecDepth 100000 in
set_option maxHeartbeats 3200000 in
theorem wposition_any (base : Nat → Prop) (hw p m pb : Nat) (g : Option Nat) (L : Led) (B : Bk) (s : Stp) (w : World) (h : IsH w base hw p m pb g L B) (_hb : ∀ x, w.heap.size ≤ x → base x) : Calls Tryz.prog 130 #[.pointer (some ⟨hw, 0, none⟩), s.agg] w (RetM base hw ((posR L s.pa s.ca, 0), 0, L, B) w) := by
  obtain ⟨kd, pa, pbb, ca, cb, am, mx, nu, de, sq⟩ := s
  simp only [Stp.agg]
  have hps := fun W (kk : Ext w W) => pos_any p m L pa ca W (h.led.ext kk) h.ok.wf
  have e0 := ext_alloc w (.cells #[.int .u8 kd, .int .u8 pa, .int .u8 pbb, .int .u8 ca, .int .u8 cb, .int .i64 am, .int .i64 mx, .int .i64 nu, .int .i64 de, .int .u64 sq] 97)
  have h0 := heap_alloc_top w (.cells #[.int .u8 kd, .int .u8 pa, .int .u8 pbb, .int .u8 ca, .int .u8 cb, .int .i64 am, .int .i64 mx, .int .i64 nu, .int .i64 de, .int .u64 sq] 97)
  have s0 := size_alloc w (.cells #[.int .u8 kd, .int .u8 pa, .int .u8 pbb, .int .u8 ca, .int .u8 cb, .int .i64 am, .int .i64 mx, .int .i64 nu, .int .i64 de, .int .u64 sq] 97)
  generalize hW : w.alloc (.cells #[.int .u8 kd, .int .u8 pa, .int .u8 pbb, .int .u8 ca, .int .u8 cb, .int .i64 am, .int .i64 mx, .int .i64 nu, .int .i64 de, .int .u64 sq] 97) = W at *
  have HW := Lib.hid hW
  clear hW
  go_enter Tryz.func130, Tryz.ntmps130
  go_wp2_with (first
    | (refine wpList_newrow rfl 100 rfl (.cells #[.int .i64 0, .int .i64 0] 100) _ rfl (by go_simp) ?_
       rw [HW.out]
       intro w2 e2 h2
       rw [s0] at h2))
  have h02 := e2.at h0
  have e02 := Ext.trans e0 e2
  have hH := h.ext e02
  have s2 := lt_of_heap h2
  clear e0 h0 e2 HW s0
  have hF : ∀ W, Keep [w.heap.size + 1] w2 W → W.cell? ⟨w.heap.size, 1, none⟩ = some (.int .u8 pa) ∧ W.cell? ⟨w.heap.size, 3, none⟩ = some (.int .u8 ca) ∧ W.cell? ⟨hw, 0, none⟩ = some (.pointer (some ⟨p, 0, none⟩)) ∧ Ext w W := fun W kk => by
    have q0 := kk.at h02 (by simp)
    have q1 := kk.at hH.row (by have := lt_of_heap h.row; simp; omega)
    exact ⟨cell_at (j := 1) q0 rfl, cell_at (j := 3) q0 rfl, cell_at (j := 0) q1 rfl, (Keep.trans_fresh (S := []) (Keep.of_ext e02) kk (fun x hx => by right; simp at hx; omega)).ext⟩
  generalize posR L pa ca = res at *
  refine RgK.wp_region_hat2 [w.heap.size + 1] waiter 12 [11] (by kernel_rfl) (by kernel_rfl) ?_ ?_
  · intro w1 hw1
    have d1 : ∀ u : ExtOf w1, u.to.cell? ⟨w.heap.size, 1, none⟩ = _ := fun u => (hF _ (hw1.trans (Keep.of_ext u.h))).1
    have d3 : ∀ u : ExtOf w1, u.to.cell? ⟨w.heap.size, 3, none⟩ = _ := fun u => (hF _ (hw1.trans (Keep.of_ext u.h))).2.1
    have dh : ∀ u : ExtOf w1, u.to.cell? ⟨hw, 0, none⟩ = _ := fun u => (hF _ (hw1.trans (Keep.of_ext u.h))).2.2.1
    have hx : ∀ u : ExtOf w1, Ext w u.to := fun u => (hF _ (hw1.trans (Keep.of_ext u.h))).2.2.2
    simp only [heads, List.take_succ_cons, List.take_zero, List.contains_cons, List.contains_nil, Nat.reduceBEq, Bool.or_false, Bool.false_eq_true, Nat.reduceAdd, Bool.or_true, Bool.true_or, ↓reduceIte, Bool.or_self]
    repeat (go_big_quiet_step ((go_at_call 89; exact Ret.cls (hps _ (hx _)))))
    refine wpQuiet_nil ?_
    trivial
  intro w1 hw1
  have d1 : ∀ u : KeepOf [w.heap.size + 1] w1, u.to.cell? ⟨w.heap.size, 1, none⟩ = _ := fun u => (hF _ (hw1.trans u.h)).1
  have d3 : ∀ u : KeepOf [w.heap.size + 1] w1, u.to.cell? ⟨w.heap.size, 3, none⟩ = _ := fun u => (hF _ (hw1.trans u.h)).2.1
  have dh : ∀ u : KeepOf [w.heap.size + 1] w1, u.to.cell? ⟨hw, 0, none⟩ = _ := fun u => (hF _ (hw1.trans u.h)).2.2.1
  have hx : ∀ u : KeepOf [w.heap.size + 1] w1, Ext w u.to := fun u => (hF _ (hw1.trans u.h)).2.2.2
  simp only [heads, List.take_succ_cons, List.take_zero, List.contains_cons, List.contains_nil, Nat.reduceBEq, Bool.or_false, Bool.false_eq_true, Nat.reduceAdd, Bool.or_true, Bool.true_or, ↓reduceIte, Bool.or_self]
  repeat (go_big_quiet_step ((go_at_call 89; exact Ret.clsK (hps _ (hx _)))))
  refine wpQuiet_nil ?_
  intro hx1
  clear d1 d3 dh hx
  refine RgK.wpX_store 11 _ 100 _ _ rfl rfl rfl (by kernel_rfl) (by decide) rfl (w.heap.size + 1) #[.int .i64 res, .int .i64 0] (by kernel_rfl) (by kernel_rfl) 100 _ (by kernel_rfl) (by rfl) (by rfl) (hx1.at h2) (Or.inl (by simp)) ?_
  intro wd h0d kd' hsd
  refine RgK.wpX_tail (by kernel_rfl) ?_
  intro wy ey ey'
  simp only [Act.put, List.setIfInBounds_toArray, List.set_cons_zero, List.set_cons_succ, List.drop_succ_cons, List.drop_zero]
  have hry := ey'.at hsd
  have EY := (hF _ ey).2.2.2
  clear hw1 hx1 h0d kd' hsd ey ey' hF
  go_wp2
  exact ret_cell_tmp (w.heap.size + 1) 100 _ _ _ rfl rfl hry Tryz.underlying100 rfl (by kernel_rfl) rfl ⟨_, _, rfl, FrA.of_ext EY, fun _ => ⟨rfl, p, m, pb, g, h.ext EY⟩⟩
set_option maxRecDepth 100000 in
set_option maxHeartbeats 3200000 in
theorem wdebt_any (base : Nat → Prop) (hw p m pb : Nat) (g : Option Nat) (L : Led) (B : Bk) (s : Stp) (w : World) (h : IsH w base hw p m pb g L B) (_hb : ∀ x, w.heap.size ≤ x → base x) : Calls Tryz.prog 129 #[.pointer (some ⟨hw, 0, none⟩), s.agg] w (RetM base hw (lineXY L s.pa s.pb s.ca, 0, L, B) w) := by
  obtain ⟨kd, pa, pbb, ca, cb, am, mx, nu, de, sq⟩ := s
  simp only [Stp.agg]
  have hln := fun W (kk : Ext w W) => line_any p m L pa pbb ca W (h.led.ext kk)
  unfold lineR at hln
  have hxy : lineXY L pa pbb ca = match lkO L.lines (pa, pbb, ca) with | some v => (v.2, v.1) | none => (0, 0) := rfl
  have e0 := ext_alloc w (.cells #[.int .u8 kd, .int .u8 pa, .int .u8 pbb, .int .u8 ca, .int .u8 cb, .int .i64 am, .int .i64 mx, .int .i64 nu, .int .i64 de, .int .u64 sq] 97)
  have h0 := heap_alloc_top w (.cells #[.int .u8 kd, .int .u8 pa, .int .u8 pbb, .int .u8 ca, .int .u8 cb, .int .i64 am, .int .i64 mx, .int .i64 nu, .int .i64 de, .int .u64 sq] 97)
  have s0 := size_alloc w (.cells #[.int .u8 kd, .int .u8 pa, .int .u8 pbb, .int .u8 ca, .int .u8 cb, .int .i64 am, .int .i64 mx, .int .i64 nu, .int .i64 de, .int .u64 sq] 97)
  generalize hW : w.alloc (.cells #[.int .u8 kd, .int .u8 pa, .int .u8 pbb, .int .u8 ca, .int .u8 cb, .int .i64 am, .int .i64 mx, .int .i64 nu, .int .i64 de, .int .u64 sq] 97) = W at *
  have HW := Lib.hid hW
  clear hW
  go_enter Tryz.func129, Tryz.ntmps129
  go_wp2_with (first
    | (refine wpList_newrow rfl 100 rfl (.cells #[.int .i64 0, .int .i64 0] 100) _ rfl (by go_simp) ?_
       rw [HW.out]
       intro w2 e2 h2
       rw [s0] at h2))
  have h02 := e2.at h0
  have e02 := Ext.trans e0 e2
  have hH := h.ext e02
  have s2 := lt_of_heap h2
  clear e0 h0 e2 HW s0
  cases hk : lkO L.lines (pa, pbb, ca) with
  | some v =>
    rw [hk] at hln hxy
    simp only at hln hxy
    have HXY := Lib.hid hxy.symm
    clear hxy hk
    obtain ⟨v1, v2⟩ := v
    simp only at hln HXY
    refine wp_region_hat waiter 17 [15, 16] (by kernel_rfl) (by kernel_rfl) ?_
    intro w1 hw1
    have d1 : ∀ u : ExtOf w1, u.to.cell? ⟨w.heap.size, 1, none⟩ = _ := fun u => cell_at (j := 1) ((Ext.trans hw1 u.h).at h02) rfl
    have d2 : ∀ u : ExtOf w1, u.to.cell? ⟨w.heap.size, 2, none⟩ = _ := fun u => cell_at (j := 2) ((Ext.trans hw1 u.h).at h02) rfl
    have d3 : ∀ u : ExtOf w1, u.to.cell? ⟨w.heap.size, 3, none⟩ = _ := fun u => cell_at (j := 3) ((Ext.trans hw1 u.h).at h02) rfl
    have dh : ∀ u : ExtOf w1, u.to.cell? ⟨hw, 0, none⟩ = _ := fun u => cell_at (j := 0) ((Ext.trans hw1 u.h).at hH.row) rfl
    have hx : ∀ u : ExtOf w1, Ext w u.to := fun u => Ext.trans e02 (Ext.trans hw1 u.h)
    simp only [heads, List.take_succ_cons, List.take_zero, List.contains_cons, List.contains_nil, Nat.reduceBEq, Bool.or_false, Bool.false_eq_true, Nat.reduceAdd, Bool.or_true, Bool.true_or, ↓reduceIte, Bool.or_self]
    repeat (go_big_quiet_step ((go_at_call 137; exact Ret.cls (hln _ (hx _)))))
    refine wpQuiet_nil ?_
    clear d1 d2 d3 dh hx
    refine wpX_newv 15 _ (.cells #[.int .u8 0, .int .u8 0, .int .u8 0, .int .i64 0, .int .i64 0] 149) (fun p => .pointer (some ⟨p, 0, none⟩)) (by intro w; go_simp) rfl (by kernel_rfl) (by decide) rfl ?_
    intro lb wa h0a ha hlb0 hlb1 hlbb
    refine wpX_store 16 _ 149 _ _ rfl rfl rfl (by kernel_rfl) (by decide) rfl lb #[.int .u8 pa, .int .u8 pbb, .int .u8 ca, .int .i64 v1, .int .i64 v2] (by kernel_rfl) (by kernel_rfl) 149 _ (by kernel_rfl) (by rfl) (by rfl) hlbb hlb0 ?_
    intro wd h0d kd' hsd
    refine wpX_tail (by kernel_rfl) ?_
    intro wy ey ey'
    simp only [Act.put, List.setIfInBounds_toArray, List.set_cons_zero, List.set_cons_succ, List.drop_succ_cons, List.drop_zero]
    have hl2 := ey'.at hsd
    have hr4 := ey.at h2
    have EY := Ext.trans e02 ey
    have z4 := cell_at (j := 4) hl2 rfl
    have z3 := cell_at (j := 3) hl2 rfl
    clear hw1 h0d hsd ey' hlbb kd' h0a ha
    go_wp2_with (refine wpList_row rfl rfl 100 _ _ rfl (w.heap.size + 1) _ rfl rfl 100 _ hr4 (by kernel_rfl) (by rfl) (by rfl) ?_
                 intro wz hbz hoz hsz)
    have EZ : Ext w wz := hbz _ _ (by omega) EY
    exact ret_cell_tmp (w.heap.size + 1) 100 _ _ _ rfl rfl hsz Tryz.underlying100 rfl (by kernel_rfl) rfl ⟨_, _, rfl, FrA.of_ext EZ, fun _ => ⟨HXY.out, p, m, pb, g, h.ext EZ⟩⟩
  | none =>
    rw [hk] at hln hxy
    simp only at hln hxy
    have HXY := Lib.hid hxy.symm
    clear hxy hk
    refine wp_region_hat waiter 17 [15, 16] (by kernel_rfl) (by kernel_rfl) ?_
    intro w1 hw1
    have d1 : ∀ u : ExtOf w1, u.to.cell? ⟨w.heap.size, 1, none⟩ = _ := fun u => cell_at (j := 1) ((Ext.trans hw1 u.h).at h02) rfl
    have d2 : ∀ u : ExtOf w1, u.to.cell? ⟨w.heap.size, 2, none⟩ = _ := fun u => cell_at (j := 2) ((Ext.trans hw1 u.h).at h02) rfl
    have d3 : ∀ u : ExtOf w1, u.to.cell? ⟨w.heap.size, 3, none⟩ = _ := fun u => cell_at (j := 3) ((Ext.trans hw1 u.h).at h02) rfl
    have dh : ∀ u : ExtOf w1, u.to.cell? ⟨hw, 0, none⟩ = _ := fun u => cell_at (j := 0) ((Ext.trans hw1 u.h).at hH.row) rfl
    have hx : ∀ u : ExtOf w1, Ext w u.to := fun u => Ext.trans e02 (Ext.trans hw1 u.h)
    simp only [heads, List.take_succ_cons, List.take_zero, List.contains_cons, List.contains_nil, Nat.reduceBEq, Bool.or_false, Bool.false_eq_true, Nat.reduceAdd, Bool.or_true, Bool.true_or, ↓reduceIte, Bool.or_self]
    repeat (go_big_quiet_step ((go_at_call 137; exact Ret.cls (hln _ (hx _)))))
    refine wpQuiet_nil ?_
    clear d1 d2 d3 dh hx
    refine wpX_newv 15 _ (.cells #[.int .u8 0, .int .u8 0, .int .u8 0, .int .i64 0, .int .i64 0] 149) (fun p => .pointer (some ⟨p, 0, none⟩)) (by intro w; go_simp) rfl (by kernel_rfl) (by decide) rfl ?_
    intro lb wa h0a ha hlb0 hlb1 hlbb
    refine wpX_store 16 _ 149 _ _ rfl rfl rfl (by kernel_rfl) (by decide) rfl lb #[.int .u8 0, .int .u8 0, .int .u8 0, .int .i64 0, .int .i64 0] (by kernel_rfl) (by kernel_rfl) 149 _ (by kernel_rfl) (by rfl) (by rfl) hlbb hlb0 ?_
    intro wd h0d kd' hsd
    refine wpX_tail (by kernel_rfl) ?_
    intro wy ey ey'
    simp only [Act.put, List.setIfInBounds_toArray, List.set_cons_zero, List.set_cons_succ, List.drop_succ_cons, List.drop_zero]
    have hl2 := ey'.at hsd
    have hr4 := ey.at h2
    have EY := Ext.trans e02 ey
    have z4 := cell_at (j := 4) hl2 rfl
    have z3 := cell_at (j := 3) hl2 rfl
    clear hw1 h0d hsd ey' hlbb kd' h0a ha
    go_wp2_with (refine wpList_row rfl rfl 100 _ _ rfl (w.heap.size + 1) _ rfl rfl 100 _ hr4 (by kernel_rfl) (by rfl) (by rfl) ?_
                 intro wz hbz hoz hsz)
    have EZ : Ext w wz := hbz _ _ (by omega) EY
    exact ret_cell_tmp (w.heap.size + 1) 100 _ _ _ rfl rfl hsz Tryz.underlying100 rfl (by kernel_rfl) rfl ⟨_, _, rfl, FrA.of_ext EZ, fun _ => ⟨HXY.out, p, m, pb, g, h.ext EZ⟩⟩

end Go.Proofs.YtahdgojcebajkaaGreat

namespace Go.Proofs.YtahdgojcebajkaaGreat
open Go.RowKit Go.Rg Go.BigFrame


set_option maxRecDepth 100000 in
set_option maxHeartbeats 6400000 in
theorem wopen_any (base : Nat → Prop) (hw p m pb : Nat) (g : Option Nat) (L : Led) (B : Bk) (s : Stp) (w : World) (h : IsH w base hw p m pb g L B) (hb : ∀ x, w.heap.size ≤ x → base x) (hin : s.In) : Calls Tryz.prog 122 #[.pointer (some ⟨hw, 0, none⟩), s.agg] w (RetM base hw ((0, 0), (openR L s.pa).1, (openR L s.pa).2, B) w) := by
  obtain ⟨kd, pa, pbb, ca, cb, am, mx, nu, de, sq⟩ := s
  obtain ⟨in1, in2, in3, in4⟩ := hin
  simp only at in1 in2 in3 in4
  simp only [Stp.agg]
  have e0 := ext_alloc w (.cells #[.int .u8 kd, .int .u8 pa, .int .u8 pbb, .int .u8 ca, .int .u8 cb, .int .i64 am, .int .i64 mx, .int .i64 nu, .int .i64 de, .int .u64 sq] 97)
  have h0 := heap_alloc_top w (.cells #[.int .u8 kd, .int .u8 pa, .int .u8 pbb, .int .u8 ca, .int .u8 cb, .int .i64 am, .int .i64 mx, .int .i64 nu, .int .i64 de, .int .u64 sq] 97)
  have s0 := size_alloc w (.cells #[.int .u8 kd, .int .u8 pa, .int .u8 pbb, .int .u8 ca, .int .u8 cb, .int .i64 am, .int .i64 mx, .int .i64 nu, .int .i64 de, .int .u64 sq] 97)
  generalize hW : w.alloc (.cells #[.int .u8 kd, .int .u8 pa, .int .u8 pbb, .int .u8 ca, .int .u8 cb, .int .i64 am, .int .i64 mx, .int .i64 nu, .int .i64 de, .int .u64 sq] 97) = W at *
  have HW := Lib.hid hW
  clear hW
  go_enter Tryz.func122, Tryz.ntmps122
  go_wp2_with (first
    | (refine wpList_newrow rfl 100 rfl (.cells #[.int .i64 0, .int .i64 0] 100) _ rfl (by go_simp) ?_
       rw [HW.out]
       intro w2 e2 h2
       rw [s0] at h2))
  have h02 := e2.at h0
  have e02 := Ext.trans e0 e2
  have hH := h.ext e02
  have s2 := lt_of_heap h2
  clear e0 h0 e2 HW s0
  have hap := apart_hb hH.led hH.book
  have hah := led_ne hH.led hH.row (by decide)
  have hbh := book_ne hH.book hH.row (by decide) (by decide)
  have hpl := h.led.ltp
  have hml := h.led.ltm
  have hpbl := h.book.ltp
  have hgl := h.book.ltg
  have hhl := lt_of_heap h.row
  obtain ⟨lo1, lo2, lo3, lo4, lo5⟩ := h.lo
  have hpm := h.led.ne
  have hrsS : w.heap.size ∉ [p, w.heap.size + 1] := by simp; omega
  have hhwS : hw ∉ [p, w.heap.size + 1] := by have := hah.1; have := hah.2; simp at *; omega
  have hr4S : True := by trivial
  have hloS : ∀ x ∈ ([p, w.heap.size + 1] : List Nat), base x ∨ w.heap.size ≤ x := by intro x hx; rcases List.mem_cons.1 hx with rfl | hx; exact .inl lo2; exact .inr (by simp at hx; omega)
  refine RgK.wp_region_hat ([p, w.heap.size + 1]) waiter 10 [8, 9] (by kernel_rfl) (by kernel_rfl) (by kernel_rfl) ?_
  intro w1 hw1
  have q0 : ∀ u : KeepOf ([p, w.heap.size + 1]) w1, u.to.heap[w.heap.size]? = _ := fun u => (hw1.trans u.h).at h02 hrsS
  have qh : ∀ u : KeepOf ([p, w.heap.size + 1]) w1, u.to.heap[hw]? = _ := fun u => (hw1.trans u.h).at hH.row hhwS
  have d1 : ∀ u : KeepOf ([p, w.heap.size + 1]) w1, u.to.cell? ⟨w.heap.size, 1, none⟩ = some (.int .u8 pa) := fun u => cell_at (j := 1) (q0 u) rfl
  have dh : ∀ u : KeepOf ([p, w.heap.size + 1]) w1, u.to.cell? ⟨hw, 0, none⟩ = _ := fun u => cell_at (j := 0) (qh u) rfl
  clear q0 qh
  simp only [heads, List.take_succ_cons, List.take_zero, List.contains_cons, List.contains_nil, Nat.reduceBEq, Bool.or_false, Bool.false_eq_true, Nat.reduceAdd, Bool.or_true, Bool.true_or, ↓reduceIte, Bool.or_self]
  repeat (go_big_quiet_step (fail))
  refine wpQuiet_nil ?_
  intro hx1
  clear dh d1
  refine RgK.wpX_callf 8 48 _ #[.pointer (some ⟨p, 0, none⟩), .int .u8 pa] _ (by rfl) _ _ (by rfl) Tryz.func48 rfl rfl (by kernel_rfl) (by rfl) (by kernel_rfl) (by decide) ?_
  intro w3 h03 h3
  have E3 := Ext.trans hx1 h3
  refine (open_any p m L pa w3 (hH.led.ext E3)).mono ?_
  rintro e w4 ⟨rfl, k4, hL4⟩
  refine ⟨_, rfl, h03.trans (k4.mono (fun x hx => by simp at hx ⊢; omega)), ?_⟩
  have hr4 := k4.at (E3.at h2) (by simp; omega)
  refine RgK.wpX_store 9 _ 100 _ _ rfl rfl rfl (by kernel_rfl) (by decide) rfl (w.heap.size + 1) #[.int .i64 0, .int .i64 0] (by kernel_rfl) (by kernel_rfl) 100 _ (by kernel_rfl) (by rfl) (by rfl) hr4 (Or.inl (by simp)) ?_
  intro wd h0d kd' hsd
  refine RgK.wpX_tail (by kernel_rfl) ?_
  intro wy ey ey'
  simp only [Act.put, List.setIfInBounds_toArray, List.set_cons_zero, List.set_cons_succ, List.drop_succ_cons, List.drop_zero]
  have hry := ey'.at hsd
  have hLy := (hL4.keep kd' (by simp; omega) (by simp; omega)).ext ey'
  have hrowy := ey.at hH.row hhwS
  have hBy := hH.book.keep ey (by have := hap.1; simp at *; omega) (by intro x hx; have := hap.1; have := hgl x hx; simp [hx] at *; omega)
  have EB := fra_keep (FrA.of_ext e02) ey hloS
  clear hw1 hx1 h03 h3 E3 h0d kd' hsd ey ey' k4 hL4 hr4
  go_wp2
  exact ret_cell_tmp (w.heap.size + 1) 100 _ _ _ rfl rfl hry Tryz.underlying100 rfl (by kernel_rfl) rfl ⟨_, _, rfl, EB, fun _ => ⟨rfl, p, m, pb, g, ⟨hrowy, hLy, hBy, ⟨wf_open h.ok.wf h.led.len _, h.ok.ok, h.ok.sq⟩, ⟨lo1, lo2, lo3, lo4, lo5⟩⟩⟩⟩

set_option maxRecDepth 100000 in
set_option maxHeartbeats 6400000 in
theorem wtrust_any (base : Nat → Prop) (hw p m pb : Nat) (g : Option Nat) (L : Led) (B : Bk) (s : Stp) (w : World) (h : IsH w base hw p m pb g L B) (hb : ∀ x, w.heap.size ≤ x → base x) (hin : s.In) : Calls Tryz.prog 123 #[.pointer (some ⟨hw, 0, none⟩), s.agg] w (RetM base hw ((0, 0), (trustR L s.pa s.pb s.ca s.am).1, (trustR L s.pa s.pb s.ca s.am).2, B) w) := by
  obtain ⟨kd, pa, pbb, ca, cb, am, mx, nu, de, sq⟩ := s
  obtain ⟨in1, in2, in3, in4⟩ := hin
  simp only at in1 in2 in3 in4
  simp only [Stp.agg]
  have e0 := ext_alloc w (.cells #[.int .u8 kd, .int .u8 pa, .int .u8 pbb, .int .u8 ca, .int .u8 cb, .int .i64 am, .int .i64 mx, .int .i64 nu, .int .i64 de, .int .u64 sq] 97)
  have h0 := heap_alloc_top w (.cells #[.int .u8 kd, .int .u8 pa, .int .u8 pbb, .int .u8 ca, .int .u8 cb, .int .i64 am, .int .i64 mx, .int .i64 nu, .int .i64 de, .int .u64 sq] 97)
  have s0 := size_alloc w (.cells #[.int .u8 kd, .int .u8 pa, .int .u8 pbb, .int .u8 ca, .int .u8 cb, .int .i64 am, .int .i64 mx, .int .i64 nu, .int .i64 de, .int .u64 sq] 97)
  generalize hW : w.alloc (.cells #[.int .u8 kd, .int .u8 pa, .int .u8 pbb, .int .u8 ca, .int .u8 cb, .int .i64 am, .int .i64 mx, .int .i64 nu, .int .i64 de, .int .u64 sq] 97) = W at *
  have HW := Lib.hid hW
  clear hW
  go_enter Tryz.func123, Tryz.ntmps123
  go_wp2_with (first
    | (refine wpList_newrow rfl 100 rfl (.cells #[.int .i64 0, .int .i64 0] 100) _ rfl (by go_simp) ?_
       rw [HW.out]
       intro w2 e2 h2
       rw [s0] at h2))
  have h02 := e2.at h0
  have e02 := Ext.trans e0 e2
  have hH := h.ext e02
  have s2 := lt_of_heap h2
  clear e0 h0 e2 HW s0
  have hap := apart_hb hH.led hH.book
  have hah := led_ne hH.led hH.row (by decide)
  have hbh := book_ne hH.book hH.row (by decide) (by decide)
  have hpl := h.led.ltp
  have hml := h.led.ltm
  have hpbl := h.book.ltp
  have hgl := h.book.ltg
  have hhl := lt_of_heap h.row
  obtain ⟨lo1, lo2, lo3, lo4, lo5⟩ := h.lo
  have hpm := h.led.ne
  have hrsS : w.heap.size ∉ [m, w.heap.size + 1] := by simp; omega
  have hhwS : hw ∉ [m, w.heap.size + 1] := by have := hah.1; have := hah.2; simp at *; omega
  have hr4S : True := by trivial
  have hloS : ∀ x ∈ ([m, w.heap.size + 1] : List Nat), base x ∨ w.heap.size ≤ x := by intro x hx; rcases List.mem_cons.1 hx with rfl | hx; exact .inl lo3; exact .inr (by simp at hx; omega)
  refine RgK.wp_region_hat ([m, w.heap.size + 1]) waiter 16 [14, 15] (by kernel_rfl) (by kernel_rfl) (by kernel_rfl) ?_
  intro w1 hw1
  have q0 : ∀ u : KeepOf ([m, w.heap.size + 1]) w1, u.to.heap[w.heap.size]? = _ := fun u => (hw1.trans u.h).at h02 hrsS
  have qh : ∀ u : KeepOf ([m, w.heap.size + 1]) w1, u.to.heap[hw]? = _ := fun u => (hw1.trans u.h).at hH.row hhwS
  have d1 : ∀ u : KeepOf ([m, w.heap.size + 1]) w1, u.to.cell? ⟨w.heap.size, 1, none⟩ = some (.int .u8 pa) := fun u => cell_at (j := 1) (q0 u) rfl
  have d2 : ∀ u : KeepOf ([m, w.heap.size + 1]) w1, u.to.cell? ⟨w.heap.size, 2, none⟩ = some (.int .u8 pbb) := fun u => cell_at (j := 2) (q0 u) rfl
  have d3 : ∀ u : KeepOf ([m, w.heap.size + 1]) w1, u.to.cell? ⟨w.heap.size, 3, none⟩ = some (.int .u8 ca) := fun u => cell_at (j := 3) (q0 u) rfl
  have d5 : ∀ u : KeepOf ([m, w.heap.size + 1]) w1, u.to.cell? ⟨w.heap.size, 5, none⟩ = some (.int .i64 am) := fun u => cell_at (j := 5) (q0 u) rfl
  have dh : ∀ u : KeepOf ([m, w.heap.size + 1]) w1, u.to.cell? ⟨hw, 0, none⟩ = _ := fun u => cell_at (j := 0) (qh u) rfl
  clear q0 qh
  simp only [heads, List.take_succ_cons, List.take_zero, List.contains_cons, List.contains_nil, Nat.reduceBEq, Bool.or_false, Bool.false_eq_true, Nat.reduceAdd, Bool.or_true, Bool.true_or, ↓reduceIte, Bool.or_self]
  repeat (go_big_quiet_step (fail))
  refine wpQuiet_nil ?_
  intro hx1
  clear dh d1 d2 d3 d5
  refine RgK.wpX_callf 14 49 _ #[.pointer (some ⟨p, 0, none⟩), .int .u8 pa, .int .u8 pbb, .int .u8 ca, .int .i64 am] _ (by rfl) _ _ (by rfl) Tryz.func49 rfl rfl (by kernel_rfl) (by rfl) (by kernel_rfl) (by decide) ?_
  intro w3 h03 h3
  have E3 := Ext.trans hx1 h3
  refine (trust_any p m L pa pbb ca am w3 (hH.led.ext E3) h.ok.wf).mono ?_
  rintro e w4 ⟨rfl, k4, hL4⟩
  refine ⟨_, rfl, h03.trans (k4.mono (fun x hx => by simp at hx ⊢; omega)), ?_⟩
  have hr4 := k4.at (E3.at h2) (by simp; omega)
  refine RgK.wpX_store 15 _ 100 _ _ rfl rfl rfl (by kernel_rfl) (by decide) rfl (w.heap.size + 1) #[.int .i64 0, .int .i64 0] (by kernel_rfl) (by kernel_rfl) 100 _ (by kernel_rfl) (by rfl) (by rfl) hr4 (Or.inl (by simp)) ?_
  intro wd h0d kd' hsd
  refine RgK.wpX_tail (by kernel_rfl) ?_
  intro wy ey ey'
  simp only [Act.put, List.setIfInBounds_toArray, List.set_cons_zero, List.set_cons_succ, List.drop_succ_cons, List.drop_zero]
  have hry := ey'.at hsd
  have hLy := (hL4.keep kd' (by simp; omega) (by simp; omega)).ext ey'
  have hrowy := ey.at hH.row hhwS
  have hBy := hH.book.keep ey (by have := hap.2; simp at *; omega) (by intro x hx; have := hap.2; have := hgl x hx; simp [hx] at *; omega)
  have EB := fra_keep (FrA.of_ext e02) ey hloS
  clear hw1 hx1 h03 h3 E3 h0d kd' hsd ey ey' k4 hL4 hr4
  go_wp2
  exact ret_cell_tmp (w.heap.size + 1) 100 _ _ _ rfl rfl hry Tryz.underlying100 rfl (by kernel_rfl) rfl ⟨_, _, rfl, EB, fun _ => ⟨rfl, p, m, pb, g, ⟨hrowy, hLy, hBy, ⟨wf_trust h.ok.wf _ _ _ _, h.ok.ok, h.ok.sq⟩, ⟨lo1, lo2, lo3, lo4, lo5⟩⟩⟩⟩

set_option maxRecDepth 100000 in
set_option maxHeartbeats 6400000 in
theorem wpay_any (base : Nat → Prop) (hw p m pb : Nat) (g : Option Nat) (L : Led) (B : Bk) (s : Stp) (w : World) (h : IsH w base hw p m pb g L B) (hb : ∀ x, w.heap.size ≤ x → base x) (hin : s.In) : Calls Tryz.prog 124 #[.pointer (some ⟨hw, 0, none⟩), s.agg] w (RetM base hw (((payR L s.pa s.pb s.ca s.am).1.1, 0), (payR L s.pa s.pb s.ca s.am).1.2, (payR L s.pa s.pb s.ca s.am).2, B) w) := by
  obtain ⟨kd, pa, pbb, ca, cb, am, mx, nu, de, sq⟩ := s
  obtain ⟨in1, in2, in3, in4⟩ := hin
  simp only at in1 in2 in3 in4
  simp only [Stp.agg]
  have e0 := ext_alloc w (.cells #[.int .u8 kd, .int .u8 pa, .int .u8 pbb, .int .u8 ca, .int .u8 cb, .int .i64 am, .int .i64 mx, .int .i64 nu, .int .i64 de, .int .u64 sq] 97)
  have h0 := heap_alloc_top w (.cells #[.int .u8 kd, .int .u8 pa, .int .u8 pbb, .int .u8 ca, .int .u8 cb, .int .i64 am, .int .i64 mx, .int .i64 nu, .int .i64 de, .int .u64 sq] 97)
  have s0 := size_alloc w (.cells #[.int .u8 kd, .int .u8 pa, .int .u8 pbb, .int .u8 ca, .int .u8 cb, .int .i64 am, .int .i64 mx, .int .i64 nu, .int .i64 de, .int .u64 sq] 97)
  generalize hW : w.alloc (.cells #[.int .u8 kd, .int .u8 pa, .int .u8 pbb, .int .u8 ca, .int .u8 cb, .int .i64 am, .int .i64 mx, .int .i64 nu, .int .i64 de, .int .u64 sq] 97) = W at *
  have HW := Lib.hid hW
  clear hW
  go_enter Tryz.func124, Tryz.ntmps124
  go_wp2_with (first
    | (refine wpList_newrow rfl 100 rfl (.cells #[.int .i64 0, .int .i64 0] 100) _ rfl (by go_simp) ?_
       rw [HW.out]
       intro w2 e2 h2
       rw [s0] at h2))
  have h02 := e2.at h0
  have e02 := Ext.trans e0 e2
  have hH := h.ext e02
  have s2 := lt_of_heap h2
  clear e0 h0 e2 HW s0
  have hap := apart_hb hH.led hH.book
  have hah := led_ne hH.led hH.row (by decide)
  have hbh := book_ne hH.book hH.row (by decide) (by decide)
  have hpl := h.led.ltp
  have hml := h.led.ltm
  have hpbl := h.book.ltp
  have hgl := h.book.ltg
  have hhl := lt_of_heap h.row
  obtain ⟨lo1, lo2, lo3, lo4, lo5⟩ := h.lo
  have hpm := h.led.ne
  have hrsS : w.heap.size ∉ [m] := by simp; omega
  have hhwS : hw ∉ [m] := by have := hah.1; have := hah.2; simp at *; omega
  have hr4S : w.heap.size + 1 ∉ [m] := by simp; omega
  have hloS : ∀ x ∈ ([m] : List Nat), base x ∨ w.heap.size ≤ x := by intro x hx; rcases List.mem_cons.1 hx with rfl | hx; exact .inl lo3; simp at hx
  refine RgK.wp_region_hat ([m]) waiter 18 [13, 14, 15, 16, 17] (by kernel_rfl) (by kernel_rfl) (by kernel_rfl) ?_
  intro w1 hw1
  have q0 : ∀ u : KeepOf ([m]) w1, u.to.heap[w.heap.size]? = _ := fun u => (hw1.trans u.h).at h02 hrsS
  have qh : ∀ u : KeepOf ([m]) w1, u.to.heap[hw]? = _ := fun u => (hw1.trans u.h).at hH.row hhwS
  have d1 : ∀ u : KeepOf ([m]) w1, u.to.cell? ⟨w.heap.size, 1, none⟩ = some (.int .u8 pa) := fun u => cell_at (j := 1) (q0 u) rfl
  have d2 : ∀ u : KeepOf ([m]) w1, u.to.cell? ⟨w.heap.size, 2, none⟩ = some (.int .u8 pbb) := fun u => cell_at (j := 2) (q0 u) rfl
  have d3 : ∀ u : KeepOf ([m]) w1, u.to.cell? ⟨w.heap.size, 3, none⟩ = some (.int .u8 ca) := fun u => cell_at (j := 3) (q0 u) rfl
  have d5 : ∀ u : KeepOf ([m]) w1, u.to.cell? ⟨w.heap.size, 5, none⟩ = some (.int .i64 am) := fun u => cell_at (j := 5) (q0 u) rfl
  have dh : ∀ u : KeepOf ([m]) w1, u.to.cell? ⟨hw, 0, none⟩ = _ := fun u => cell_at (j := 0) (qh u) rfl
  clear q0 qh
  simp only [heads, List.take_succ_cons, List.take_zero, List.contains_cons, List.contains_nil, Nat.reduceBEq, Bool.or_false, Bool.false_eq_true, Nat.reduceAdd, Bool.or_true, Bool.true_or, ↓reduceIte, Bool.or_self]
  repeat (go_big_quiet_step (fail))
  refine wpQuiet_nil ?_
  intro hx1
  clear dh d1 d2 d3 d5
  refine RgK.wpX_callf 13 115 _ #[.pointer (some ⟨p, 0, none⟩), .int .u8 pa, .int .u8 pbb, .int .u8 ca, .int .i64 am] _ (by rfl) _ _ (by rfl) Tryz.func115 rfl rfl (by kernel_rfl) (by rfl) (by kernel_rfl) (by decide) ?_
  intro w3 h03 h3
  have E3 := Ext.trans hx1 h3
  refine (pay_any p m L pa pbb ca am w3 (hH.led.ext E3) h.ok.wf in1).mono ?_
  rintro e w4 ⟨rfl, k4, hL4⟩
  refine ⟨_, rfl, h03.trans k4, ?_⟩
  refine RgK.wpX_again_e waiter 14 [] 0 (by kernel_rfl) (by kernel_rfl) (h03.trans k4) ?_
  intro w1' hw1'
  simp only [Act.put, two, List.getElem_toArray, List.getElem_cons_succ, List.getElem_cons_zero, List.setIfInBounds_toArray, List.set_cons_zero, List.set_cons_succ]
  simp only [heads, List.take_succ_cons, List.take_zero, List.drop_succ_cons, List.drop_zero, List.contains_cons, List.contains_nil, Nat.reduceBEq, Bool.or_false, Bool.false_eq_true, Nat.reduceAdd, Bool.or_true, Bool.true_or, ↓reduceIte, Bool.or_self]
  repeat (go_big_quiet_step (fail))
  refine wpQuiet_nil ?_
  intro hx4
  refine RgK.wpX_tail (by kernel_rfl) ?_
  intro wy ey0 ey0'
  simp only [Act.put, List.setIfInBounds_toArray, List.set_cons_zero, List.set_cons_succ, List.drop_succ_cons, List.drop_zero]
  have ey := (h03.trans k4).trans ey0
  have hry := ey.at h2 hr4S
  have hrowy := ey.at hH.row hhwS
  have E4y : Ext w4 wy := Ext.trans hx4 ey0'
  have hLy := hL4.ext E4y
  have hBy := hH.book.keep ey (by have := hap.2; simp at *; omega) (by intro x hx; have := hap.2; have := hgl x hx; simp [hx] at *; omega)

  have EB := fra_keep (FrA.of_ext e02) ey hloS
  clear hw1 hx1 h03 h3 E3 hw1' hx4 ey ey0 ey0' k4
  go_wp2_with (refine wpList_row rfl rfl 100 _ _ rfl (w.heap.size + 1) _ rfl rfl 100 _ hry (by kernel_rfl) (by rfl) (by rfl) ?_
               intro wz hbz hoz hsz)
  have BZ := hbz (w.heap.size + 1) wy (Nat.le_refl _) (Below.refl _ _)
  have KZ : Keep [w.heap.size + 1] wy wz := ⟨BZ.os, BZ.tape, BZ.output, BZ.size, fun k _ hk => hoz k (by simpa using hk)⟩
  have EZ := fra_keep EB KZ (fun x hx => .inr (by simp at hx; omega))
  exact ret_cell_tmp (w.heap.size + 1) 100 _ _ _ rfl rfl hsz Tryz.underlying100 rfl (by kernel_rfl) rfl ⟨_, _, rfl, EZ, fun _ => ⟨rfl, p, m, pb, g, ⟨KZ.at hrowy (by simp; omega), hLy.keep KZ (by simp; omega) (by simp; omega), hBy.keep KZ (by simp; omega) (fun x hx => by have := hgl x hx; simp; omega), ⟨wf_pay h.ok.wf _ _ _ _, h.ok.ok, h.ok.sq⟩, ⟨lo1, lo2, lo3, lo4, lo5⟩⟩⟩⟩

end Go.Proofs.YtahdgojcebajkaaGreat

namespace Go.Proofs.YtahdgojcebajkaaGreat
open Go.RowKit Go.Rg Go.BigFrame

theorem load_house {w : World} {hw : Nat} {x y : Value} (h : w.heap[hw]? = some (Obj.cells #[x, y] 169 (0, 0))) : (loadVar 38 ⟨hw, 0, none⟩).run Tryz.prog w = .ok (.agg #[x, y]) w :=
  run_loadVar_part w hw 0 38 [x, y] _ (fun j u hu => by
    refine cell_at h ?_
    rw [Nat.zero_add]
    match j, hu with
    | 0, hu => exact hu
    | 1, hu => exact hu) Tryz.underlying38 rfl (by kernel_rfl)

end Go.Proofs.YtahdgojcebajkaaGreat

namespace Go.Proofs.YtahdgojcebajkaaGreat
open Go.RowKit Go.Rg Go.BigFrame

end Go.Proofs.YtahdgojcebajkaaGreat
