/- The walk of MachinesVoid. MachinesVoid's row: whatever the command, the answer is true. -/
import Derived.Test.YtahdgojcebajkaaGreatMv
import Derived.Test.YtahdgojcebajkaaGreatRows
import Derived.ProofKit
import Derived.Lib.SmallJoins
import Derived.OpenShut

namespace Go.Proofs.YtahdgojcebajkaaGreat
open Go.RowKit Go.Rg Go.BigFrame

set_option maxRecDepth 100000 in
set_option maxHeartbeats 12800000 in
theorem mvoid_any (v : Value) (w : World) : Calls Tryz.prog 6 #[.agg #[v]] w (Ret (.bool true) w) := by
  have h0 := heap_alloc_top w (.cells #[v] 76)
  have e0 := ext_alloc w (.cells #[v] 76)
  have s0 := size_alloc w (.cells #[v] 76)
  have h1 := heap_alloc_top (w.alloc (.cells #[v] 76)) (.cells #[.pointer none, .pointer none] 78)
  have e1 := ext_alloc (w.alloc (.cells #[v] 76)) (.cells #[.pointer none, .pointer none] 78)
  have s1 := size_alloc (w.alloc (.cells #[v] 76)) (.cells #[.pointer none, .pointer none] 78)
  have x0 := heap_alloc_top ((w.alloc (.cells #[v] 76)).alloc (.cells #[.pointer none, .pointer none] 78)) (.cells #[.pointer none, .pointer (some ⟨w.heap.size + 1, 0, none⟩)] 79)
  have ex := ext_alloc ((w.alloc (.cells #[v] 76)).alloc (.cells #[.pointer none, .pointer none] 78)) (.cells #[.pointer none, .pointer (some ⟨w.heap.size + 1, 0, none⟩)] 79)
  rw [s1, s0] at x0
  rw [s0] at h1
  have hx1 := ex.at (e1.at h0)
  have z1 := ex.at h1
  obtain ⟨W, hW⟩ : ∃ W, W = ((w.alloc (.cells #[v] 76)).alloc (.cells #[.pointer none, .pointer none] 78)).alloc (.cells #[.pointer none, .pointer (some ⟨w.heap.size + 1, 0, none⟩)] 79) := ⟨_, rfl⟩
  have E0 : Ext w W := by rw [hW]; exact Ext.trans e0 (Ext.trans e1 ex)
  rw [← hW] at x0 hx1 z1
  have th0 : ∀ W2, Ext W W2 → Calls Tryz.prog 91 #[.pointer none] W2 (Ret (.bool false) W2) := fun W2 _ => mthere_nil W2
  have th1 : ∀ W2, Ext W W2 → Calls Tryz.prog 91 #[.pointer (some ⟨w.heap.size + 1, 0, none⟩)] W2 (Ret (.bool false) W2) := fun W2 kk => mthere_zero _ W2 (kk.at z1)
  have HW := Lib.hid hW
  clear hW h0 e0 s0 h1 e1 s1 ex z1
  go_enter Tryz.func6, Tryz.ntmps6
  go_wp2_with fail
  refine cast (congrArg (fun X => Code.wp _ _ _ _ X) HW.out) ?_
  clear HW
  go_loopw [5] (fun i wr => ∃ k : Nat, k ≤ 2 ∧ i = .int .i64 k ∧ Ext W wr) (fun i _ => 2 - (intOf i).toNat)
  case atStart => exact ⟨0, by omega, rfl, Ext.refl _⟩
  case round =>
    obtain ⟨k, hk, rfl, er⟩ := hrel
    have hxr := er.at hx1
    have xr := er.at x0
    rcases (show k = 0 ∨ k = 1 ∨ k = 2 by omega) with rfl | rfl | rfl
    ·
      have hap := fun W kk => apply_void (none) v W (fun W2 k2 => th0 W2 (Ext.trans kk k2))
      have hcp := fun W kk => mcopy_void (none) W (fun W2 k2 => th0 W2 (Ext.trans kk k2))
      have hst := state_void (none) wr (fun W2 k2 => th0 W2 (Ext.trans er k2))
      have r0 := cell_at (j := 0) xr rfl
      go_wp2_with fail
      refine hst.mono ?_
      rintro e w4 ⟨rfl, e4⟩
      clear hst r0
      go_wp2_with (first
        | (refine wpList_newrow rfl 83 rfl (.cells #[.slice none 0 0, .slice none 0 0, .slice none 0 0, .int .u64 0] 83) _ rfl (by go_simp) ?_
           intro w5 e5 h5)
        | (refine wpList_row rfl rfl 83 _ _ rfl w4.heap.size _ rfl rfl 83 _ h5 (by kernel_rfl) (by rfl) (by rfl) ?_
           intro w6 hb6 ho6 h6))
      have e46 : Ext w4 w6 := hb6 _ _ (Nat.le_refl _) e5
      have E6 : Ext W w6 := Ext.trans er (Ext.trans e4 e46)
      have hx6 := E6.at hx1
      have x6 := E6.at x0
      clear hb6 ho6 h5 hxr xr
      refine wp_region_all waiter [] (by kernel_rfl) (by kernel_rfl) ?_
      intro w1 hw1
      have d0 : ∀ u : ExtOf w1, u.to.cell? ⟨w4.heap.size, 0, none⟩ = some (.slice none 0 0) := fun u => cell_at (j := 0) ((Ext.trans hw1 u.h).at h6) rfl
      have d1 : ∀ u : ExtOf w1, u.to.cell? ⟨w4.heap.size, 1, none⟩ = some (.slice none 0 0) := fun u => cell_at (j := 1) ((Ext.trans hw1 u.h).at h6) rfl
      have d2 : ∀ u : ExtOf w1, u.to.cell? ⟨w4.heap.size, 2, none⟩ = some (.slice none 0 0) := fun u => cell_at (j := 2) ((Ext.trans hw1 u.h).at h6) rfl
      have d3 : ∀ u : ExtOf w1, u.to.cell? ⟨w4.heap.size, 3, none⟩ = some (.int .u64 0) := fun u => cell_at (j := 3) ((Ext.trans hw1 u.h).at h6) rfl
      have da : ∀ u : ExtOf w1, u.to.cell? ⟨w.heap.size + 1 + 1, 0, none⟩ = some (.pointer none) := fun u => cell_at (j := 0) ((Ext.trans hw1 u.h).at x6) rfl
      have ldc : ∀ wq, Cls w1 wq → (loadVar 76 ⟨w.heap.size, 0, none⟩).run Tryz.prog wq = .ok (.agg #[v]) wq := by
        rintro _ ⟨u, rfl⟩
        exact run_loadVar_row u.to w.heap.size _ _ _ _ _ ((Ext.trans hw1 u.h).at hx6) Tryz.underlying76 rfl (by kernel_rfl)
      have hapu : ∀ u : ExtOf w1, Calls Tryz.prog 35 #[.pointer none, .agg #[v]] u.to (Ret (.agg #[.int .i64 2, .int .i64 0, .slice none 0 0]) u.to) := fun u => hap u.to (Ext.trans E6 (Ext.trans hw1 u.h))
      have hcpu : ∀ u : ExtOf w1, Calls Tryz.prog 36 #[.pointer none] u.to (Ret (.pointer none) u.to) := fun u => hcp u.to (Ext.trans E6 (Ext.trans hw1 u.h))
      have hsru : ∀ u : ExtOf w1, Calls Tryz.prog 34 #[.agg #[.int .i64 2, .int .i64 0, .slice none 0 0], .agg #[.int .i64 2, .int .i64 0, .slice none 0 0]] u.to (Ret (.bool true) u.to) := fun u => sameR_any 0 0 _ _ 2 0 [] u.to (slAt_nil _ _ _) (slAt_nil _ _ _)
      clear hap hcp
      simp only [Act.put, List.setIfInBounds_toArray, List.set_cons_zero, List.set_cons_succ, heads, List.contains_nil, Bool.false_eq_true, Nat.reduceAdd, ↓reduceIte]
      repeat (first | go_big_quiet_step ((first | (go_at_call 35; exact Ret.cls (hapu _)) | (go_at_call 36; exact Ret.cls (hcpu _)) | (go_at_call 34; exact Ret.cls (hsru _)))) | (go_big_quiet_want; (refine quiet_load 76 _ _ _ rfl rfl ldc ?_); go_big_quiet_on; simp only [Act.put, List.setIfInBounds_toArray, List.set_cons_zero, List.set_cons_succ]))
      refine wpQuiet_nil ?_
      refine wpX_done (by kernel_rfl) ?_
      intro w8 e8 e8'
      try simp only [Act.put, List.getElem_toArray, List.getElem_cons_succ, List.getElem_cons_zero, List.setIfInBounds_toArray, List.set_cons_zero, List.set_cons_succ]
      clear d0 d1 d2 d3 da ldc hapu hcpu hsru
      have E9 : Ext W w8 := Ext.trans E6 e8
      go_wp2
      exact ⟨⟨1, by omega, by first | rfl | go_num, E9⟩, by simp [intOf]⟩
    ·
      have hap := fun W kk => apply_void (some ⟨w.heap.size + 1, 0, none⟩) v W (fun W2 k2 => th1 W2 (Ext.trans kk k2))
      have hcp := fun W kk => mcopy_void (some ⟨w.heap.size + 1, 0, none⟩) W (fun W2 k2 => th1 W2 (Ext.trans kk k2))
      have hst := state_void (some ⟨w.heap.size + 1, 0, none⟩) wr (fun W2 k2 => th1 W2 (Ext.trans er k2))
      have r0 := cell_at (j := 1) xr rfl
      go_wp2_with fail
      refine hst.mono ?_
      rintro e w4 ⟨rfl, e4⟩
      clear hst r0
      go_wp2_with (first
        | (refine wpList_newrow rfl 83 rfl (.cells #[.slice none 0 0, .slice none 0 0, .slice none 0 0, .int .u64 0] 83) _ rfl (by go_simp) ?_
           intro w5 e5 h5)
        | (refine wpList_row rfl rfl 83 _ _ rfl w4.heap.size _ rfl rfl 83 _ h5 (by kernel_rfl) (by rfl) (by rfl) ?_
           intro w6 hb6 ho6 h6))
      have e46 : Ext w4 w6 := hb6 _ _ (Nat.le_refl _) e5
      have E6 : Ext W w6 := Ext.trans er (Ext.trans e4 e46)
      have hx6 := E6.at hx1
      have x6 := E6.at x0
      clear hb6 ho6 h5 hxr xr
      refine wp_region_all waiter [] (by kernel_rfl) (by kernel_rfl) ?_
      intro w1 hw1
      have d0 : ∀ u : ExtOf w1, u.to.cell? ⟨w4.heap.size, 0, none⟩ = some (.slice none 0 0) := fun u => cell_at (j := 0) ((Ext.trans hw1 u.h).at h6) rfl
      have d1 : ∀ u : ExtOf w1, u.to.cell? ⟨w4.heap.size, 1, none⟩ = some (.slice none 0 0) := fun u => cell_at (j := 1) ((Ext.trans hw1 u.h).at h6) rfl
      have d2 : ∀ u : ExtOf w1, u.to.cell? ⟨w4.heap.size, 2, none⟩ = some (.slice none 0 0) := fun u => cell_at (j := 2) ((Ext.trans hw1 u.h).at h6) rfl
      have d3 : ∀ u : ExtOf w1, u.to.cell? ⟨w4.heap.size, 3, none⟩ = some (.int .u64 0) := fun u => cell_at (j := 3) ((Ext.trans hw1 u.h).at h6) rfl
      have da : ∀ u : ExtOf w1, u.to.cell? ⟨w.heap.size + 1 + 1, 1, none⟩ = some (.pointer (some ⟨w.heap.size + 1, 0, none⟩)) := fun u => cell_at (j := 1) ((Ext.trans hw1 u.h).at x6) rfl
      have ldc : ∀ wq, Cls w1 wq → (loadVar 76 ⟨w.heap.size, 0, none⟩).run Tryz.prog wq = .ok (.agg #[v]) wq := by
        rintro _ ⟨u, rfl⟩
        exact run_loadVar_row u.to w.heap.size _ _ _ _ _ ((Ext.trans hw1 u.h).at hx6) Tryz.underlying76 rfl (by kernel_rfl)
      have hapu : ∀ u : ExtOf w1, Calls Tryz.prog 35 #[.pointer (some ⟨w.heap.size + 1, 0, none⟩), .agg #[v]] u.to (Ret (.agg #[.int .i64 2, .int .i64 0, .slice none 0 0]) u.to) := fun u => hap u.to (Ext.trans E6 (Ext.trans hw1 u.h))
      have hcpu : ∀ u : ExtOf w1, Calls Tryz.prog 36 #[.pointer (some ⟨w.heap.size + 1, 0, none⟩)] u.to (Ret (.pointer none) u.to) := fun u => hcp u.to (Ext.trans E6 (Ext.trans hw1 u.h))
      have hsru : ∀ u : ExtOf w1, Calls Tryz.prog 34 #[.agg #[.int .i64 2, .int .i64 0, .slice none 0 0], .agg #[.int .i64 2, .int .i64 0, .slice none 0 0]] u.to (Ret (.bool true) u.to) := fun u => sameR_any 0 0 _ _ 2 0 [] u.to (slAt_nil _ _ _) (slAt_nil _ _ _)
      clear hap hcp
      simp only [Act.put, List.setIfInBounds_toArray, List.set_cons_zero, List.set_cons_succ, heads, List.contains_nil, Bool.false_eq_true, Nat.reduceAdd, ↓reduceIte]
      repeat (first | go_big_quiet_step ((first | (go_at_call 35; exact Ret.cls (hapu _)) | (go_at_call 36; exact Ret.cls (hcpu _)) | (go_at_call 34; exact Ret.cls (hsru _)))) | (go_big_quiet_want; (refine quiet_load 76 _ _ _ rfl rfl ldc ?_); go_big_quiet_on; simp only [Act.put, List.setIfInBounds_toArray, List.set_cons_zero, List.set_cons_succ]))
      refine wpQuiet_nil ?_
      refine wpX_done (by kernel_rfl) ?_
      intro w8 e8 e8'
      try simp only [Act.put, List.getElem_toArray, List.getElem_cons_succ, List.getElem_cons_zero, List.setIfInBounds_toArray, List.set_cons_zero, List.set_cons_succ]
      clear d0 d1 d2 d3 da ldc hapu hcpu hsru
      have E9 : Ext W w8 := Ext.trans E6 e8
      go_wp2
      exact ⟨⟨2, by omega, by first | rfl | go_num, E9⟩, by simp [intOf]⟩
    · go_wp2_with fail
      refine (mlives_any _).mono ?_
      rintro e w5 ⟨rfl, e5⟩
      go_wp2
      go_ret
      exact ⟨rfl, Ext.trans E0 (Ext.trans er e5)⟩
end Go.Proofs.YtahdgojcebajkaaGreat

namespace Go.Proofs.YtahdgojcebajkaaGreat
open Go.Joins Go.Deep Go.WideElems Go.Maps Go.ChangeShapes Go.WideShapes Go.ChangeAt Go.RowKit Go.Rg Go.BigFrame

theorem laidOutK14 : laidOutB Tryz.prog = true := by kernel_rfl
theorem ownK14 : ownKnob Tryz.prog.godebug = none := by kernel_rfl
theorem cmd_one : Tryz.prog.cellsOf 76 = 1 := by kernel_rfl
theorem one_cell {cs : Array Value} (h : cs.size = 1) : ∃ v, cs = #[v] := by
  obtain ⟨l⟩ := cs
  match l, h with
  | [v], _ => exact ⟨v, rfl⟩

set_option maxRecDepth 100000 in
theorem machinesVoid_lifted (os : Os) (started : os.Started) (H : Type) (enc : TypeId × Value → H) :
    ReturnsInHanded {} Tryz.checked os 6 .any (Rows.machinesVoidSpec.pre6 enc Tryz.prog Tryz.f6 Rows.machinesVoidRow.domain false) (Rows.machinesVoidSpec.post enc Tryz.prog Tryz.f6 false true false false) := by
  refine returnsInHanded_of_change (C := Tryz.checked) ownK14 started (by kernel_rfl) Tryz.func6
    (ChangeSpec.witness6 (enc := enc) (C := Tryz.checked) false ⟨#[], #[.agg #[.slice none 0 0]], []⟩ 8 (by kernel_rfl) (by kernel_rfl) (by kernel_rfl) (by kernel_rfl)) ?_
  intro W base args ds gs before hval0 hW hcnd _
  have hval : ∀ (j : Nat) t v, Tryz.f6.params[j]? = some t → args[j]? = some v → Value.okWide Tryz.prog W .any base t v := hval0
  have hW' := hW
  obtain ⟨p, q, hA0, hV, rfl, hfz, hnd⟩ := hW
  have hA : DataW.TrodAll enc Tryz.prog W 0 (fun _ => true) true Tryz.f6.params.toList args.toList ds p := hA0
  rw [Tryz.params6] at hA hval
  obtain ⟨v0, d0, rfl, rfl, h0⟩ := trodAll_one hA
  obtain ⟨rfl, rfl⟩ := trodVars_none hV
  obtain ⟨cs, rfl, hsz⟩ := okWide_struct Tryz.underlying76 (hval 0 76 v0 rfl rfl)
  obtain ⟨v, rfl⟩ := one_cell (hsz.trans cmd_one)
  clear hA0 hval0
  simp only [List.append_nil] at hW'
  have hlt : ∀ x ∈ p, x.block < W.heap.size := fun x hx => by simpa using hW'.lt x hx
  refine (mvoid_any v W).mono fun e W' ⟨he, hw⟩ => ?_
  subst he
  have bel : Below W.heap.size W W' := hw
  exact ⟨_, rfl, _, _, _, [], p, [], hW', trodAll_mk1 (shut_bool Tryz.underlying4 true), trodAll_mk1 (Below.trod laidOutK14 (by kernel_rfl) (of_decide_eq_true (by kernel_rfl)) h0 bel hlt), rfl, bel.frame _, fun h => by cases h⟩

/-- MachinesVoid, whatever the command: true. -/
theorem machinesVoid_holds : Rows.MachinesVoidSaid :=
  OpenClaim.holds_of_wide 6 Tryz.f6 rfl rfl rfl rfl rfl rfl rfl ⟨rfl, rfl, rfl, rfl, rfl⟩ rfl rfl rfl rfl rfl (by kernel_rfl) Tryz.func6 (by kernel_rfl)
    (of_decide_eq_true (by kernel_rfl)) (by unfold Func.isWrapper; first | (rw [if_pos (by decide +kernel)]; kernel_rfl) | (rw [if_neg (by decide +kernel)]; exact ⟨rfl, rfl⟩))
    (fun os started H enc _ => machinesVoid_lifted os started H enc)

#print axioms machinesVoid_holds

end Go.Proofs.YtahdgojcebajkaaGreat
