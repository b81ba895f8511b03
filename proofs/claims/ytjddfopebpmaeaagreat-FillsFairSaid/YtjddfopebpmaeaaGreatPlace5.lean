/- Places: Place. -/
import Derived.Test.YtjddfopebpmaeaaGreatPlace4
namespace Go.Proofs.YtjddfopebpmaeaaGreat
open Go.RowKit Go.Rg Go.BigFrame

/-- What Place answers, and leaves: the error, the number, the ledger, the book, the fills. -/
def comeR (L : Led) (B : Bk) (o : Off) : Int × Int × Led × Bk × List Fl :=
  if cmayR o = false then (1, 0, L, B, [])
  else if hasP L o.owner = false then (7, 0, L, B, [])
  else if (goesGo o 65 L B o.left []).1 ≠ 0 then ((goesGo o 65 L B o.left []).1, 0, L, B, [])
  else if 0 < (goesGo o 65 L B o.left []).2.2.2.1 then
    (if (placeR (goesGo o 65 L B o.left []).2.2.1 o.owner o.sell o.buy (goesGo o 65 L B o.left []).2.2.2.1 o.num o.den).2.1 ≠ 0 then ((placeR (goesGo o 65 L B o.left []).2.2.1 o.owner o.sell o.buy (goesGo o 65 L B o.left []).2.2.2.1 o.num o.den).2.1, 0, L, B, [])
     else (0, (placeR (goesGo o 65 L B o.left []).2.2.1 o.owner o.sell o.buy (goesGo o 65 L B o.left []).2.2.2.1 o.num o.den).1, (goesGo o 65 L B o.left []).2.1, (placeR (goesGo o 65 L B o.left []).2.2.1 o.owner o.sell o.buy (goesGo o 65 L B o.left []).2.2.2.1 o.num o.den).2.2, (goesGo o 65 L B o.left []).2.2.2.2))
  else (0, 0, (goesGo o 65 L B o.left []).2.1, (goesGo o 65 L B o.left []).2.2.1, (goesGo o 65 L B o.left []).2.2.2.2)

def RetCome (r : Int × Int × Led × Bk × List Fl) (w : World) (e : Ending) (w' : World) : Prop :=
  ∃ hv av, e = .returned (.tuple #[hv, av, .int .u64 r.2.1, .int .i64 r.1]) ∧ Ext w w' ∧ (r.1 ≠ 0 → hv = .agg #[.pointer none, .pointer none] ∧ av = .slice none 0 0) ∧
    (r.1 = 0 → ∃ p m pb g, hv = .agg #[.pointer (some ⟨p, 0, none⟩), .pointer (some ⟨pb, 0, none⟩)] ∧ IsLed w' p m r.2.2.1 ∧ IsBook w' pb g r.2.2.2.1 ∧ SlAt w' w.heap.size 5 av r.2.2.2.2.length (flCells r.2.2.2.2))

theorem results_place (tmps : Array Value) (w : World) (B1 : Nat) (x y v5 v6 v7 : Value) (h4 : tmps.getD 4 undef = .pointer (some ⟨B1, 0, none⟩)) (h5 : tmps.getD 5 undef = v5) (h6 : tmps.getD 6 undef = v6) (h7 : tmps.getD 7 undef = v7)
    (b1 : w.heap[B1]? = some (.cells #[x, y] 32 (0, 0))) : (results Tryz.f29 tmps).run Tryz.prog w = .ok (.tuple #[.agg #[x, y], v5, v6, v7]) w := by
  have hr : Tryz.f29.results = #[.cell 4 32, .tmp 5, .tmp 6, .tmp 7] := rfl
  have l1 : (loadVar 32 ⟨B1, 0, none⟩).run Tryz.prog w = .ok (.agg #[x, y]) w := run_loadVar_row w B1 _ _ _ _ _ b1 Tryz.underlying32 rfl (by kernel_rfl)
  simp only [Array.getD_eq_getD_getElem?] at h4 h5 h6 h7
  simp only [results, hr]
  simp [Sem.run_bind, Result.andThen, h4, h5, h6, h7, asAddr, l1]

theorem clipL_any (base n : Nat) (v : Value) (xs : List Value) (w : World) (h : SlAt w base 5 v n xs) : Calls Tryz.prog 85 #[v] w (fun e w' => ∃ v', e = .returned v' ∧ w' = w ∧ SlAt w' base 5 v' n xs) := by
  obtain ⟨A, cap, rfl, h1, h2, h3, h4⟩ := h
  rcases h4 with rfl | ⟨g, rfl, hb, hlt, hc⟩
  · cases A with
    | none =>
      go_enter Tryz.func85, Tryz.ntmps85
      go_wp2
      go_ret
      exact ⟨_, rfl, rfl, _, _, rfl, Nat.le_refl _, by unfold maxLen; omega, h3, .inl rfl⟩
    | some a =>
      go_enter Tryz.func85, Tryz.ntmps85
      go_wp2
      go_ret
      exact ⟨_, rfl, rfl, _, _, rfl, Nat.le_refl _, by unfold maxLen; omega, h3, .inl rfl⟩
  · have hn63 : (n : Int) ≤ 9223372036854775807 := by unfold maxLen at h2; omega
    go_enter Tryz.func85, Tryz.ntmps85
    go_wp2
    go_ret
    exact ⟨_, rfl, rfl, _, _, rfl, Nat.le_refl _, Nat.le_trans h1 h2, h3, .inr ⟨g, rfl, hb, hlt, hc⟩⟩


set_option maxRecDepth 100000 in
set_option maxHeartbeats 3200000 in
/-- Without a ledger, or a book, nothing comes. -/
theorem place_void (l b : Option Addr) (o0 o1 o2 o3 o4 o5 o6 : Int) (w : World) (hcp : ∀ w', Ext w w' → Calls Tryz.prog 13 #[.agg #[.pointer l, .pointer b]] w' (fun e w2 => ∃ x y, e = .returned (.agg #[.pointer x, .pointer y]) ∧ (x = none ∨ y = none) ∧ Ext w' w2)) :
    Calls Tryz.prog 29 #[.agg #[.pointer l, .pointer b], .agg #[.int .u64 o0, .int .u8 o1, .int .u8 o2, .int .u8 o3, .int .i64 o4, .int .i64 o5, .int .i64 o6]] w
      (Ret (.tuple #[.agg #[.pointer none, .pointer none], .slice none 0 0, .int .u64 0, .int .i64 2]) w) := by
  have e0 := ext_alloc w (.cells #[.pointer l, .pointer b] 32)
  have s0 := size_alloc w (.cells #[.pointer l, .pointer b] 32)
  have h0 := heap_alloc_top w (.cells #[.pointer l, .pointer b] 32)
  generalize hW1 : w.alloc (.cells #[.pointer l, .pointer b] 32) = w1 at *
  have e1 := ext_alloc w1 (.cells #[.int .u64 o0, .int .u8 o1, .int .u8 o2, .int .u8 o3, .int .i64 o4, .int .i64 o5, .int .i64 o6] 60)
  have s1 := size_alloc w1 (.cells #[.int .u64 o0, .int .u8 o1, .int .u8 o2, .int .u8 o3, .int .i64 o4, .int .i64 o5, .int .i64 o6] 60)
  have h1 := heap_alloc_top w1 (.cells #[.int .u64 o0, .int .u8 o1, .int .u8 o2, .int .u8 o3, .int .i64 o4, .int .i64 o5, .int .i64 o6] 60)
  generalize hW2 : w1.alloc (.cells #[.int .u64 o0, .int .u8 o1, .int .u8 o2, .int .u8 o3, .int .i64 o4, .int .i64 o5, .int .i64 o6] 60) = w2 at *
  have e2 := ext_alloc w2 (.cells #[.pointer none, .pointer none] 32)
  have s2 := size_alloc w2 (.cells #[.pointer none, .pointer none] 32)
  have h2 := heap_alloc_top w2 (.cells #[.pointer none, .pointer none] 32)
  rw [s0] at h1 s1
  rw [s1] at h2 s2
  have k0 := e2.at (e1.at h0)
  have k1 := e2.at h1
  have E2 := Ext.trans e0 (Ext.trans e1 e2)
  subst hW2 hW1
  clear h0 h1 e0 e1 e2
  go_enter Tryz.func29, Tryz.ntmps29
  go_wp2
  generalize hW3 : (((w.alloc (.cells #[.pointer l, .pointer b] 32)).alloc (.cells #[.int .u64 o0, .int .u8 o1, .int .u8 o2, .int .u8 o3, .int .i64 o4, .int .i64 o5, .int .i64 o6] 60)).alloc (.cells #[.pointer none, .pointer none] 32)) = w3 at *
  clear hW3 s0 s1
  refine wp_region_hat waiter 3 [1] (by kernel_rfl) (by kernel_rfl) ?_
  intro w1 hw1
  have q0 : ∀ u : ExtOf w1, u.to.heap[w.heap.size]? = _ := fun u => (Ext.trans hw1 u.h).at k0
  have q1 : ∀ u : ExtOf w1, u.to.heap[w.heap.size + 1]? = _ := fun u => (Ext.trans hw1 u.h).at k1
  have d0 : ∀ u : ExtOf w1, u.to.cell? ⟨w.heap.size, 0, none⟩ = _ := fun u => cell_at (j := 0) (q0 u) rfl
  have d1 : ∀ u : ExtOf w1, u.to.cell? ⟨w.heap.size, 1, none⟩ = _ := fun u => cell_at (j := 1) (q0 u) rfl
  have f0 : ∀ u : ExtOf w1, u.to.cell? ⟨w.heap.size + 1, 0, none⟩ = _ := fun u => cell_at (j := 0) (q1 u) rfl
  have f1 : ∀ u : ExtOf w1, u.to.cell? ⟨w.heap.size + 1, 1, none⟩ = _ := fun u => cell_at (j := 1) (q1 u) rfl
  have f2 : ∀ u : ExtOf w1, u.to.cell? ⟨w.heap.size + 1, 2, none⟩ = _ := fun u => cell_at (j := 2) (q1 u) rfl
  have f3 : ∀ u : ExtOf w1, u.to.cell? ⟨w.heap.size + 1, 3, none⟩ = _ := fun u => cell_at (j := 3) (q1 u) rfl
  have f4 : ∀ u : ExtOf w1, u.to.cell? ⟨w.heap.size + 1, 4, none⟩ = _ := fun u => cell_at (j := 4) (q1 u) rfl
  have f5 : ∀ u : ExtOf w1, u.to.cell? ⟨w.heap.size + 1, 5, none⟩ = _ := fun u => cell_at (j := 5) (q1 u) rfl
  have f6 : ∀ u : ExtOf w1, u.to.cell? ⟨w.heap.size + 1, 6, none⟩ = _ := fun u => cell_at (j := 6) (q1 u) rfl
  clear q0 q1
  simp only [heads, List.take_succ_cons, List.take_zero, List.contains_cons, List.contains_nil, Nat.reduceBEq, Bool.or_false, Bool.false_eq_true, Nat.reduceAdd, Bool.or_true, Bool.true_or, ↓reduceIte, Bool.or_self]
  repeat (go_big_quiet_step (fail))
  refine wpQuiet_nil ?_
  clear d0 d1 f0 f1 f2 f3 f4 f5 f6
  refine wpX_callf 1 13 _ #[.agg #[.pointer l, .pointer b]] _ (by rfl) _ _ (by rfl) Tryz.func13 rfl rfl (by kernel_rfl) (by rfl) (by kernel_rfl) (by decide) ?_
  intro w4 h04 h4
  have E4 := Ext.trans E2 h04
  refine (hcp w4 E4).mono ?_
  rintro e w5 ⟨x, y, rfl, hxy, e5⟩
  refine ⟨_, rfl, Ext.trans h04 e5, ?_⟩
  refine wpX_tail (by kernel_rfl) ?_
  intro w6 e6 e6'
  simp only [Act.put, List.setIfInBounds_toArray, List.set_cons_zero, List.set_cons_succ, List.drop_succ_cons, List.drop_zero]
  have k26 := e6.at h2
  have E6 := Ext.trans E2 e6
  have hz := heap_alloc_top w6 (.cells #[.pointer x, .pointer y, .int .u64 o0, .int .u8 o1, .int .u8 o2, .int .u8 o3, .int .i64 o4, .int .i64 o5, .int .i64 o6, .slice none 0 0] 141)
  have ez := ext_alloc w6 (.cells #[.pointer x, .pointer y, .int .u64 o0, .int .u8 o1, .int .u8 o2, .int .u8 o3, .int .i64 o4, .int .i64 o5, .int .i64 o6, .slice none 0 0] 141)
  have k27 := ez.at k26
  have c0 := cell_at (j := 0) hz rfl
  have c1 := cell_at (j := 1) hz rfl
  have r0 := cell_at (j := 0) k27 rfl
  have r1 := cell_at (j := 1) k27 rfl
  have E7 := Ext.trans E6 ez
  cases x with
  | none =>
    go_wp2_with (refine wpList_row rfl rfl 32 _ _ rfl (w.heap.size + 1 + 1) _ rfl rfl 32 _ k27 (by kernel_rfl) (by rfl) (by rfl) ?_; intro w8 hb8 ho8 hs8)
    refine bodyPost_ret (results_place _ _ _ _ _ _ _ _ rfl rfl rfl rfl hs8) rfl ?_
    exact ⟨rfl, hb8 _ _ (by omega) E7⟩
  | some x =>
    have hy : y = none := by
      rcases hxy with h | h
      · cases h
      · exact h
    subst hy
    go_wp2_with (refine wpList_row rfl rfl 32 _ _ rfl (w.heap.size + 1 + 1) _ rfl rfl 32 _ k27 (by kernel_rfl) (by rfl) (by rfl) ?_; intro w8 hb8 ho8 hs8)
    refine bodyPost_ret (results_place _ _ _ _ _ _ _ _ rfl rfl rfl rfl hs8) rfl ?_
    exact ⟨rfl, hb8 _ _ (by omega) E7⟩


set_option maxRecDepth 100000 in
set_option maxHeartbeats 6400000 in
/-- One that comes. -/
theorem come_any (p m pb : Nat) (g : Option Nat) (L : Led) (B : Bk) (o : Off) (w : World) (h : IsLed w p m L) (hB : IsBook w pb g B) (hwf : WF L) (hok : OkB B) (hsn : SeqN B) (b1 : o.num ≤ 9223372036854775807) (b2 : o.den ≤ 9223372036854775807) (b3 : o.left ≤ 9223372036854775807) :
    Calls Tryz.prog 29 #[.agg #[.pointer (some ⟨p, 0, none⟩), .pointer (some ⟨pb, 0, none⟩)], o.agg] w (RetCome (comeR L B o) w) := by
  obtain ⟨r, hr⟩ : ∃ r, r = comeR L B o := ⟨_, rfl⟩
  rw [← hr]
  unfold comeR at hr
  have hcp := fun w' (k : Ext w w') => hcopy_any p m pb g L B w' (h.ext k) (hB.ext k)
  have hmy := fun w' => cmay_any o w' b1 b2
  obtain ⟨l, hl⟩ : ∃ l : Option Addr, l = some ⟨p, 0, none⟩ := ⟨_, rfl⟩
  obtain ⟨b, hb⟩ : ∃ b : Option Addr, b = some ⟨pb, 0, none⟩ := ⟨_, rfl⟩
  rw [← hl, ← hb] at hcp ⊢
  clear hl hb h hB
  have HRR := Lib.hid hr
  clear hr
  obtain ⟨o0, o1, o2, o3, o4, o5, o6⟩ := o
  simp only [Off.agg] at hmy b1 b2 b3 ⊢
  have e0 := ext_alloc w (.cells #[.pointer l, .pointer b] 32)
  have s0 := size_alloc w (.cells #[.pointer l, .pointer b] 32)
  have h0 := heap_alloc_top w (.cells #[.pointer l, .pointer b] 32)
  generalize hW1 : w.alloc (.cells #[.pointer l, .pointer b] 32) = w1 at *
  have e1 := ext_alloc w1 (.cells #[.int .u64 o0, .int .u8 o1, .int .u8 o2, .int .u8 o3, .int .i64 o4, .int .i64 o5, .int .i64 o6] 60)
  have s1 := size_alloc w1 (.cells #[.int .u64 o0, .int .u8 o1, .int .u8 o2, .int .u8 o3, .int .i64 o4, .int .i64 o5, .int .i64 o6] 60)
  have h1 := heap_alloc_top w1 (.cells #[.int .u64 o0, .int .u8 o1, .int .u8 o2, .int .u8 o3, .int .i64 o4, .int .i64 o5, .int .i64 o6] 60)
  generalize hW2 : w1.alloc (.cells #[.int .u64 o0, .int .u8 o1, .int .u8 o2, .int .u8 o3, .int .i64 o4, .int .i64 o5, .int .i64 o6] 60) = w2 at *
  have e2 := ext_alloc w2 (.cells #[.pointer none, .pointer none] 32)
  have s2 := size_alloc w2 (.cells #[.pointer none, .pointer none] 32)
  have h2 := heap_alloc_top w2 (.cells #[.pointer none, .pointer none] 32)
  rw [s0] at h1 s1
  rw [s1] at h2 s2
  have k0 := e2.at (e1.at h0)
  have k1 := e2.at h1
  have E2 := Ext.trans e0 (Ext.trans e1 e2)
  subst hW2 hW1
  clear h0 h1 e0 e1 e2
  go_enter Tryz.func29, Tryz.ntmps29
  go_wp2
  generalize hW3 : (((w.alloc (.cells #[.pointer l, .pointer b] 32)).alloc (.cells #[.int .u64 o0, .int .u8 o1, .int .u8 o2, .int .u8 o3, .int .i64 o4, .int .i64 o5, .int .i64 o6] 60)).alloc (.cells #[.pointer none, .pointer none] 32)) = w3 at *
  clear hW3 s0 s1
  refine wp_region_hat waiter 3 [1] (by kernel_rfl) (by kernel_rfl) ?_
  intro w1 hw1
  have q0 : ∀ u : ExtOf w1, u.to.heap[w.heap.size]? = _ := fun u => (Ext.trans hw1 u.h).at k0
  have q1 : ∀ u : ExtOf w1, u.to.heap[w.heap.size + 1]? = _ := fun u => (Ext.trans hw1 u.h).at k1
  have d0 : ∀ u : ExtOf w1, u.to.cell? ⟨w.heap.size, 0, none⟩ = _ := fun u => cell_at (j := 0) (q0 u) rfl
  have d1 : ∀ u : ExtOf w1, u.to.cell? ⟨w.heap.size, 1, none⟩ = _ := fun u => cell_at (j := 1) (q0 u) rfl
  have f0 : ∀ u : ExtOf w1, u.to.cell? ⟨w.heap.size + 1, 0, none⟩ = _ := fun u => cell_at (j := 0) (q1 u) rfl
  have f1 : ∀ u : ExtOf w1, u.to.cell? ⟨w.heap.size + 1, 1, none⟩ = _ := fun u => cell_at (j := 1) (q1 u) rfl
  have f2 : ∀ u : ExtOf w1, u.to.cell? ⟨w.heap.size + 1, 2, none⟩ = _ := fun u => cell_at (j := 2) (q1 u) rfl
  have f3 : ∀ u : ExtOf w1, u.to.cell? ⟨w.heap.size + 1, 3, none⟩ = _ := fun u => cell_at (j := 3) (q1 u) rfl
  have f4 : ∀ u : ExtOf w1, u.to.cell? ⟨w.heap.size + 1, 4, none⟩ = _ := fun u => cell_at (j := 4) (q1 u) rfl
  have f5 : ∀ u : ExtOf w1, u.to.cell? ⟨w.heap.size + 1, 5, none⟩ = _ := fun u => cell_at (j := 5) (q1 u) rfl
  have f6 : ∀ u : ExtOf w1, u.to.cell? ⟨w.heap.size + 1, 6, none⟩ = _ := fun u => cell_at (j := 6) (q1 u) rfl
  clear q0 q1
  simp only [heads, List.take_succ_cons, List.take_zero, List.contains_cons, List.contains_nil, Nat.reduceBEq, Bool.or_false, Bool.false_eq_true, Nat.reduceAdd, Bool.or_true, Bool.true_or, ↓reduceIte, Bool.or_self]
  repeat (go_big_quiet_step (fail))
  refine wpQuiet_nil ?_
  clear d0 d1 f0 f1 f2 f3 f4 f5 f6
  refine wpX_callf 1 13 _ #[.agg #[.pointer l, .pointer b]] _ (by rfl) _ _ (by rfl) Tryz.func13 rfl rfl (by kernel_rfl) (by rfl) (by kernel_rfl) (by decide) ?_
  intro w4 h04 h4
  have E4 := Ext.trans E2 h04
  refine (hcp w4 E4).mono ?_
  rintro e w5 ⟨p, m, pb, g, rfl, e5, hL5, hB5, hp5, hm5, hpb5, hg5⟩
  refine ⟨_, rfl, Ext.trans h04 e5, ?_⟩
  refine wpX_tail (by kernel_rfl) ?_
  intro w6 e6 e6'
  simp only [Act.put, List.setIfInBounds_toArray, List.set_cons_zero, List.set_cons_succ, List.drop_succ_cons, List.drop_zero]
  have s4 := E4.size
  have s04 := h04.size
  have kr := e6.at h2
  have k16 := e6.at k1
  have E6 := Ext.trans E2 e6
  have hL6 := hL5.ext e6'
  have hB6 := hB5.ext e6'
  have s6 := e6.size
  clear h04 h4 E4 e5 hL5 hB5 e6 e6' h2 k0 k1 hcp E2
  have hz := heap_alloc_top w6 (.cells #[.pointer (some ⟨p, 0, none⟩), .pointer (some ⟨pb, 0, none⟩), .int .u64 o0, .int .u8 o1, .int .u8 o2, .int .u8 o3, .int .i64 o4, .int .i64 o5, .int .i64 o6, .slice none 0 0] 141)
  have ez := ext_alloc w6 (.cells #[.pointer (some ⟨p, 0, none⟩), .pointer (some ⟨pb, 0, none⟩), .int .u64 o0, .int .u8 o1, .int .u8 o2, .int .u8 o3, .int .i64 o4, .int .i64 o5, .int .i64 o6, .slice none 0 0] 141)
  have kr := ez.at kr
  have k1 := ez.at k16
  have EE := Ext.trans E6 ez
  have hL7 := hL6.ext ez
  have hB7 := hB6.ext ez
  have c0 := cell_at (j := 0) hz rfl
  have c1 := cell_at (j := 1) hz rfl
  have f0 := cell_at (j := 0) k1 rfl
  have f1 := cell_at (j := 1) k1 rfl
  have f2 := cell_at (j := 2) k1 rfl
  have f3 := cell_at (j := 3) k1 rfl
  have f4 := cell_at (j := 4) k1 rfl
  have f5 := cell_at (j := 5) k1 rfl
  have f6 := cell_at (j := 6) k1 rfl
  clear ez hL6 hB6 k16 E6
  go_wp2_with fail
  refine (hmy _).mono ?_
  rintro e w8 ⟨rfl, e8⟩
  have kr := e8.at kr
  have k1 := e8.at k1
  have hz := e8.at hz
  have EE := Ext.trans EE e8
  have hL8 := hL7.ext e8
  have hB8 := hB7.ext e8
  clear e8 hL7 hB7 c0 c1 f0 f1 f2 f3 f4 f5 f6 hmy
  have r0 := cell_at (j := 0) kr rfl
  have r1 := cell_at (j := 1) kr rfl
  cases q1 : cmayR ⟨o0, o1, o2, o3, o4, o5, o6⟩ with
  | false =>
    have HR := Lib.hid (show r = (1, 0, L, B, []) by rw [HRR.out, if_pos q1])
    have HZ := Lib.hid (show ¬ (1 : Int) = 0 by decide)
    go_wp2_with (refine wpList_row rfl rfl 32 _ _ rfl (w.heap.size + 1 + 1) _ rfl rfl 32 _ kr (by kernel_rfl) (by rfl) (by rfl) ?_; intro wz hbz hoz hsz)
    refine bodyPost_ret (results_place _ _ _ _ _ _ _ _ rfl rfl rfl rfl hsz) rfl ?_
    exact ⟨.agg #[.pointer none, .pointer none], .slice none 0 0, by rw [HR.out]; rfl, hbz _ _ (by omega) EE, fun _ => ⟨rfl, rfl⟩, fun hz => by rw [HR.out] at hz; exact absurd hz HZ.out⟩
  | true =>
    obtain ⟨c, hc⟩ : ∃ c, w6.heap.size = c := ⟨_, rfl⟩
    rw [hc] at hz ⊢
    have hcc : w3.heap.size ≤ c := by omega
    clear hc
    go_wp2
    refine wp_region_hat waiter 9 [] (by kernel_rfl) (by kernel_rfl) ?_
    intro w1 hw1
    have d0 : ∀ u : ExtOf w1, u.to.cell? ⟨c, 0, none⟩ = _ := fun u => cell_at (j := 0) ((Ext.trans hw1 u.h).at hz) rfl
    have d1 : ∀ u : ExtOf w1, u.to.cell? ⟨w.heap.size + 1, 1, none⟩ = _ := fun u => cell_at (j := 1) ((Ext.trans hw1 u.h).at k1) rfl
    have hLq : ∀ u : ExtOf w1, IsLed u.to p m L := fun u => hL8.ext (Ext.trans hw1 u.h)
    simp only [heads, List.take_succ_cons, List.take_zero, List.contains_cons, List.contains_nil, Nat.reduceBEq, Bool.or_false, Bool.false_eq_true, Nat.reduceAdd, Bool.or_true, Bool.true_or, ↓reduceIte, Bool.or_self]
    repeat (go_big_quiet_step ((go_at_call 83; exact Ret.cls (has_any p m L o1 _ (hLq _)))))
    refine wpQuiet_nil ?_
    refine wpX_tail (by kernel_rfl) ?_
    intro w9 e9 e9'
    simp only [Act.put, List.setIfInBounds_toArray, List.set_cons_zero, List.set_cons_succ, List.drop_succ_cons, List.drop_zero]
    clear d0 d1 hLq r0 r1
    have kr := e9.at kr
    have k1 := e9.at k1
    have hz := e9.at hz
    have EE := Ext.trans EE e9
    have hL9 := hL8.ext e9
    have hB9 := hB8.ext e9
    clear e9 hL8 hB8
    have r0 := cell_at (j := 0) kr rfl
    have r1 := cell_at (j := 1) kr rfl
    cases q2 : hasP L o1 with
    | false =>
      have HR := Lib.hid (show r = (7, 0, L, B, []) by rw [HRR.out, if_neg (by rw [q1]; simp), if_pos q2])
      have HZ := Lib.hid (show ¬ (7 : Int) = 0 by decide)
      go_wp2_with (refine wpList_row rfl rfl 32 _ _ rfl (w.heap.size + 1 + 1) _ rfl rfl 32 _ kr (by kernel_rfl) (by rfl) (by rfl) ?_; intro wz hbz hoz hsz)
      refine bodyPost_ret (results_place _ _ _ _ _ _ _ _ rfl rfl rfl rfl hsz) rfl ?_
      exact ⟨.agg #[.pointer none, .pointer none], .slice none 0 0, by rw [HR.out]; rfl, hbz _ _ (by omega) EE, fun _ => ⟨rfl, rfl⟩, fun hz => by rw [HR.out] at hz; exact absurd hz HZ.out⟩
    | true =>
      have hgo := pgoes_any w3.heap.size c p m pb g L B ⟨o0, o1, o2, o3, o4, o5, o6⟩ o4 [] (.slice none 0 0) w9 ⟨hz, hL9, hB9⟩ (World.ownsRow_nil _ _ _ _) hwf hok hsn b1 b2 b3 (by simp) hcc (by omega) (by omega) (fun x hx => by have := hg5 x hx; omega)
      simp only [List.length_nil, Nat.sub_zero] at hgo
      have hr2 := HRR.out
      rw [if_neg (by rw [q1]; simp), if_neg (by rw [q2]; simp)] at hr2
      generalize goesGo ⟨o0, o1, o2, o3, o4, o5, o6⟩ 65 L B o4 [] = gr at *
      obtain ⟨ge, gL, gB, gl, ga⟩ := gr
      simp only at hr2
      have HR2 := Lib.hid hr2
      clear hr2 HRR
      go_wp2_with fail
      refine hgo.mono ?_
      rintro e w11 ⟨rfl, hb11, g', av', hcm, hown, hg'⟩
      have kr := (hb11.block (w.heap.size + 1 + 1) (by omega)).trans kr
      have k1 := (hb11.block (w.heap.size + 1) (by omega)).trans k1
      have EE : Ext w w11 := Below.trans EE (Below.mono hb11 (by omega))
      simp only at hcm hown hg'
      have hrow := hcm.row
      simp only at hrow
      have hlc11 := lt_of_heap hrow
      clear r0 r1 hz hL9 hB9 hgo hb11 hg5
      have r0 := cell_at (j := 0) kr rfl
      have r1 := cell_at (j := 1) kr rfl
      by_cases hge : ge = 0
      · subst hge
        have hr2 := HR2.out
        rw [if_neg (by simp)] at hr2
        have c6 := cell_at (j := 6) hrow rfl
        have hsl := SlAt.of_own hown
        have hL11 := hcm.led
        have hB11 := hcm.book
        obtain ⟨hcS, hcp2, hq2⟩ := coming_apart hcm hown
        by_cases hgl : 0 < gl
        · have hgl' : decide (0 < gl) = true := by simpa using hgl
          rw [if_pos hgl] at hr2
          have hpl := fun wq hB => place_any pb g' gB o1 o2 o3 gl o5 o6 wq hB b1 b2
          generalize placeR gB o1 o2 o3 gl o5 o6 = pr at *
          obtain ⟨pq, pe, pB⟩ := pr
          simp only at hr2
          have HR3 := Lib.hid hr2
          clear hr2 HR2
          go_wp2
          clear r0 r1 c6
          refine RgK.wp_region_hat (pb :: g'.toList) waiter 23 [18, 19, 20, 21, 22] (by kernel_rfl) (by kernel_rfl) (by kernel_rfl) ?_
          intro w1 hw1
          have hcS2 : c ∉ pb :: g'.toList := fun hx => hcS (by simp at hx ⊢; exact .inr hx)
          have hBS : w.heap.size + 1 ∉ pb :: g'.toList := fun hx => by
            rcases List.mem_cons.1 hx with hx | hx
            · omega
            · have := hg' (w.heap.size + 1) (by simpa using hx); omega
          have hRS : w.heap.size + 1 + 1 ∉ pb :: g'.toList := fun hx => by
            rcases List.mem_cons.1 hx with hx | hx
            · omega
            · have := hg' (w.heap.size + 1 + 1) (by simpa using hx); omega
          have d1 : ∀ u : KeepOf (pb :: g'.toList) w1, u.to.cell? ⟨c, 1, none⟩ = _ := fun u => cell_at (j := 1) ((hw1.trans u.h).at hrow hcS2) rfl
          have d6 : ∀ u : KeepOf (pb :: g'.toList) w1, u.to.cell? ⟨c, 6, none⟩ = _ := fun u => cell_at (j := 6) ((hw1.trans u.h).at hrow hcS2) rfl
          have f1 : ∀ u : KeepOf (pb :: g'.toList) w1, u.to.cell? ⟨w.heap.size + 1, 1, none⟩ = _ := fun u => cell_at (j := 1) ((hw1.trans u.h).at k1 hBS) rfl
          have f2 : ∀ u : KeepOf (pb :: g'.toList) w1, u.to.cell? ⟨w.heap.size + 1, 2, none⟩ = _ := fun u => cell_at (j := 2) ((hw1.trans u.h).at k1 hBS) rfl
          have f3 : ∀ u : KeepOf (pb :: g'.toList) w1, u.to.cell? ⟨w.heap.size + 1, 3, none⟩ = _ := fun u => cell_at (j := 3) ((hw1.trans u.h).at k1 hBS) rfl
          have f5 : ∀ u : KeepOf (pb :: g'.toList) w1, u.to.cell? ⟨w.heap.size + 1, 5, none⟩ = _ := fun u => cell_at (j := 5) ((hw1.trans u.h).at k1 hBS) rfl
          have f6 : ∀ u : KeepOf (pb :: g'.toList) w1, u.to.cell? ⟨w.heap.size + 1, 6, none⟩ = _ := fun u => cell_at (j := 6) ((hw1.trans u.h).at k1 hBS) rfl
          simp only [heads, List.take_succ_cons, List.take_zero, List.contains_cons, List.contains_nil, Nat.reduceBEq, Bool.or_false, Bool.false_eq_true, Nat.reduceAdd, Bool.or_true, Bool.true_or, ↓reduceIte, Bool.or_self]
          repeat (go_big_quiet_step (fail))
          refine wpQuiet_nil ?_
          intro hx1
          clear d1 d6 f1 f2 f3 f5 f6
          refine RgK.wpX_callf 18 40 _ #[.pointer (some ⟨pb, 0, none⟩), .int .u8 o1, .int .u8 o2, .int .u8 o3, .int .i64 gl, .agg #[.int .i64 o5, .int .i64 o6]] _ (by rfl) _ _ (by rfl) Tryz.func40 rfl (by kernel_rfl) (by kernel_rfl) rfl (by kernel_rfl) (by decide) ?_
          intro wc h0c hxc
          refine (hpl wc (hB11.ext (Ext.trans hx1 hxc))).mono ?_
          rintro e w12 ⟨rfl, g2, k12, hB12, hg12⟩
          refine ⟨_, rfl, h0c.trans k12, ?_⟩
          refine RgK.wpX_again_e waiter 19 [] 0 (by kernel_rfl) (by kernel_rfl) (h0c.trans k12) ?_
          intro w1 hw1'
          simp only [Act.put, List.getElem_toArray, List.getElem_cons_succ, List.getElem_cons_zero, List.setIfInBounds_toArray, List.set_cons_zero, List.set_cons_succ]
          simp only [heads, List.take_succ_cons, List.take_zero, List.drop_succ_cons, List.drop_zero, List.contains_cons, List.contains_nil, Nat.reduceBEq, Bool.or_false, Bool.false_eq_true, Nat.reduceAdd, Bool.or_true, Bool.true_or, ↓reduceIte, Bool.or_self]
          repeat (go_big_quiet_step (fail))
          refine wpQuiet_nil ?_
          intro hxd
          refine RgK.wpX_tail (by kernel_rfl) ?_
          intro w13 e13 e13'
          simp only [Act.put, List.setIfInBounds_toArray, List.set_cons_zero, List.set_cons_succ, List.drop_succ_cons, List.drop_zero]
          have Ex := Ext.trans hx1 hxc
          have Ey := Ext.trans hxd e13'
          have kr := Ey.at (k12.at (Ex.at kr) hRS)
          have hrow := Ey.at (k12.at (Ex.at hrow) hcS2)
          obtain ⟨hpS, hmS⟩ := apart_hb hL11 hB11
          have hL13 := ((hL11.ext Ex).keep k12 hpS hmS).ext Ey
          have hB13 := hB12.ext Ey
          have hown13 := own_ext (own_keepq (own_ext hown Ex) k12 (fun q hq hx => (hq2 q hq).1 (by simp at hx ⊢; exact .inr hx))) Ey
          have hsl := SlAt.of_own hown13
          have EE : Ext w w13 := Ext.trans (Keep.trans_fresh (S := []) (Keep.of_ext (Ext.trans EE Ex)) k12 (fun x hx => by
            right
            rcases List.mem_cons.1 hx with rfl | hx
            · omega
            · have := hg' x (by simpa using hx); omega)).ext Ey
          have s13 := Ey.size
          have s12 := k12.size
          have sx := Ex.size
          have hL11 := hL13
          have hB11 := hB13
          have hown := hown13
          have r0 := cell_at (j := 0) kr rfl
          have r1 := cell_at (j := 1) kr rfl
          have c6 := cell_at (j := 6) hrow rfl
          have hgR0 : ∀ x, g2 = some x → x ≠ w.heap.size + 1 + 1 := fun x hx => by
            rcases hg12 with hh | hh
            · have := hg' x (hh ▸ hx); omega
            · have := hh x hx; omega
          have hlc13 := lt_of_heap hrow
          clear hL13 hB13 hown13 k12 hB12 hg12 e13 e13' hx1 hxc hxd hw1 h0c hpl hcm hpS hmS hcS2 hBS hRS hcS hcp2 hq2 Ex Ey hw1'
          by_cases hpe : pe = 0
          · subst hpe
            have hr3 := HR3.out
            rw [if_neg (by simp)] at hr3
            have HR := Lib.hid hr3
            clear hr3 HR3
            go_wp2
            clear r0 r1 c6
            have hgR := hgR0
            refine RgK.wp_region_hat [w.heap.size + 1 + 1] waiter 12 [8, 10, 11] (by kernel_rfl) (by kernel_rfl) (by kernel_rfl) ?_
            intro w1 hw1
            have hcR : c ∉ [w.heap.size + 1 + 1] := by simp; omega
            have d0 : ∀ u : KeepOf [w.heap.size + 1 + 1] w1, u.to.cell? ⟨c, 0, none⟩ = _ := fun u => cell_at (j := 0) ((hw1.trans u.h).at hrow hcR) rfl
            have d1 : ∀ u : KeepOf [w.heap.size + 1 + 1] w1, u.to.cell? ⟨c, 1, none⟩ = _ := fun u => cell_at (j := 1) ((hw1.trans u.h).at hrow hcR) rfl
            have d9 : ∀ u : KeepOf [w.heap.size + 1 + 1] w1, u.to.cell? ⟨c, 9, none⟩ = _ := fun u => cell_at (j := 9) ((hw1.trans u.h).at hrow hcR) rfl
            simp only [heads, List.take_succ_cons, List.take_zero, List.contains_cons, List.contains_nil, Nat.reduceBEq, Bool.or_false, Bool.false_eq_true, Nat.reduceAdd, Bool.or_true, Bool.true_or, ↓reduceIte, Bool.or_self]
            repeat (go_big_quiet_step (fail))
            refine wpQuiet_nil ?_
            intro hx1
            clear d0 d1 d9
            refine RgK.wpX_callf 8 85 _ #[av'] _ (by rfl) _ _ (by rfl) Tryz.func85 rfl (by kernel_rfl) (by kernel_rfl) rfl (by kernel_rfl) (by decide) ?_
            intro wc h0c hxc
            refine (clipL_any w3.heap.size _ av' _ wc (hsl.ext (Ext.trans hx1 hxc))).mono ?_
            rintro e w' ⟨v', rfl, rfl, hsl2⟩
            refine ⟨_, rfl, h0c, ?_⟩
            refine RgK.wpX_store 10 _ 32 _ _ rfl rfl rfl (by kernel_rfl) (by decide) rfl (w.heap.size + 1 + 1) #[.pointer (some ⟨p, 0, none⟩), .pointer (some ⟨pb, 0, none⟩)] (by kernel_rfl) (by kernel_rfl) 32 _ (by kernel_rfl) (by rfl) (by rfl) ((Ext.trans hx1 hxc).at kr) (Or.inl (by simp)) ?_
            intro wd h0d kd hsd
            refine RgK.wpX_again_e waiter 11 [] 0 (by kernel_rfl) (by kernel_rfl) h0d ?_
            intro w1 hw1
            simp only [Act.put, List.getElem_toArray, List.getElem_cons_succ, List.getElem_cons_zero, List.setIfInBounds_toArray, List.set_cons_zero, List.set_cons_succ]
            simp only [heads, List.take_succ_cons, List.take_zero, List.drop_succ_cons, List.drop_zero, List.contains_cons, List.contains_nil, Nat.reduceBEq, Bool.or_false, Bool.false_eq_true, Nat.reduceAdd, Bool.or_true, Bool.true_or, ↓reduceIte, Bool.or_self]
            repeat (go_big_quiet_step (fail))
            refine wpQuiet_nil ?_
            intro hxd
            refine RgK.wpX_tail (by kernel_rfl) ?_
            intro we ee ee'
            simp only [Act.put, List.setIfInBounds_toArray, List.set_cons_zero, List.set_cons_succ, List.drop_succ_cons, List.drop_zero]
            go_wp2
            have hse := ee'.at (hxd.at hsd)
            have hEr : Ext w _ := (Keep.trans_fresh (S := []) (Keep.of_ext (Ext.trans EE (Ext.trans hx1 hxc))) kd (fun x hx => by right; simp at hx; omega)).ext
            have Ez := Ext.trans hxd ee'
            have hEf := Ext.trans hEr Ez
            have hLf := ((hL11.ext (Ext.trans hx1 hxc)).keep kd (by simp; omega) (by simp; omega)).ext Ez
            have hBf := ((hB11.ext (Ext.trans hx1 hxc)).keep kd (by simp; omega) (fun x hx => by have := hgR x hx; simp; exact this)).ext Ez
            obtain ⟨A2, cap2, q0, q1', q2', q3, q4⟩ := hsl2
            have hslf : SlAt we w.heap.size 5 v' _ _ := ⟨A2, cap2, q0, q1', q2', q3, by
              rcases q4 with q4 | ⟨gg, q4, q5, q6, q7⟩
              · exact .inl q4
              · refine .inr ⟨gg, q4, by omega, by have := kd.size; have := Ez.size; omega, fun j u hu => ?_⟩
                exact (cell_block (a := ⟨gg, j, none⟩) ((Ez.block (k := gg) (by have := kd.size; omega)).trans (kd.block gg q6 (by simp; omega)))).trans (q7 j u hu)⟩
            refine bodyPost_ret (results_place _ _ _ _ _ _ _ _ rfl rfl rfl rfl hse) rfl ?_
            exact ⟨_, v', by rw [HR.out]; rfl, hEf, fun hz => absurd (by rw [HR.out]) hz, fun _ => by rw [HR.out]; exact ⟨p, m, pb, _, rfl, hLf, hBf, hslf⟩⟩
          · have hpe' : (pe == 0) = false := by simpa using hpe
            have HR := Lib.hid (show r = (pe, 0, L, B, []) by rw [HR3.out, if_pos hpe])
            have HZ := Lib.hid hpe
            clear hrow HR3
            go_wp2_with (refine wpList_row rfl rfl 32 _ _ rfl (w.heap.size + 1 + 1) _ rfl rfl 32 _ kr (by kernel_rfl) (by rfl) (by rfl) ?_; intro wz hbz hoz hsz)
            refine bodyPost_ret (results_place _ _ _ _ _ _ _ _ rfl rfl rfl rfl hsz) rfl ?_
            exact ⟨.agg #[.pointer none, .pointer none], .slice none 0 0, by rw [HR.out]; rfl, hbz _ _ (by omega) EE, fun _ => ⟨rfl, rfl⟩, fun hz => by rw [HR.out] at hz; exact absurd hz HZ.out⟩
        · have hgl' : decide (0 < gl) = false := by simpa using hgl
          rw [if_neg hgl] at hr2
          have HR := Lib.hid hr2
          clear hr2 HR2
          go_wp2
          have hlc13 := lt_of_heap hrow
          have hgR0 : ∀ x, g' = some x → x ≠ w.heap.size + 1 + 1 := fun x hx => by have := hg' x hx; omega
          clear r0 r1 c6
          have hgR := hgR0
          refine RgK.wp_region_hat [w.heap.size + 1 + 1] waiter 12 [8, 10, 11] (by kernel_rfl) (by kernel_rfl) (by kernel_rfl) ?_
          intro w1 hw1
          have hcR : c ∉ [w.heap.size + 1 + 1] := by simp; omega
          have d0 : ∀ u : KeepOf [w.heap.size + 1 + 1] w1, u.to.cell? ⟨c, 0, none⟩ = _ := fun u => cell_at (j := 0) ((hw1.trans u.h).at hrow hcR) rfl
          have d1 : ∀ u : KeepOf [w.heap.size + 1 + 1] w1, u.to.cell? ⟨c, 1, none⟩ = _ := fun u => cell_at (j := 1) ((hw1.trans u.h).at hrow hcR) rfl
          have d9 : ∀ u : KeepOf [w.heap.size + 1 + 1] w1, u.to.cell? ⟨c, 9, none⟩ = _ := fun u => cell_at (j := 9) ((hw1.trans u.h).at hrow hcR) rfl
          simp only [heads, List.take_succ_cons, List.take_zero, List.contains_cons, List.contains_nil, Nat.reduceBEq, Bool.or_false, Bool.false_eq_true, Nat.reduceAdd, Bool.or_true, Bool.true_or, ↓reduceIte, Bool.or_self]
          repeat (go_big_quiet_step (fail))
          refine wpQuiet_nil ?_
          intro hx1
          clear d0 d1 d9
          refine RgK.wpX_callf 8 85 _ #[av'] _ (by rfl) _ _ (by rfl) Tryz.func85 rfl (by kernel_rfl) (by kernel_rfl) rfl (by kernel_rfl) (by decide) ?_
          intro wc h0c hxc
          refine (clipL_any w3.heap.size _ av' _ wc (hsl.ext (Ext.trans hx1 hxc))).mono ?_
          rintro e w' ⟨v', rfl, rfl, hsl2⟩
          refine ⟨_, rfl, h0c, ?_⟩
          refine RgK.wpX_store 10 _ 32 _ _ rfl rfl rfl (by kernel_rfl) (by decide) rfl (w.heap.size + 1 + 1) #[.pointer (some ⟨p, 0, none⟩), .pointer (some ⟨pb, 0, none⟩)] (by kernel_rfl) (by kernel_rfl) 32 _ (by kernel_rfl) (by rfl) (by rfl) ((Ext.trans hx1 hxc).at kr) (Or.inl (by simp)) ?_
          intro wd h0d kd hsd
          refine RgK.wpX_again_e waiter 11 [] 0 (by kernel_rfl) (by kernel_rfl) h0d ?_
          intro w1 hw1
          simp only [Act.put, List.getElem_toArray, List.getElem_cons_succ, List.getElem_cons_zero, List.setIfInBounds_toArray, List.set_cons_zero, List.set_cons_succ]
          simp only [heads, List.take_succ_cons, List.take_zero, List.drop_succ_cons, List.drop_zero, List.contains_cons, List.contains_nil, Nat.reduceBEq, Bool.or_false, Bool.false_eq_true, Nat.reduceAdd, Bool.or_true, Bool.true_or, ↓reduceIte, Bool.or_self]
          repeat (go_big_quiet_step (fail))
          refine wpQuiet_nil ?_
          intro hxd
          refine RgK.wpX_tail (by kernel_rfl) ?_
          intro we ee ee'
          simp only [Act.put, List.setIfInBounds_toArray, List.set_cons_zero, List.set_cons_succ, List.drop_succ_cons, List.drop_zero]
          go_wp2
          have hse := ee'.at (hxd.at hsd)
          have hEr : Ext w _ := (Keep.trans_fresh (S := []) (Keep.of_ext (Ext.trans EE (Ext.trans hx1 hxc))) kd (fun x hx => by right; simp at hx; omega)).ext
          have Ez := Ext.trans hxd ee'
          have hEf := Ext.trans hEr Ez
          have hLf := ((hL11.ext (Ext.trans hx1 hxc)).keep kd (by simp; omega) (by simp; omega)).ext Ez
          have hBf := ((hB11.ext (Ext.trans hx1 hxc)).keep kd (by simp; omega) (fun x hx => by have := hgR x hx; simp; exact this)).ext Ez
          obtain ⟨A2, cap2, q0, q1', q2', q3, q4⟩ := hsl2
          have hslf : SlAt we w.heap.size 5 v' _ _ := ⟨A2, cap2, q0, q1', q2', q3, by
            rcases q4 with q4 | ⟨gg, q4, q5, q6, q7⟩
            · exact .inl q4
            · refine .inr ⟨gg, q4, by omega, by have := kd.size; have := Ez.size; omega, fun j u hu => ?_⟩
              exact (cell_block (a := ⟨gg, j, none⟩) ((Ez.block (k := gg) (by have := kd.size; omega)).trans (kd.block gg q6 (by simp; omega)))).trans (q7 j u hu)⟩
          refine bodyPost_ret (results_place _ _ _ _ _ _ _ _ rfl rfl rfl rfl hse) rfl ?_
          exact ⟨_, v', by rw [HR.out]; rfl, hEf, fun hz => absurd (by rw [HR.out]) hz, fun _ => by rw [HR.out]; exact ⟨p, m, pb, _, rfl, hLf, hBf, hslf⟩⟩
      · have hge' : (ge == 0) = false := by simpa using hge
        have HR := Lib.hid (show r = (ge, 0, L, B, []) by rw [HR2.out, if_pos hge])
        have HZ := Lib.hid hge
        clear hcm hown hrow HR2
        go_wp2_with (refine wpList_row rfl rfl 32 _ _ rfl (w.heap.size + 1 + 1) _ rfl rfl 32 _ kr (by kernel_rfl) (by rfl) (by rfl) ?_; intro wz hbz hoz hsz)
        refine bodyPost_ret (results_place _ _ _ _ _ _ _ _ rfl rfl rfl rfl hsz) rfl ?_
        exact ⟨.agg #[.pointer none, .pointer none], .slice none 0 0, by rw [HR.out]; rfl, hbz _ _ (by omega) EE, fun _ => ⟨rfl, rfl⟩, fun hz => by rw [HR.out] at hz; exact absurd hz HZ.out⟩
end Go.Proofs.YtjddfopebpmaeaaGreat
