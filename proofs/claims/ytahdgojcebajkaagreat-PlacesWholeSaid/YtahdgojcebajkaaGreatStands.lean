/- Sound: each debt from 0 to its limit, limits as they were. Stands: does each position stand as it did, but where a fill moved it? Even: does each currency's sum stand at 0, and each position of who took no part stand as it did? A row of 17 marks; a new row. A chain of fills, plain: who owned what was filled, what stands as it stood, what the giver gave; positions of a currency sum to 0. -/
import Derived.Test.YtahdgojcebajkaaGreatPos
import Derived.Test.YtahdgojcebajkaaGreatFair

namespace Go.Proofs.YtahdgojcebajkaaGreat
open Go.RowKit Go.Rg Go.BigFrame

section
variable {α β : Type} {lt : α → α → Bool} {lt' : β → β → Bool} {f : α → β}
theorem insR_map (h : ∀ a b, lt a b = lt' (f a) (f b)) (x : α) : ∀ l : List α, (insR lt x l).map f = insR lt' (f x) (l.map f)
  | [] => rfl
  | y :: l => by
    unfold insR
    simp only [List.map_cons]
    rw [h y x]
    split
    · rw [List.map_cons, insR_map h x l]
    · rfl
theorem sortR_map (h : ∀ a b, lt a b = lt' (f a) (f b)) : ∀ l : List α, (sortR lt l).map f = sortR lt' (l.map f)
  | [] => rfl
  | x :: l => by
    simp only [sortR, List.map_cons]
    rw [insR_map h, sortR_map h l]
end
def klLn (x : Ln) : K3 × Int := (x.1, x.2.1)
theorem linesR_kl {l l' : Lines} (h : l.map klLn = l'.map klLn) : (linesR l).map klLn = (linesR l').map klLn := by
  have hs : ∀ a b : Ln, ltLn a b = (fun a b : K3 × Int => ltLn (a.1, (0, 0)) (b.1, (0, 0))) (klLn a) (klLn b) := fun _ _ => rfl
  unfold linesR
  rw [sortR_map (lt' := fun a b : K3 × Int => ltLn (a.1, (0, 0)) (b.1, (0, 0))) hs, sortR_map (lt' := fun a b : K3 × Int => ltLn (a.1, (0, 0)) (b.1, (0, 0))) hs, h]

def zLn (x : Ln) : Ln := (x.1, (x.2.1, 0))
def zk (k : Nat) (S : Lines) : Lines := (S.take k).map zLn ++ S.drop k
theorem zk_len (k : Nat) (S : Lines) : (zk k S).length = S.length := by
  unfold zk
  rw [List.length_append, List.length_map, List.length_take, List.length_drop]
  omega
theorem zk_at (S : Lines) (k : Nat) (hk : k < S.length) : (zk k S)[k]'(by rw [zk_len]; exact hk) = S[k]'hk := by
  unfold zk
  rw [List.getElem_append_right (by rw [List.length_map, List.length_take]; omega)]
  simp only [List.length_map, List.length_take, List.getElem_drop]
  congr 1
  omega
theorem zk_succ (S : Lines) (k : Nat) (hk : k < S.length) : zk (k + 1) S = (zk k S).set k (zLn (S[k]'hk)) := by
  unfold zk
  rw [List.take_succ_eq_append_getElem hk, List.map_append, List.set_append_right _ _ (by rw [List.length_map, List.length_take]; omega)]
  rw [List.length_map, List.length_take, show k - min k S.length = 0 by omega, List.drop_eq_getElem_cons hk, List.set_cons_zero, List.append_assoc]
  rfl
theorem lnsCells_set (l : Lines) (j : Nat) (hj : j < l.length) : (lnsCells l).set (j * 5 + 4) (.int .i64 0) = lnsCells (l.set j (zLn (l[j]'hj))) := by
  induction l generalizing j with
  | nil => simp at hj
  | cons o l ih =>
    have hc : ∀ o l, lnsCells (o :: l) = lnCells o ++ lnsCells l := fun o l => rfl
    cases j with
    | zero =>
      simp only [List.set_cons_zero, hc, List.getElem_cons_zero]
      rfl
    | succ j =>
      simp only [List.set_cons_succ, hc, List.getElem_cons_succ]
      rw [← ih j (by simpa using hj), List.set_append_right _ _ (by simp [lnCells]; omega)]
      congr 2
      simp [lnCells]
      omega
theorem own_set {w : World} {base size n g cap : Nat} {e : TypeId} {xs : List Value} (h : w.ownsRow base e size (.slice (some ⟨g, 0, none⟩) n cap) n xs) (j : Nat) (x : Value) : (w.setCell ⟨g, j, none⟩ x).ownsRow base e size (.slice (some ⟨g, 0, none⟩) n cap) n (xs.set j x) := by
  obtain ⟨hl, h⟩ := h
  refine ⟨by rw [List.length_set]; exact hl, ?_⟩
  rcases h with ⟨h0, _⟩ | ⟨b, cap', cur, hv, hb, hg, h1, h2, h3, h4⟩
  · cases h0
  · injection hv with hv1 _ hv2
    injection hv1 with hv1
    injection hv1 with hv1 _ _
    subst hv1 hv2
    exact .inr ⟨g, cap, _, rfl, hb, heap_setCell_same w g j _ _ x hg, h1, h2, by simpa using h3, by rw [Array.toList_setIfInBounds, List.take_set, h4]⟩

theorem own_row {w : World} {base size n g cap : Nat} {e : TypeId} {xs : List Value} (h : w.ownsRow base e size (.slice (some ⟨g, 0, none⟩) n cap) n xs) : ∃ cur, w.heap[g]? = some (.cells cur e (0, 0)) := by
  rcases h.2 with ⟨h0, _⟩ | ⟨b, cap', cur, hv, hb, hg, _⟩
  · cases h0
  · injection hv with hv1 _ hv2
    injection hv1 with hv1
    injection hv1 with hv1 _ _
    subst hv1
    exact ⟨cur, hg⟩
theorem own_cells {w : World} {base size n g cap : Nat} {e : TypeId} {xs : List Value} (h : w.ownsRow base e size (.slice (some ⟨g, 0, none⟩) n cap) n xs) : g < w.heap.size ∧ ∀ j u, xs[j]? = some u → w.cell? ⟨g, j, none⟩ = some u := by
  obtain ⟨cur, hr⟩ := own_row h
  refine ⟨lt_of_heap hr, fun j u hu => ?_⟩
  obtain ⟨A, cap', hv, _, _, hl, h4⟩ := SlAt.of_own h
  injection hv with hv _ _
  subst hv
  rcases h4 with h4 | ⟨g', h5, _, _, hc⟩
  · have := (List.getElem?_eq_some_iff.1 hu).1
    subst h4
    simp at hl
    subst hl
    simp at this
  · injection h5 with h5
    injection h5 with h5 _ _
    subst h5
    exact hc j u hu

set_option maxRecDepth 100000 in
set_option maxHeartbeats 3200000 in
theorem sound_any (p m p' m' : Nat) (L L' : Led) (w : World) (h : IsLed w p m L) (hwf : WF L) (h' : IsLed w p' m' L') (hwf' : WF L') (hk : L.lines.map klLn = L'.lines.map klLn) :
    Calls Tryz.prog 90 #[.pointer (some ⟨p, 0, none⟩), .pointer (some ⟨p', 0, none⟩)] w (Ret (.bool true) w) := by
  have hkl := linesR_kl hk
  have hbd : ∀ y ∈ linesR L.lines, 0 ≤ y.2.2 ∧ y.2.2 ≤ y.2.1 ∧ y.2.1 ≤ 1099511627776 := fun y hy => by
    have := hwf.nums y (mem_linesR.1 hy)
    omega
  have hle : (linesR L.lines).length ≤ 64 := by rw [linesR_len]; exact hwf.few
  have hlen : (linesR L'.lines).length = (linesR L.lines).length := by have := congrArg List.length hkl; simpa using this.symm
  have hln := lines_any p m L w h hwf
  have hln' := fun w1 (k : Ext w w1) => lines_any p' m' L' w1 (h'.ext k) hwf'
  generalize linesR L.lines = S at *
  generalize linesR L'.lines = S' at *
  have HBD := Lib.hid hbd
  have HKL := Lib.hid hkl
  clear hk hkl hbd h h'
  go_enter Tryz.func90, Tryz.ntmps90
  go_wp2_with fail
  refine hln.mono ?_
  rintro e w1 ⟨va, rfl, e1, howna⟩
  have hah0 := fun q hq => (howna.lt q hq).2
  go_wp2_with fail
  refine (hln' w1 e1).mono ?_
  rintro e w2 ⟨vb, rfl, e2, hownb⟩
  have howna := own_ext howna e2
  have s1 := e1.size
  have s2 := e2.size
  rw [hlen] at hownb
  obtain ⟨A, cap, rfl⟩ := own_slice howna
  obtain ⟨A', cap', rfl⟩ := own_slice hownb
  have hahi := fun q hq => (howna.lt q hq).2
  have E2 := Ext.trans e1 e2
  have HA := Lib.hid (show ∀ q, (Value.slice A S.length cap).ownBlock = some q → w.heap.size ≤ q ∧ q < w1.heap.size from fun q hq => by
    refine ⟨(howna.lt q hq).1, ?_⟩
    have := hah0 q hq
    exact this)
  have HB := Lib.hid (show ∀ q, (Value.slice A' S.length cap').ownBlock = some q → w1.heap.size ≤ q from fun q hq => (hownb.lt q hq).1)
  have h0a : w2.ownsRow w.heap.size 149 5 (.slice A S.length cap) S.length (lnsCells (zk 0 S)) := by simpa [zk] using howna
  have h0b : w2.ownsRow w1.heap.size 149 5 (.slice A' S.length cap') S.length (lnsCells (zk 0 S')) := by simpa [zk] using hownb
  have hn63 : (S.length : Int) ≤ 9223372036854775807 := by omega
  have HL := Lib.hid hlen
  clear hln hln' howna hownb hahi hah0 e1 e2 hlen
  go_wp2_with fail
  go_loopw [7] (fun i wr => ∃ k : Nat, k ≤ S.length ∧ i = .int .i64 k ∧ wr.ownsRow w.heap.size 149 5 (.slice A S.length cap) S.length (lnsCells (zk k S)) ∧ wr.ownsRow w1.heap.size 149 5 (.slice A' S.length cap') S.length (lnsCells (zk k S')) ∧ Ext w wr) (fun i _ => S.length - (intOf i).toNat)
  case atStart => exact ⟨0, Nat.zero_le _, rfl, h0a, h0b, E2⟩
  case round =>
    obtain ⟨k, hk, rfl, hoa, hob, er⟩ := hrel
    by_cases hkn : k < S.length
    · have hkn' : k < S'.length := by rw [HL.out]; exact hkn
      obtain ⟨ga, rfl, hga, hgl, hca⟩ : ∃ g, A = some ⟨g, 0, none⟩ ∧ w.heap.size ≤ g ∧ g < wr.heap.size ∧ ∀ j u, (lnsCells (zk k S))[j]? = some u → wr.cell? ⟨g, j, none⟩ = some u := by
        obtain ⟨A1, cap1, h1, _, _, _, h4⟩ := SlAt.of_own hoa
        injection h1 with h1 _ _
        subst h1
        rcases h4 with h4 | ⟨g, h4, h5, h6, h7⟩
        · omega
        · exact ⟨g, h4, h5, h6, h7⟩
      obtain ⟨gb, rfl, hgb, hglb, hcb⟩ : ∃ g, A' = some ⟨g, 0, none⟩ ∧ w1.heap.size ≤ g ∧ g < wr.heap.size ∧ ∀ j u, (lnsCells (zk k S'))[j]? = some u → wr.cell? ⟨g, j, none⟩ = some u := by
        obtain ⟨A1, cap1, h1, _, _, _, h4⟩ := SlAt.of_own hob
        injection h1 with h1 _ _
        subst h1
        rcases h4 with h4 | ⟨g, h4, h5, h6, h7⟩
        · omega
        · exact ⟨g, h4, h5, h6, h7⟩
      have hgne : ga ≠ gb := by have := (HA.out ga rfl).2; omega
      have hyb := HBD.out _ (List.getElem_mem hkn)
      have hzz : zLn (S[k]'hkn) = zLn (S'[k]'hkn') := by
        have h1 : (S.map klLn)[k]? = (S'.map klLn)[k]? := by rw [HKL.out]
        rw [List.getElem?_map, List.getElem?_map, List.getElem?_eq_getElem hkn, List.getElem?_eq_getElem hkn'] at h1
        simp only [Option.map_some, Option.some.injEq] at h1
        unfold klLn at h1
        unfold zLn
        rw [(Prod.mk.inj h1).1, (Prod.mk.inj h1).2]
      have hsa : (lnsCells (zk k S)).set (k * 5 + 4) (.int .i64 0) = lnsCells (zk (k + 1) S) := by
        rw [lnsCells_set _ k (by rw [zk_len]; exact hkn), zk_at S k hkn, ← zk_succ S k hkn]
      have hsb : (lnsCells (zk k S')).set (k * 5 + 4) (.int .i64 0) = lnsCells (zk (k + 1) S') := by
        rw [lnsCells_set _ k (by rw [zk_len]; exact hkn'), zk_at S' k hkn', ← zk_succ S' k hkn']
      have hat : ∀ j, j < 5 → (lnsCells (zk k S))[k * 5 + j]? = (lnCells (S[k]'hkn))[j]? := fun j hj => by rw [lnsCells_at _ k j (by rw [zk_len]; exact hkn) hj, zk_at S k hkn]
      have hatb : ∀ j, j < 5 → (lnsCells (zk k S'))[k * 5 + j]? = (lnCells (S'[k]'hkn'))[j]? := fun j hj => by rw [lnsCells_at _ k j (by rw [zk_len]; exact hkn') hj, zk_at S' k hkn']
      have hz1 : ∀ (hq : k < (zk (k + 1) S).length), (zk (k + 1) S)[k]'hq = zLn (S[k]'hkn) := fun hq => by
        simp only [zk_succ S k hkn, List.getElem_set_self]
      have hz2 : ∀ (hq : k < (zk (k + 1) S').length), (zk (k + 1) S')[k]'hq = zLn (S'[k]'hkn') := fun hq => by
        simp only [zk_succ S' k hkn', List.getElem_set_self]
      rw [← hzz] at hz2
      generalize (S[k]'hkn) = y at *
      generalize (S'[k]'hkn') = y' at *
      obtain ⟨⟨y0, y1, y2⟩, y3, y4⟩ := y
      simp only at hyb
      obtain ⟨hy1, hy2, hy3⟩ := hyb
      have hj1 : (0 : Int) ≤ (k : Int) := by omega
      have hj2 : (k : Int) < (S.length : Int) := by omega
      have q1 : decide (y4 < 0) = false := by simp; omega
      have q2 : decide (y3 < y4) = false := by simp; omega
      have xa3 : wr.cell? ⟨ga, k * 5 + 3, none⟩ = some (.int .i64 y3) := hca _ _ (by rw [hat 3 (by omega)]; rfl)
      have xa4 : wr.cell? ⟨ga, k * 5 + 4, none⟩ = some (.int .i64 y4) := hca _ _ (by rw [hat 4 (by omega)]; rfl)
      have xb4 : ∃ v, wr.cell? ⟨gb, k * 5 + 4, none⟩ = some v := ⟨_, hcb _ _ (by rw [hatb 4 (by omega)]; rfl)⟩
      have HSA := Lib.hid hsa
      have HSB := Lib.hid hsb
      have HZ1 := Lib.hid hz1
      have HZ2 := Lib.hid hz2
      have HXB := Lib.hid xb4
      have X3 := Lib.hid xa3
      have X4 := Lib.hid xa4
      clear hca hcb hsa hsb hat hatb hz1 hz2 hzz xb4 xa3 xa4
      go_wp2_with fail
      refine wp_region_all waiter [] (by kernel_rfl) (by kernel_rfl) ?_
      intro w1 hw1
      have d3 : ∀ u : ExtOf w1, u.to.cell? ⟨ga, k * 5 + 3, none⟩ = _ := fun u => (cell_block ((Ext.trans hw1 u.h).block hgl)).trans X3.out
      have d4 : ∀ u : ExtOf w1, u.to.cell? ⟨ga, k * 5 + 4, none⟩ = _ := fun u => (cell_block ((Ext.trans hw1 u.h).block hgl)).trans X4.out
      simp only [heads, List.take_succ_cons, List.take_zero, List.contains_cons, List.contains_nil, Nat.reduceBEq, Bool.or_false, Bool.false_eq_true, Nat.reduceAdd, Bool.or_true, Bool.true_or, ↓reduceIte, Bool.or_self]
      repeat (go_big_quiet_step (fail))
      refine wpQuiet_nil ?_
      refine wpX_done (by kernel_rfl) ?_
      intro w3 e3 e3'
      try simp only [Act.put, List.getElem_toArray, List.getElem_cons_succ, List.getElem_cons_zero, List.setIfInBounds_toArray, List.set_cons_zero, List.set_cons_succ]
      clear d3 d4 hw1
      have oa3 := own_ext hoa e3
      have ob3 := own_ext hob e3
      obtain ⟨cura, hra⟩ := own_row oa3
      obtain ⟨curb, hrb⟩ := own_row ob3
      have x4 : w3.cell? ⟨ga, k * 5 + 4, none⟩ = _ := (cell_block (e3.block hgl)).trans X4.out
      have f4 := frozen_of_row w3 ga (k * 5 + 4) _ _ hra
      obtain ⟨vb, hvb⟩ := HXB.out
      have hvb3 := (cell_block (e3.block hglb)).trans hvb
      have gb4 : ∀ v, (w3.setCell ⟨ga, k * 5 + 4, none⟩ v).cell? ⟨gb, k * 5 + 4, none⟩ = some vb := fun v => (cell_block (Below.heap_setCell _ ⟨ga, k * 5 + 4, none⟩ _ _ (by show gb ≠ ga; exact hgne.symm))).trans hvb3
      have fb4 : ∀ v, (w3.setCell ⟨ga, k * 5 + 4, none⟩ v).frozen? ⟨gb, k * 5 + 4, none⟩ = false := fun v => frozen_of_row _ _ _ _ _ ((Below.heap_setCell _ ⟨ga, k * 5 + 4, none⟩ _ _ (by show gb ≠ ga; exact hgne.symm)).trans hrb)
      have oaF := ownsRow_setCell_other (own_set oa3 (k * 5 + 4) (.int .i64 0)) (a := ⟨gb, k * 5 + 4, none⟩) (by simp [Value.ownBlock, hgne]) (.int .i64 0)
      have obF := own_set (ownsRow_setCell_other ob3 (a := ⟨ga, k * 5 + 4, none⟩) (by simp [Value.ownBlock, hgne.symm]) (.int .i64 0)) (k * 5 + 4) (.int .i64 0)
      rw [HSA.out] at oaF
      rw [HSB.out] at obF
      have hw1l : w.heap.size ≤ gb := by omega
      have ErF : Ext w ((w3.setCell ⟨ga, k * 5 + 4, none⟩ (.int .i64 0)).setCell ⟨gb, k * 5 + 4, none⟩ (.int .i64 0)) := Below.setCell (Below.setCell (Ext.trans er e3) (p := ⟨ga, k * 5 + 4, none⟩) hga _) (p := ⟨gb, k * 5 + 4, none⟩) hw1l _
      clear hoa hob er e3 oa3 ob3 hra hrb hvb hvb3 HSA HSB X3 X4 HXB
      go_wp2_with fail
      generalize (w3.setCell ⟨ga, k * 5 + 4, none⟩ (.int .i64 0)).setCell ⟨gb, k * 5 + 4, none⟩ (.int .i64 0) = wF at *
      clear x4 f4 gb4 fb4
      obtain ⟨hla, hca⟩ := own_cells oaF
      obtain ⟨hlb, hcb⟩ := own_cells obF
      have HCA := Lib.hid hca
      have HCB := Lib.hid hcb
      clear hca hcb
      have hne := neq_ln y0 y1 y2 y3 0
      refine wp_region_all waiter [] (by kernel_rfl) (by kernel_rfl) ?_
      intro w1 hw1
      have ld1 : ∀ w', Cls w1 w' → (loadVar 149 ⟨ga, k * 5, none⟩).run Tryz.prog w' = .ok (.agg #[.int .u8 y0, .int .u8 y1, .int .u8 y2, .int .i64 y3, .int .i64 0]) w' := by
        rintro _ ⟨u, rfl⟩
        have h1 := load_ln u.to ga k (zk (k + 1) S) (by rw [zk_len]; exact hkn) (fun j v hv => by rw [cell_block ((Ext.trans hw1 u.h).block hla)]; exact HCA.out j v hv)
        rw [HZ1.out] at h1
        exact h1
      have ld2 : ∀ w', Cls w1 w' → (loadVar 149 ⟨gb, k * 5, none⟩).run Tryz.prog w' = .ok (.agg #[.int .u8 y0, .int .u8 y1, .int .u8 y2, .int .i64 y3, .int .i64 0]) w' := by
        rintro _ ⟨u, rfl⟩
        have h1 := load_ln u.to gb k (zk (k + 1) S') (by rw [zk_len]; exact hkn') (fun j v hv => by rw [cell_block ((Ext.trans hw1 u.h).block hlb)]; exact HCB.out j v hv)
        rw [HZ2.out] at h1
        exact h1
      simp only [heads, List.take_succ_cons, List.take_zero, List.contains_cons, List.contains_nil, Nat.reduceBEq, Bool.or_false, Bool.false_eq_true, Nat.reduceAdd, Bool.or_true, Bool.true_or, ↓reduceIte, Bool.or_self]
      repeat (first | go_big_quiet_step (fail) | (go_big_quiet_want; (first | refine quiet_load 149 _ _ _ rfl rfl ld1 ?_ | refine quiet_load 149 _ _ _ rfl rfl ld2 ?_); go_big_quiet_on; simp only [Act.put, List.setIfInBounds_toArray, List.set_cons_zero, List.set_cons_succ]))
      refine wpQuiet_nil ?_
      refine wpX_done (by kernel_rfl) ?_
      intro w5 e5 e5'
      try simp only [Act.put, List.getElem_toArray, List.getElem_cons_succ, List.getElem_cons_zero, List.setIfInBounds_toArray, List.set_cons_zero, List.set_cons_succ]
      clear ld1 ld2 hw1 HCA HCB HZ1 HZ2
      go_wp2
      exact ⟨⟨k + 1, by omega, by go_num, own_ext oaF e5, own_ext obF e5, Ext.trans ErF e5⟩, by simp [intOf]; omega⟩
    · have hk' : k = S.length := by omega
      subst hk'
      clear hoa hob
      go_wp2
      go_ret
      exact ⟨rfl, er⟩
end Go.Proofs.YtahdgojcebajkaaGreat

namespace Go.Proofs.YtahdgojcebajkaaGreat
open Go.RowKit Go.Rg Go.BigFrame

/-- Four rows, one behind the other. -/
theorem rows4 (w : World) (a0 a1 a2 a3 : Array Value) (t0 t1 t2 t3 : TypeId) (W : World) (hW : W = ((((w.alloc (.cells a0 t0)).alloc (.cells a1 t1)).alloc (.cells a2 t2)).alloc (.cells a3 t3))) :
    Ext w W ∧ W.heap[w.heap.size]? = some (.cells a0 t0 (0, 0)) ∧ W.heap[w.heap.size + 1]? = some (.cells a1 t1 (0, 0)) ∧ W.heap[w.heap.size + 1 + 1]? = some (.cells a2 t2 (0, 0)) ∧ W.heap[w.heap.size + 1 + 1 + 1]? = some (.cells a3 t3 (0, 0)) := by
  have one : ∀ (w : World) (a : Array Value) (t : TypeId), Ext w (w.alloc (.cells a t)) ∧ (w.alloc (.cells a t)).heap.size = w.heap.size + 1 ∧ (w.alloc (.cells a t)).heap[w.heap.size]? = some (.cells a t (0, 0)) := fun w a t => ⟨ext_alloc w _, size_alloc w _, heap_alloc_top w _⟩
  obtain ⟨e0, s0, h0⟩ := one w a0 t0
  generalize w.alloc (.cells a0 t0) = w1 at *
  obtain ⟨e1, s1, h1⟩ := one w1 a1 t1
  generalize w1.alloc (.cells a1 t1) = w2 at *
  obtain ⟨e2, s2, h2⟩ := one w2 a2 t2
  generalize w2.alloc (.cells a2 t2) = w3 at *
  obtain ⟨e3, s3, h3⟩ := one w3 a3 t3
  generalize w3.alloc (.cells a3 t3) = w4 at *
  subst hW
  rw [s0] at s1 h1
  rw [s1] at s2 h2
  rw [s2] at s3 h3
  have x2 := Ext.trans e2 e3
  have x1 := Ext.trans e1 x2
  exact ⟨Ext.trans e0 x1, x1.at h0, x2.at h1, e3.at h2, h3⟩

end Go.Proofs.YtahdgojcebajkaaGreat

namespace Go.Proofs.YtahdgojcebajkaaGreat
open Go.RowKit Go.Rg Go.BigFrame

/-- The sum of the first parties' positions. -/
def sumP (L : Led) (c : Int) : Nat → Int
  | 0 => 0
  | n + 1 => sumP L c n + posR L ((n + 1 : Nat) : Int) c
theorem sumP_bd {L : Led} (hwf : WF L) (c : Int) : ∀ n : Nat, -(70368744177664 * (n : Int)) ≤ sumP L c n ∧ sumP L c n ≤ 70368744177664 * (n : Int)
  | 0 => by simp [sumP]
  | n + 1 => by
    have h1 := sumP_bd hwf c n
    have h2 := posR_bd hwf ((n + 1 : Nat) : Int) c
    simp only [sumP]
    omega

/-- Three rows, one behind the other. -/
theorem rows3 (w : World) (a0 a1 a2 : Array Value) (t0 t1 t2 : TypeId) (W : World) (hW : W = (((w.alloc (.cells a0 t0)).alloc (.cells a1 t1)).alloc (.cells a2 t2))) :
    Ext w W ∧ W.heap[w.heap.size]? = some (.cells a0 t0 (0, 0)) ∧ W.heap[w.heap.size + 1]? = some (.cells a1 t1 (0, 0)) ∧ W.heap[w.heap.size + 1 + 1]? = some (.cells a2 t2 (0, 0)) := by
  obtain ⟨E, k0, k1, k2, _⟩ := rows4 w a0 a1 a2 #[] t0 t1 t2 0 _ rfl
  have e0 := ext_alloc w (.cells a0 t0)
  have s0 := size_alloc w (.cells a0 t0)
  have h0 := heap_alloc_top w (.cells a0 t0)
  generalize w.alloc (.cells a0 t0) = w1 at *
  have e1 := ext_alloc w1 (.cells a1 t1)
  have s1 := size_alloc w1 (.cells a1 t1)
  have h1 := heap_alloc_top w1 (.cells a1 t1)
  generalize w1.alloc (.cells a1 t1) = w2 at *
  have e2 := ext_alloc w2 (.cells a2 t2)
  have h2 := heap_alloc_top w2 (.cells a2 t2)
  subst hW
  rw [s0] at s1 h1
  rw [s1] at h2
  exact ⟨Ext.trans e0 (Ext.trans e1 e2), e2.at (e1.at h0), e2.at h1, h2⟩

set_option maxRecDepth 100000 in
set_option maxHeartbeats 6400000 in
theorem even_any (p m p' m' : Nat) (x x' : Option Addr) (L L' : Led) (pt : List Bool) (w : World) (h : IsLed w p m L) (hwf : WF L) (h' : IsLed w p' m' L') (hwf' : WF L') (hk : L.lines.map klLn = L'.lines.map klLn)
    (hpt : pt.length = 17) (hsum : ∀ c : Nat, 1 ≤ c → c ≤ 8 → sumP L (c : Int) 16 = 0) (hp : ∀ q c : Nat, 1 ≤ q → q ≤ 16 → 1 ≤ c → c ≤ 8 → pt.getD q false = false → posR L (q : Int) (c : Int) = posR L' (q : Int) (c : Int)) :
    Calls Tryz.prog 29 #[.agg #[.pointer (some ⟨p, 0, none⟩), .pointer x], .agg #[.pointer (some ⟨p', 0, none⟩), .pointer x'], .agg (pt.map Value.bool).toArray] w (Ret (.bool true) w) := by
  have hcell : ∀ (W : World) (g q : Nat), q ≤ 16 → W.heap[g]? = some (.cells (pt.map Value.bool).toArray 64 (0, 0)) → W.cell? ⟨g, q, none⟩ = some (.bool (pt.getD q false)) := fun W g q hq hr =>
    cell_at (j := q) hr (by
      have hq2 : q < pt.length := by omega
      rw [List.getElem?_toArray, List.getElem?_map, List.getElem?_eq_getElem hq2, List.getD_eq_getElem?_getD, List.getElem?_eq_getElem hq2]
      rfl)
  have HP := Lib.hid hp
  have HCELL := Lib.hid hcell
  clear hp hcell
  match pt, hpt with
  | [x0, x1, x2, x3, x4, x5, x6, x7, x8, x9, x10, x11, x12, x13, x14, x15, x16], _ =>
  simp only [List.map_cons, List.map_nil]
  obtain ⟨W, hW⟩ : ∃ W, W = (((w.alloc (.cells #[.pointer (some ⟨p, 0, none⟩), .pointer x] 38)).alloc (.cells #[.pointer (some ⟨p', 0, none⟩), .pointer x'] 38)).alloc (.cells #[.bool x0, .bool x1, .bool x2, .bool x3, .bool x4, .bool x5, .bool x6, .bool x7, .bool x8, .bool x9, .bool x10, .bool x11, .bool x12, .bool x13, .bool x14, .bool x15, .bool x16] 64)) := ⟨_, rfl⟩
  obtain ⟨E0, k0, k1, k2⟩ := rows3 w _ _ _ _ _ _ W hW
  have HCL := Lib.hid (fun (u : World) (q : Nat) (hq : q ≤ 16) (k : Ext W u) => HCELL.out u (w.heap.size + 1 + 1) q hq (k.at k2))
  generalize [x0, x1, x2, x3, x4, x5, x6, x7, x8, x9, x10, x11, x12, x13, x14, x15, x16] = pt at HP HCL
  have HW := Lib.hid hW
  have HL := Lib.hid (h.ext E0)
  have HL' := Lib.hid (h'.ext E0)
  have HK := Lib.hid hk
  have HS := Lib.hid hsum
  have F1 := Lib.hid (fun (q c : Int) u (k : IsLed u p m L) => pos_any p m L q c u k hwf)
  have F2 := Lib.hid (fun (q c : Int) u (k : IsLed u p' m' L') => pos_any p' m' L' q c u k hwf')
  clear hW h h' hk hsum HCELL
  go_enter Tryz.func29, Tryz.ntmps29
  go_wp2_with fail
  refine cast (congrArg (fun X => Code.wp _ _ _ _ X) HW.out) ?_
  clear HW k2
  go_loopw [7] (fun c wr => ∃ ck : Nat, 1 ≤ ck ∧ ck ≤ 9 ∧ c = .int .u8 ck ∧ Ext W wr) (fun c _ => 9 - (intOf c).toNat)
  case atStart => exact ⟨1, by omega, by omega, by first | rfl | go_num, Ext.refl _⟩
  case round =>
    obtain ⟨ck, hc1, hc2, rfl, er⟩ := hrel
    by_cases hc8 : ck ≤ 8
    · have hc8' : decide ((ck : Int) ≤ 8) = true := by rw [decide_eq_true_eq]; omega
      go_wp2_with fail
      go_loopw [8, 9, 10] (fun sv pv _ wr => ∃ pk : Nat, pk ≤ 16 ∧ pv = .int .u8 ((pk + 1 : Nat) : Int) ∧ sv = .int .i64 (sumP L (ck : Int) pk) ∧ Ext W wr) (fun _ pv _ _ => 17 - (intOf pv).toNat)
      case atStart => exact ⟨0, by omega, by first | rfl | go_num, by first | rfl | go_num, er⟩
      case round =>
        obtain ⟨pk, hp1, rfl, rfl, er2⟩ := hrel
        have hsb := sumP_bd hwf (ck : Int) pk
        by_cases hp16 : pk < 16
        · obtain ⟨qk, hqk⟩ : ∃ qk, qk = pk + 1 := ⟨_, rfl⟩
          have HS2 := Lib.hid (show sumP L (ck : Int) qk = sumP L (ck : Int) pk + posR L (qk : Int) (ck : Int) by rw [hqk]; rfl)
          have hq1 : 1 ≤ qk := by omega
          have hq2 : qk ≤ 16 := by omega
          have hpk : pk = qk - 1 := by omega
          rw [← hqk]
          have hp16' : decide ((qk : Int) ≤ 16) = true := by rw [decide_eq_true_eq]; omega
          have hpb := posR_bd hwf (qk : Int) (ck : Int)
          have hs1 : -1125899906842624 ≤ sumP L (ck : Int) pk := by omega
          have hs2 : sumP L (ck : Int) pk ≤ 1125899906842624 := by omega
          have HQK := Lib.hid hqk
          generalize sumP L (ck : Int) pk = sm at *
          generalize hps : posR L (qk : Int) (ck : Int) = ps at *
          have HPS := Lib.hid hps
          clear hqk hpk hsb hp1 hp16 hps
          have z0 := cell_at (j := 0) (er2.at k0) rfl
          have z1 := cell_at (j := 0) (er2.at k1) rfl
          have zp := HCL.out _ qk hq2 er2
          go_wp2_with fail
          refine (F1.out (qk : Int) (ck : Int) _ (HL.out.ext er2)).mono ?_
          rw [HPS.out]
          rintro e w5 ⟨rfl, e5⟩
          have er5 := Ext.trans er2 e5
          have hpi := HP.out qk ck hq1 hq2 hc1 hc8
          rw [HPS.out] at hpi
          have hj1 : (0 : Int) ≤ (qk : Int) := by omega
          have hj2 : (qk : Int) < 17 := by omega
          have zp := HCL.out _ qk hq2 er5
          have z1 := cell_at (j := 0) (er5.at k1) rfl
          generalize pt.getD qk false = b at *
          have HPI := Lib.hid hpi
          clear z0 hpi
          cases b with
          | true =>
            go_wp2
            exact ⟨⟨qk, hq2, by first | rfl | go_num, by rw [HS2.out], er5⟩, by simp [intOf]; have := HQK.out; omega⟩
          | false =>
            go_wp2_with fail
            refine (F2.out (qk : Int) (ck : Int) _ (HL'.out.ext er5)).mono ?_
            rw [show posR L' (qk : Int) (ck : Int) = ps from by first | exact (HPI.out rfl).symm | exact (HPI.out trivial).symm]
            rintro e w6 ⟨rfl, e6⟩
            clear zp z1
            go_wp2
            exact ⟨⟨qk, hq2, by first | rfl | go_num, by rw [HS2.out], Ext.trans er5 e6⟩, by simp [intOf]; have := HQK.out; omega⟩
        · have hp17 : pk = 16 := by omega
          subst hp17
          rw [HS.out ck hc1 hc8]
          clear hsb
          go_wp2
          exact ⟨⟨ck + 1, by omega, by omega, by first | rfl | go_num, er2⟩, by simp [intOf]; omega⟩
    · have hc9 : ck = 9 := by omega
      subst hc9
      have z0 := cell_at (j := 0) (er.at k0) rfl
      have z1 := cell_at (j := 0) (er.at k1) rfl
      go_wp2_with fail
      refine (sound_any p m p' m' L L' _ (HL.out.ext er) hwf (HL'.out.ext er) hwf' HK.out).mono ?_
      rintro e w5 ⟨rfl, e5⟩
      go_wp2
      go_ret
      exact ⟨rfl, Ext.trans E0 (Ext.trans er e5)⟩
end Go.Proofs.YtahdgojcebajkaaGreat

namespace Go.Proofs.YtahdgojcebajkaaGreat
open Go.RowKit Go.Rg Go.BigFrame

theorem part_cell (w : World) (g j : Nat) (pt : List Bool) (h : w.heap[g]? = some (.cells (pt.map Value.bool).toArray 64 (0, 0))) (hj : j < pt.length) : w.cell? ⟨g, j, none⟩ = some (.bool (pt.getD j false)) :=
  cell_at (j := j) h (by
    rw [List.getElem?_toArray, List.getElem?_map, List.getElem?_eq_getElem hj, List.getD_eq_getElem?_getD, List.getElem?_eq_getElem hj]
    rfl)
theorem part_row (w : World) (g j : Nat) (pt : List Bool) (h : w.heap[g]? = some (.cells (pt.map Value.bool).toArray 64 (0, 0))) : (w.setCell ⟨g, j, none⟩ (.bool true)).heap[g]? = some (.cells ((pt.set j true).map Value.bool).toArray 64 (0, 0)) := by
  rw [heap_setCell_same w g j _ _ (.bool true) h]
  simp [List.map_set]

/-- A new row, its world named. -/
theorem wpList_newrow {P : Program} {ops : Array Oper} {Q : Exit → Act → World → Prop} {rest : List Oper} {o : Oper} {a : Act} {w : World} (hg : o.guard = none) (ty : TypeId) (hop : o.op = .alloc ty) (ob : Obj) (dst : Option Tmp) (hdst : o.dst = dst)
    (hm : (execOp a.eval o).run P w = .ok (.value (.pointer (some ⟨w.heap.size, 0, none⟩))) (w.alloc ob))
    (h : ∀ w' : World, Ext w w' → w'.heap[w.heap.size]? = some ob → wpList P ops Q rest (a.put dst (.pointer (some ⟨w.heap.size, 0, none⟩))) w') : wpList P ops Q (o :: rest) a w :=
  wpList_plain hg fun K hK => by
    unfold Oper.wp
    rw [hm, Oper.upon_value, hdst]
    exact hK _ _ (h _ (ext_alloc w ob) (heap_alloc_top w ob))

/-- A load that a guard lets by. -/
theorem wpList_load_want {P : Program} {ops : Array Oper} {Q : Exit → Act → World → Prop} {rest : List Oper} {o : Oper} {a : Act} {w : World} (ty : TypeId) (x : Operand) (v : Value) (p : Addr) (hw : Region.wanted o (yielded ops a.tmps) = true) (hop : o.op = .load ty x) (hx : a.eval x = .pointer (some p))
    (hr : (loadVar ty p).run P w = .ok v w) (h : wpList P ops Q rest (a.put o.dst v) w) : wpList P ops Q (o :: rest) a w :=
  wpList_want hw fun K hK => by
    unfold Oper.wp
    rw [run_load_at ty x v p hop hx hr]
    exact hK _ _ h
theorem part_load (w : World) (g : Nat) (pt : List Bool) (hl : pt.length = 17) (h : w.heap[g]? = some (.cells (pt.map Value.bool).toArray 64 (0, 0))) : (loadVar 64 ⟨g, 0, none⟩).run Tryz.prog w = .ok (.agg (pt.map Value.bool).toArray) w := by
  have hsz : ((pt.map Value.bool).toArray).size = 17 := by simp [hl]
  exact run_loadVar_row _ _ _ _ _ _ _ h Tryz.underlying64 rfl (by rw [hsz]; kernel_rfl)
end Go.Proofs.YtahdgojcebajkaaGreat

namespace Go.Proofs.YtahdgojcebajkaaGreat

/-! ### A currency's positions sum to 0 -/
def sT (x : Ln) (c : Int) : Nat → Int
  | 0 => 0
  | n + 1 => sT x c n + posT ((n + 1 : Nat) : Int) c x
theorem sT_eq (x : Ln) (c : Int) (h : endsOk x.1 = true) : ∀ n : Nat, sT x c n = if x.1.2.2 = c then (if x.1.1 ≤ (n : Int) then x.2.2 else 0) - (if x.1.2.1 ≤ (n : Int) then x.2.2 else 0) else 0
  | 0 => by
    unfold endsOk at h
    rw [decide_eq_true_eq] at h
    simp only [sT]
    split
    · rw [if_neg (by omega), if_neg (by omega)]; rfl
    · rfl
  | n + 1 => by
    have ih := sT_eq x c h n
    unfold endsOk at h
    rw [decide_eq_true_eq] at h
    simp only [sT]
    rw [ih]
    unfold posT
    by_cases hc : x.1.2.2 = c
    · rw [if_pos hc, if_pos hc, if_pos hc]
      generalize x.1.1 = a at *
      generalize x.1.2.1 = b at *
      generalize x.2.2 = v at *
      repeat' split
      all_goals omega
    · rw [if_neg hc, if_neg hc, if_neg hc]; rfl
theorem sumI_add (f g : Ln → Int) : ∀ l : Lines, sumI (l.map f) + sumI (l.map g) = sumI (l.map fun x => f x + g x)
  | [] => by simp [sumI]
  | x :: l => by
    have := sumI_add f g l
    simp only [List.map_cons, sumI]
    omega
theorem sumP_eq (L : Led) (c : Int) : ∀ n : Nat, sumP L c n = sumI (L.lines.map fun x => sT x c n)
  | 0 => by
    simp only [sumP, sT]
    induction L.lines with
    | nil => rfl
    | cons x l ih => simp only [List.map_cons, sumI]; omega
  | n + 1 => by
    simp only [sumP, sT]
    rw [sumP_eq L c n]
    unfold posR posL
    exact sumI_add _ _ _
theorem sumP_zero {L : Led} (hwf : WF L) (c : Int) : sumP L c 16 = 0 := by
  rw [sumP_eq]
  have h : ∀ l : Lines, (∀ x ∈ l, endsOk x.1 = true) → sumI (l.map fun x => sT x c 16) = 0 := by
    intro l
    induction l with
    | nil => intro _; rfl
    | cons x l ih =>
      intro h
      have h1 := ih (fun y hy => h y (by simp [hy]))
      have h2 := h x (by simp)
      simp only [List.map_cons, sumI]
      rw [h1, sT_eq x c h2]
      unfold endsOk at h2
      rw [decide_eq_true_eq] at h2
      repeat' split
      all_goals omega
  exact h _ (fun x hx => (hwf.ends x hx).1)

/-! ### Chains -/
/-- What is left in a book after a fill was there before it. -/
theorem take_sub {B : Bk} (hs : SeqN B) {seq n s : Int} {o' : Off} (h : findR (takeR B seq n).2.offs s = some o') :
    ∃ o, findR B.offs s = some o ∧ o.owner = o'.owner ∧ o.sell = o'.sell ∧ o.buy = o'.buy ∧ o.num = o'.num ∧ o.den = o'.den := by
  have hm := (findR_mem h).1
  have hq := (findR_mem h).2
  have hin : ∀ o ∈ B.offs, o.seq = s → findR B.offs s = some o := fun o ho e => by rw [← e]; exact find_of_mem hs ho
  unfold takeR at hm
  cases hf : findR B.offs seq with
  | none => rw [hf] at hm; exact ⟨o', hin o' hm hq, rfl, rfl, rfl, rfl, rfl⟩
  | some x =>
    rw [hf] at hm
    simp only at hm
    have hx := findR_mem hf
    split at hm
    · exact ⟨o', hin o' hm hq, rfl, rfl, rfl, rfl, rfl⟩
    · split at hm
      · exact ⟨o', hin o' (List.mem_of_mem_eraseIdx hm) hq, rfl, rfl, rfl, rfl, rfl⟩
      · rcases List.mem_or_eq_of_mem_set hm with hm | rfl
        · exact ⟨o', hin o' hm hq, rfl, rfl, rfl, rfl, rfl⟩
        · exact ⟨x, hin x hx.1 hq, rfl, rfl, rfl, rfl, rfl⟩

/-- Whom a chain's fills were taken of. -/
theorem chain_offs {get give : Int} {falls : Bool} : ∀ {l : List Fl} {L : Led} {B : Bk} {n most : Int} {L' : Led} {B' : Bk}, OkB B → SeqN B → ChainOk get give falls l L B n most L' B' →
    ∀ f ∈ l, ∃ o, findR B.offs f.1 = some o ∧ o.sell = get ∧ o.buy = give ∧ o.owner ≠ f.2.1 ∧ 1 ≤ o.owner ∧ o.owner ≤ 16 ∧ FairP f.2.2.2.1 f.2.2.2.2 o.num o.den
  | [], _, _, _, _, _, _, _, _, _ => by simp
  | g :: l, L, B, _, _, _, _, hok, hsn, ⟨o, L1, B1, hst, hr⟩ => by
    intro f hf
    rcases List.mem_cons.1 hf with rfl | hf
    · obtain ⟨j, hj, hjo, _⟩ := hst.best
      have hm := mem_bestR (List.getElem_mem hj)
      rw [hjo] at hm
      have hoo := hok o hm.1
      unfold offOk at hoo
      rw [decide_eq_true_eq] at hoo
      exact ⟨o, hst.fill.fnd, hm.2.1, hm.2.2, hst.fill.own, hoo.1, hoo.2.1, hst.fill.fair⟩
    · have hdo := hst.fill.doo
      have hok2 := ok_do (L := L) hok g.1 g.2.1 g.2.2.1 g.2.2.2.1
      have hsn2 := seqN_do (L := L) hsn g.1 g.2.1 g.2.2.1 g.2.2.2.1
      rw [hdo] at hok2 hsn2
      obtain ⟨o1, h1, h2, h3, h4, h5, h6, h7⟩ := chain_offs hok2 hsn2 hr f hf
      rw [hst.fill.bk] at h1
      obtain ⟨o2, k1, k2, k3, k4, k5, k6⟩ := take_sub hsn h1
      exact ⟨o2, k1, by rw [k3]; exact h2, by rw [k4]; exact h3, by rw [k2]; exact h4, by rw [k2]; exact h5, by rw [k2]; exact h6, by rw [k5, k6]; exact h7⟩

theorem chain_lims {get give : Int} {falls : Bool} : ∀ {l : List Fl} {L : Led} {B : Bk} {n most : Int} {L' : Led} {B' : Bk}, ChainOk get give falls l L B n most L' B' → L'.lines.map klLn = L.lines.map klLn
  | [], _, _, _, _, _, _, ⟨h, _⟩ => by rw [h]
  | _ :: _, _, _, _, _, _, _, ⟨_, _, _, hst, hr⟩ => (chain_lims hr).trans hst.fill.lims

theorem chain_wf' {get give : Int} {falls : Bool} : ∀ {l : List Fl} {L : Led} {B : Bk} {n most : Int} {L' : Led} {B' : Bk}, WF L → ChainOk get give falls l L B n most L' B' → WF L'
  | [], _, _, _, _, _, _, hw, h => h.1 ▸ hw
  | _ :: _, _, _, _, _, _, _, _, ⟨_, _, _, h1, h2⟩ => chain_wf' h1.fill.wf h2
theorem sum_bd (f : Fl → Int) : ∀ l : List Fl, (∀ x ∈ l, 0 ≤ f x ∧ f x ≤ 1099511627776) → 0 ≤ sumI (l.map f) ∧ sumI (l.map f) ≤ 1099511627776 * (l.length : Int)
  | [], _ => by simp [sumI]
  | x :: l, h => by
    have h1 := sum_bd f l (fun y hy => h y (by simp [hy]))
    have h2 := h x (by simp)
    simp only [List.map_cons, sumI, List.length_cons]
    omega
theorem sum_take (f : Fl → Int) (l : List Fl) (k : Nat) (hk : k < l.length) : sumI ((l.take (k + 1)).map f) = sumI ((l.take k).map f) + f (l[k]'hk) := by
  rw [List.take_succ_eq_append_getElem hk, List.map_append, sumI_append]
  simp [sumI]

/-- Who took no part stands as they stood. -/
theorem chain_pos {get give fr to q c : Int} {falls : Bool} (hq1 : q ≠ fr) (hq2 : q ≠ to) : ∀ {l : List Fl} {L : Led} {B : Bk} {n most : Int} {L' : Led} {B' : Bk}, SeqN B → ChainOk get give falls l L B n most L' B' → (∀ f ∈ l, f.2.1 = fr ∧ f.2.2.1 = to) →
    (∀ f ∈ l, ∀ o, findR B.offs f.1 = some o → o.owner ≠ q) → posR L' q c = posR L q c
  | [], _, _, _, _, _, _, _, ⟨h, _⟩, _, _ => by rw [h]
  | g :: l, L, B, _, _, _, _, hsn, ⟨o, L1, B1, hst, hr⟩, hft, hown => by
    have hdo := hst.fill.doo
    have hsn2 := seqN_do (L := L) hsn g.1 g.2.1 g.2.2.1 g.2.2.2.1
    rw [hdo] at hsn2
    have ih := chain_pos (c := c) hq1 hq2 hsn2 hr (fun f hf => hft f (by simp [hf])) (fun f hf o1 ho1 => by
      rw [hst.fill.bk] at ho1
      obtain ⟨o2, k1, k2, _⟩ := take_sub hsn ho1
      rw [← k2]
      exact hown f (by simp [hf]) o2 k1)
    have hp := hst.fill.pos q c
    have h1 := hown g (by simp) o hst.fill.fnd
    obtain ⟨t1, t2⟩ := hft g (by simp)
    rw [ih, hp, t1, t2]
    have e1 : ¬ q = o.owner := fun e => h1 e.symm
    unfold mvP
    simp [e1, hq1, hq2]

/-- What the giver gave. -/
theorem chain_giver {get give fr : Int} {falls : Bool} (hgg : get ≠ give) : ∀ {l : List Fl} {L : Led} {B : Bk} {n most : Int} {L' : Led} {B' : Bk}, ChainOk get give falls l L B n most L' B' → (∀ f ∈ l, f.2.1 = fr) →
    posR L' fr give = posR L fr give + -gvS l
  | [], _, _, _, _, _, _, ⟨h, _⟩, _ => by rw [h]; simp [gvS, sumI]
  | g :: l, L, B, _, _, _, _, ⟨o, L1, B1, hst, hr⟩, hft => by
    have ih := chain_giver hgg hr (fun f hf => hft f (by simp [hf]))
    have hp := hst.fill.pos fr give
    have t1 := hft g (by simp)
    have ho := hst.fill.own
    rw [t1] at ho
    obtain ⟨j, hj, hjo, _⟩ := hst.best
    have hm := mem_bestR (List.getElem_mem hj)
    rw [hjo] at hm
    rw [t1, hm.2.1, hm.2.2] at hp
    unfold mvP at hp
    rw [if_neg (fun e => hgg e.symm), if_pos rfl, if_neg (fun e => ho e.symm), if_pos rfl] at hp
    rw [ih, hp]
    unfold gvS
    simp only [List.map_cons, sumI]
    omega
end Go.Proofs.YtahdgojcebajkaaGreat
