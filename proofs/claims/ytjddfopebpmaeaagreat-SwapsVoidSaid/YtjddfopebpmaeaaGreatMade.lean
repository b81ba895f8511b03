/- The walks of Great and of what makes a house of a world: acts on a ledger, offers that are placed. -/
import Derived.Test.YtjddfopebpmaeaaGreatWf
namespace Go.Proofs.YtjddfopebpmaeaaGreat
open Go.RowKit Go.Rg Go.BigFrame

/-- A slice that came in: its cells are known. -/
def ArgSl (w : World) (size : Nat) (v : Value) (n : Nat) (xs : List Value) : Prop :=
  ∃ A cap, v = .slice A n cap ∧ n ≤ cap ∧ cap ≤ maxLen ∧ xs.length = n * size ∧ (n = 0 ∨ ∃ g off, A = some ⟨g, off, none⟩ ∧ g < w.heap.size ∧ ∀ j u, xs[j]? = some u → w.cell? ⟨g, off + j, none⟩ = some u)
theorem ArgSl.ext {w w' : World} {size n : Nat} {v : Value} {xs : List Value} (h : ArgSl w size v n xs) (k : Ext w w') : ArgSl w' size v n xs := by
  obtain ⟨A, cap, hv, h1, h2, h3, h4⟩ := h
  refine ⟨A, cap, hv, h1, h2, h3, ?_⟩
  rcases h4 with h4 | ⟨g, off, hA, hlt, hc⟩
  · exact .inl h4
  · refine .inr ⟨g, off, hA, Nat.lt_of_lt_of_le hlt k.size, fun j u hu => ?_⟩
    rw [cell_block (k.block hlt)]
    exact hc j u hu

/-- An act on a ledger. -/
structure Act5 where
  kind : Int
  a : Int
  b : Int
  c : Int
  n : Int
def Act5.cells (x : Act5) : List Value := [.int .u8 x.kind, .int .u8 x.a, .int .u8 x.b, .int .u8 x.c, .int .i64 x.n]
def actCells (l : List Act5) : List Value := l.flatMap Act5.cells
def Act5.ok (x : Act5) : Prop := 0 ≤ x.kind ∧ x.kind ≤ 255 ∧ x.n ≤ 9223372036854775807

theorem actCells_at (l : List Act5) (k j : Nat) (hk : k < l.length) (hj : j < 5) : (actCells l)[k * 5 + j]? = (l[k]'hk).cells[j]? := by
  induction l generalizing k with
  | nil => simp at hk
  | cons o l ih =>
    have h7 : (Act5.cells o).length = 5 := rfl
    cases k with
    | zero =>
      simp only [actCells, List.flatMap_cons, Nat.zero_mul, Nat.zero_add, List.getElem_cons_zero]
      rw [List.getElem?_append_left (by rw [h7]; exact hj)]
    | succ k =>
      have := ih k (by simpa using hk)
      simp only [actCells, List.flatMap_cons, List.getElem_cons_succ] at this ⊢
      rw [List.getElem?_append_right (by rw [h7]; omega), h7, show (k + 1) * 5 + j - 5 = k * 5 + j by omega]
      exact this

theorem load_act (w : World) (g off k : Nat) (l : List Act5) (hk : k < l.length) (h : ∀ j u, (actCells l)[j]? = some u → w.cell? ⟨g, off + j, none⟩ = some u) :
    (loadVar 106 ⟨g, off + k * 5, none⟩).run Tryz.prog w = .ok (.agg #[.int .u8 (l[k]'hk).kind, .int .u8 (l[k]'hk).a, .int .u8 (l[k]'hk).b, .int .u8 (l[k]'hk).c, .int .i64 (l[k]'hk).n]) w :=
  run_loadVar_part w g (off + k * 5) 106 (l[k]'hk).cells _ (fun j u hu => by
    have hj : j < 5 := (List.getElem?_eq_some_iff.1 hu).1
    rw [Nat.add_assoc]
    exact h _ _ ((actCells_at l k j hk hj).trans hu)) Tryz.underlying106 rfl (by kernel_rfl)

def stepA (L : Led) (x : Act5) : Led :=
  if x.kind.tmod 8 = 0 then (openR L x.a).2
  else if x.kind.tmod 8 = 1 ∨ x.kind.tmod 8 = 2 then (trustR L x.a x.b x.c x.n).2
  else if x.kind.tmod 8 = 3 ∨ x.kind.tmod 8 = 4 ∨ x.kind.tmod 8 = 5 then (pushR L x.a x.b x.c x.n).2
  else if x.kind.tmod 8 = 6 then (forgiveR L x.a x.b x.c x.n).2
  else L
def madeL (l : List Act5) : Led := l.foldl stepA led0
theorem madeL_succ (l : List Act5) (k : Nat) (hk : k < l.length) : madeL (l.take (k + 1)) = stepA (madeL (l.take k)) (l[k]'hk) := by
  unfold madeL
  rw [List.take_succ_eq_append_getElem hk, List.foldl_append]
  rfl
theorem wf_step {L : Led} (h : WF L) (hl : L.par.length = 17) (x : Act5) : WF (stepA L x) := by
  unfold stepA
  split
  · exact wf_open h hl _
  · split
    · exact wf_trust h _ _ _ _
    · split
      · exact wf_push h _ _ _ _
      · split
        · exact wf_forgive h _ _ _ _
        · exact h


set_option maxRecDepth 100000 in
set_option maxHeartbeats 3200000 in
theorem made3_any (v : Value) (l : List Act5) (w : World) (h : ArgSl w 5 v l.length (actCells l)) (hok : ∀ x ∈ l, x.ok) :
    Calls Tryz.prog 41 #[v] w (fun e w' => RetLed (madeL l) w e w' ∧ WF (madeL l)) := by
  obtain ⟨A, cap, rfl, h1, h2, h3, h4⟩ := h
  have hn63 : (l.length : Int) ≤ 9223372036854775807 := by unfold maxLen at h2; omega
  go_enter Tryz.func41, Tryz.ntmps41
  go_wp2_with fail
  refine (new_any _).mono ?_
  rintro e w1 ⟨p, m, rfl, e1, hL1, hp1, hm1⟩
  go_wp2
  go_loopw [4] (fun i wr => ∃ k : Nat, k ≤ l.length ∧ i = .int .i64 k ∧ Ext w wr ∧ IsLed wr p m (madeL (l.take k)) ∧ WF (madeL (l.take k))) (fun i _ => l.length - (intOf i).toNat)
  case atStart => exact ⟨0, Nat.zero_le _, rfl, e1, hL1, wf_led0⟩
  case round =>
    obtain ⟨k, hk, rfl, er, hL, hwf⟩ := hrel
    by_cases hkn : k < l.length
    · rcases h4 with h4 | ⟨g, off, rfl, hlt, hcell⟩
      · omega
      have hld := load_act wr g off k l hkn (fun j u hu => by rw [cell_block (er.block hlt)]; exact hcell j u hu)
      have hxo := hok _ (List.getElem_mem hkn)
      have hsu := madeL_succ l k hkn
      have hwn := wf_step hwf hL.len (l[k]'hkn)
      rw [← hsu] at hwn
      unfold stepA at hsu
      generalize madeL (l.take k) = L at *
      generalize hLn : madeL (l.take (k + 1)) = Ln at *
      generalize (l[k]'hkn) = x at *
      obtain ⟨kind, xa, xb, xc, xn⟩ := x
      obtain ⟨ok1, ok2, ok3⟩ := hxo
      simp only at ok1 ok2 ok3 hsu hld
      have HN := Lib.hid hLn
      clear hLn hok hcell
      have hz := heap_alloc_top wr (.cells #[.int .u8 0, .int .u8 0, .int .u8 0, .int .u8 0, .int .i64 0] 106)
      have ez := ext_alloc wr (.cells #[.int .u8 0, .int .u8 0, .int .u8 0, .int .u8 0, .int .i64 0] 106)
      have hrem : kind.tmod 8 = 0 ∨ kind.tmod 8 = 1 ∨ kind.tmod 8 = 2 ∨ kind.tmod 8 = 3 ∨ kind.tmod 8 = 4 ∨ kind.tmod 8 = 5 ∨ kind.tmod 8 = 6 ∨ kind.tmod 8 = 7 := by
        rw [Int.tmod_eq_emod_of_nonneg ok1]
        omega
      rcases hrem with hr | hr | hr | hr | hr | hr | hr | hr
      · rw [hr] at hsu
        simp only [Int.reduceEq, ↓reduceIte, false_or, or_false, or_true, true_or] at hsu
        have HS := Lib.hid hsu
        clear hsu
        go_wp2_with (first
          | (refine wpList_load_at rfl 106 _ _ _ rfl rfl hld ?_)
          | (refine wpList_row rfl rfl 106 _ _ rfl wr.heap.size _ rfl rfl 106 _ hz (by kernel_rfl) (by rfl) (by rfl) ?_; intro w9 hb9 ho9 hs9; have e9 : Ext wr w9 := hb9 _ _ (Nat.le_refl _) ez; have c0 := cell_at (j := 0) hs9 rfl; have c1 := cell_at (j := 1) hs9 rfl; have c2 := cell_at (j := 2) hs9 rfl; have c3 := cell_at (j := 3) hs9 rfl; have c4 := cell_at (j := 4) hs9 rfl)
          | fail)
        refine (open_any p m L xa _ (hL.ext e9)).mono ?_
        rintro e w10 ⟨rfl, k10, hL10⟩
        rw [← HS.out] at hL10
        have E10 : Ext w w10 := (Keep.trans_fresh (S := []) (Keep.of_ext (Ext.trans er e9)) k10 (fun x hx => by simp at hx; right; omega)).ext
        clear k10
        go_wp2
        exact ⟨⟨k + 1, by omega, by go_num, E10, by rw [HN.out]; exact hL10, by rw [HN.out]; exact hwn⟩, by simp [intOf]; omega⟩
      · rw [hr] at hsu
        simp only [Int.reduceEq, ↓reduceIte, false_or, or_false, or_true, true_or] at hsu
        have HS := Lib.hid hsu
        clear hsu
        go_wp2_with (first
          | (refine wpList_load_at rfl 106 _ _ _ rfl rfl hld ?_)
          | (refine wpList_row rfl rfl 106 _ _ rfl wr.heap.size _ rfl rfl 106 _ hz (by kernel_rfl) (by rfl) (by rfl) ?_; intro w9 hb9 ho9 hs9; have e9 : Ext wr w9 := hb9 _ _ (Nat.le_refl _) ez; have c0 := cell_at (j := 0) hs9 rfl; have c1 := cell_at (j := 1) hs9 rfl; have c2 := cell_at (j := 2) hs9 rfl; have c3 := cell_at (j := 3) hs9 rfl; have c4 := cell_at (j := 4) hs9 rfl)
          | fail)
        refine (trust_any p m L xa xb xc xn _ (hL.ext e9) hwf).mono ?_
        rintro e w10 ⟨rfl, k10, hL10⟩
        rw [← HS.out] at hL10
        have E10 : Ext w w10 := (Keep.trans_fresh (S := []) (Keep.of_ext (Ext.trans er e9)) k10 (fun x hx => by simp at hx; right; omega)).ext
        clear k10
        go_wp2
        exact ⟨⟨k + 1, by omega, by go_num, E10, by rw [HN.out]; exact hL10, by rw [HN.out]; exact hwn⟩, by simp [intOf]; omega⟩
      · rw [hr] at hsu
        simp only [Int.reduceEq, ↓reduceIte, false_or, or_false, or_true, true_or] at hsu
        have HS := Lib.hid hsu
        clear hsu
        go_wp2_with (first
          | (refine wpList_load_at rfl 106 _ _ _ rfl rfl hld ?_)
          | (refine wpList_row rfl rfl 106 _ _ rfl wr.heap.size _ rfl rfl 106 _ hz (by kernel_rfl) (by rfl) (by rfl) ?_; intro w9 hb9 ho9 hs9; have e9 : Ext wr w9 := hb9 _ _ (Nat.le_refl _) ez; have c0 := cell_at (j := 0) hs9 rfl; have c1 := cell_at (j := 1) hs9 rfl; have c2 := cell_at (j := 2) hs9 rfl; have c3 := cell_at (j := 3) hs9 rfl; have c4 := cell_at (j := 4) hs9 rfl)
          | fail)
        refine (trust_any p m L xa xb xc xn _ (hL.ext e9) hwf).mono ?_
        rintro e w10 ⟨rfl, k10, hL10⟩
        rw [← HS.out] at hL10
        have E10 : Ext w w10 := (Keep.trans_fresh (S := []) (Keep.of_ext (Ext.trans er e9)) k10 (fun x hx => by simp at hx; right; omega)).ext
        clear k10
        go_wp2
        exact ⟨⟨k + 1, by omega, by go_num, E10, by rw [HN.out]; exact hL10, by rw [HN.out]; exact hwn⟩, by simp [intOf]; omega⟩
      · rw [hr] at hsu
        simp only [Int.reduceEq, ↓reduceIte, false_or, or_false, or_true, true_or] at hsu
        have HS := Lib.hid hsu
        clear hsu
        go_wp2_with (first
          | (refine wpList_load_at rfl 106 _ _ _ rfl rfl hld ?_)
          | (refine wpList_row rfl rfl 106 _ _ rfl wr.heap.size _ rfl rfl 106 _ hz (by kernel_rfl) (by rfl) (by rfl) ?_; intro w9 hb9 ho9 hs9; have e9 : Ext wr w9 := hb9 _ _ (Nat.le_refl _) ez; have c0 := cell_at (j := 0) hs9 rfl; have c1 := cell_at (j := 1) hs9 rfl; have c2 := cell_at (j := 2) hs9 rfl; have c3 := cell_at (j := 3) hs9 rfl; have c4 := cell_at (j := 4) hs9 rfl)
          | fail)
        refine (push_any p m L xa xb xc xn _ (hL.ext e9) hwf ok3).mono ?_
        rintro e w10 ⟨rfl, k10, hL10⟩
        rw [← HS.out] at hL10
        have E10 : Ext w w10 := (Keep.trans_fresh (S := []) (Keep.of_ext (Ext.trans er e9)) k10 (fun x hx => by simp at hx; right; omega)).ext
        clear k10
        go_wp2
        exact ⟨⟨k + 1, by omega, by go_num, E10, by rw [HN.out]; exact hL10, by rw [HN.out]; exact hwn⟩, by simp [intOf]; omega⟩
      · rw [hr] at hsu
        simp only [Int.reduceEq, ↓reduceIte, false_or, or_false, or_true, true_or] at hsu
        have HS := Lib.hid hsu
        clear hsu
        go_wp2_with (first
          | (refine wpList_load_at rfl 106 _ _ _ rfl rfl hld ?_)
          | (refine wpList_row rfl rfl 106 _ _ rfl wr.heap.size _ rfl rfl 106 _ hz (by kernel_rfl) (by rfl) (by rfl) ?_; intro w9 hb9 ho9 hs9; have e9 : Ext wr w9 := hb9 _ _ (Nat.le_refl _) ez; have c0 := cell_at (j := 0) hs9 rfl; have c1 := cell_at (j := 1) hs9 rfl; have c2 := cell_at (j := 2) hs9 rfl; have c3 := cell_at (j := 3) hs9 rfl; have c4 := cell_at (j := 4) hs9 rfl)
          | fail)
        refine (push_any p m L xa xb xc xn _ (hL.ext e9) hwf ok3).mono ?_
        rintro e w10 ⟨rfl, k10, hL10⟩
        rw [← HS.out] at hL10
        have E10 : Ext w w10 := (Keep.trans_fresh (S := []) (Keep.of_ext (Ext.trans er e9)) k10 (fun x hx => by simp at hx; right; omega)).ext
        clear k10
        go_wp2
        exact ⟨⟨k + 1, by omega, by go_num, E10, by rw [HN.out]; exact hL10, by rw [HN.out]; exact hwn⟩, by simp [intOf]; omega⟩
      · rw [hr] at hsu
        simp only [Int.reduceEq, ↓reduceIte, false_or, or_false, or_true, true_or] at hsu
        have HS := Lib.hid hsu
        clear hsu
        go_wp2_with (first
          | (refine wpList_load_at rfl 106 _ _ _ rfl rfl hld ?_)
          | (refine wpList_row rfl rfl 106 _ _ rfl wr.heap.size _ rfl rfl 106 _ hz (by kernel_rfl) (by rfl) (by rfl) ?_; intro w9 hb9 ho9 hs9; have e9 : Ext wr w9 := hb9 _ _ (Nat.le_refl _) ez; have c0 := cell_at (j := 0) hs9 rfl; have c1 := cell_at (j := 1) hs9 rfl; have c2 := cell_at (j := 2) hs9 rfl; have c3 := cell_at (j := 3) hs9 rfl; have c4 := cell_at (j := 4) hs9 rfl)
          | fail)
        refine (push_any p m L xa xb xc xn _ (hL.ext e9) hwf ok3).mono ?_
        rintro e w10 ⟨rfl, k10, hL10⟩
        rw [← HS.out] at hL10
        have E10 : Ext w w10 := (Keep.trans_fresh (S := []) (Keep.of_ext (Ext.trans er e9)) k10 (fun x hx => by simp at hx; right; omega)).ext
        clear k10
        go_wp2
        exact ⟨⟨k + 1, by omega, by go_num, E10, by rw [HN.out]; exact hL10, by rw [HN.out]; exact hwn⟩, by simp [intOf]; omega⟩
      · rw [hr] at hsu
        simp only [Int.reduceEq, ↓reduceIte, false_or, or_false, or_true, true_or] at hsu
        have HS := Lib.hid hsu
        clear hsu
        go_wp2_with (first
          | (refine wpList_load_at rfl 106 _ _ _ rfl rfl hld ?_)
          | (refine wpList_row rfl rfl 106 _ _ rfl wr.heap.size _ rfl rfl 106 _ hz (by kernel_rfl) (by rfl) (by rfl) ?_; intro w9 hb9 ho9 hs9; have e9 : Ext wr w9 := hb9 _ _ (Nat.le_refl _) ez; have c0 := cell_at (j := 0) hs9 rfl; have c1 := cell_at (j := 1) hs9 rfl; have c2 := cell_at (j := 2) hs9 rfl; have c3 := cell_at (j := 3) hs9 rfl; have c4 := cell_at (j := 4) hs9 rfl)
          | fail)
        refine (forgive_any p m L xa xb xc xn _ (hL.ext e9) hwf).mono ?_
        rintro e w10 ⟨rfl, k10, hL10⟩
        rw [← HS.out] at hL10
        have E10 : Ext w w10 := (Keep.trans_fresh (S := []) (Keep.of_ext (Ext.trans er e9)) k10 (fun x hx => by simp at hx; right; omega)).ext
        clear k10
        go_wp2
        exact ⟨⟨k + 1, by omega, by go_num, E10, by rw [HN.out]; exact hL10, by rw [HN.out]; exact hwn⟩, by simp [intOf]; omega⟩
      · rw [hr] at hsu
        simp only [Int.reduceEq, ↓reduceIte, false_or, or_false, or_true, true_or] at hsu
        have HS := Lib.hid hsu
        clear hsu
        go_wp2_with (first
          | (refine wpList_load_at rfl 106 _ _ _ rfl rfl hld ?_)
          | (refine wpList_row rfl rfl 106 _ _ rfl wr.heap.size _ rfl rfl 106 _ hz (by kernel_rfl) (by rfl) (by rfl) ?_; intro w9 hb9 ho9 hs9; have e9 : Ext wr w9 := hb9 _ _ (Nat.le_refl _) ez; have c0 := cell_at (j := 0) hs9 rfl; have c1 := cell_at (j := 1) hs9 rfl; have c2 := cell_at (j := 2) hs9 rfl; have c3 := cell_at (j := 3) hs9 rfl; have c4 := cell_at (j := 4) hs9 rfl)
          | fail)
        exact ⟨⟨k + 1, by omega, by go_num, Ext.trans er e9, by rw [HN.out, HS.out]; exact hL.ext e9, by rw [HN.out]; exact hwn⟩, by simp [intOf]; omega⟩
    · have hk' : k = l.length := by omega
      subst hk'
      rw [List.take_length] at hL hwf
      go_wp2
      go_ret
      exact ⟨⟨p, m, rfl, er, hL, hp1, hm1⟩, hwf⟩

/-! The house of a world. -/
theorem load_off_at (w : World) (g off k : Nat) (l : List Off) (hk : k < l.length) (h : ∀ j u, (offCells l)[j]? = some u → w.cell? ⟨g, off + j, none⟩ = some u) :
    (loadVar 60 ⟨g, off + k * 7, none⟩).run Tryz.prog w = .ok (.agg #[.int .u64 (l[k]'hk).seq, .int .u8 (l[k]'hk).owner, .int .u8 (l[k]'hk).sell, .int .u8 (l[k]'hk).buy, .int .i64 (l[k]'hk).left, .int .i64 (l[k]'hk).num, .int .i64 (l[k]'hk).den]) w :=
  run_loadVar_part w g (off + k * 7) 60 (l[k]'hk).cells _ (fun j u hu => by
    have hj : j < 7 := (List.getElem?_eq_some_iff.1 hu).1
    rw [Nat.add_assoc]
    exact h _ _ ((offCells_at l k j hk hj).trans hu)) Tryz.underlying60 rfl (by kernel_rfl)

def stepB (B : Bk) (o : Off) : Bk := (placeR B o.owner o.sell o.buy o.left o.num o.den).2.2
def madeB (l : List Off) : Bk := l.foldl stepB ⟨[], 1⟩
theorem madeB_succ (l : List Off) (k : Nat) (hk : k < l.length) : madeB (l.take (k + 1)) = stepB (madeB (l.take k)) (l[k]'hk) := by
  unfold madeB
  rw [List.take_succ_eq_append_getElem hk, List.foldl_append]
  rfl
def Off.in64 (o : Off) : Prop := o.num ≤ 9223372036854775807 ∧ o.den ≤ 9223372036854775807

def RetHouse (L : Led) (B : Bk) (w : World) (e : Ending) (w' : World) : Prop :=
  ∃ p m pb g, e = .returned (.agg #[.pointer (some ⟨p, 0, none⟩), .pointer (some ⟨pb, 0, none⟩)]) ∧ Ext w w' ∧ IsLed w' p m L ∧ IsBook w' pb g B ∧ w.heap.size ≤ p ∧ w.heap.size ≤ m ∧ w.heap.size ≤ pb ∧ (∀ x, g = some x → w.heap.size ≤ x)

set_option maxRecDepth 100000 in
set_option maxHeartbeats 3200000 in
theorem made10_any (va vo : Value) (acts : List Act5) (offs : List Off) (w : World) (ha : ArgSl w 5 va acts.length (actCells acts)) (hoa : ∀ x ∈ acts, x.ok) (ho : ArgSl w 7 vo offs.length (offCells offs)) (hoo : ∀ x ∈ offs, x.in64) :
    Calls Tryz.prog 11 #[.agg #[va, vo]] w (fun e w' => RetHouse (madeL acts) (madeB offs) w e w' ∧ WF (madeL acts) ∧ OkB (madeB offs)) := by
  have hmk := fun w' (k : Ext w w') => made3_any va acts w' (ha.ext k) hoa
  obtain ⟨Aa, capa, rfl, _⟩ := ha
  obtain ⟨A, cap, rfl, h1, h2, h3, h4⟩ := ho
  have hn63 : (offs.length : Int) ≤ 9223372036854775807 := by unfold maxLen at h2; omega
  have hb := heap_alloc_top w (.cells #[.slice Aa acts.length capa, .slice A offs.length cap] 25)
  have eb := ext_alloc w (.cells #[.slice Aa acts.length capa, .slice A offs.length cap] 25)
  have sb := size_alloc w (.cells #[.slice Aa acts.length capa, .slice A offs.length cap] 25)
  have hr := heap_alloc_top (w.alloc (.cells #[.slice Aa acts.length capa, .slice A offs.length cap] 25)) (.cells #[.pointer none, .pointer none] 32)
  have er := ext_alloc (w.alloc (.cells #[.slice Aa acts.length capa, .slice A offs.length cap] 25)) (.cells #[.pointer none, .pointer none] 32)
  rw [sb] at hr
  have hb := er.at hb
  have E0 := Ext.trans eb er
  have sr := size_alloc (w.alloc (.cells #[.slice Aa acts.length capa, .slice A offs.length cap] 25)) (.cells #[.pointer none, .pointer none] 32)
  rw [sb] at sr
  have c00 := cell_at (j := 0) hb rfl
  have c01 := cell_at (j := 1) hb rfl
  clear eb er
  go_enter Tryz.func11, Tryz.ntmps11
  go_wp2_with fail
  refine (bnew_any _).mono ?_
  rintro e w1 ⟨pb, g0, rfl, e1, hB1, hp1, hg1⟩
  have hr1 := e1.at hr
  have hb1 := e1.at hb
  have E1 := Ext.trans E0 e1
  clear c00 c01 sb hr hb
  have hgw : ∀ x, g0 = some x → w.heap.size + 2 ≤ x := fun x hx => by have := hg1 x hx; omega
  have hpw : w.heap.size + 2 ≤ pb := by omega
  clear hg1 hp1 sr
  go_wp2
  go_loopw [4] (fun i wr => ∃ k : Nat, ∃ g, k ≤ offs.length ∧ i = .int .i64 k ∧ Ext w wr ∧ IsBook wr pb g (madeB (offs.take k)) ∧ OkB (madeB (offs.take k)) ∧ (∀ x, g = some x → w.heap.size + 2 ≤ x) ∧
    wr.heap[w.heap.size]? = some (.cells #[.slice Aa acts.length capa, .slice A offs.length cap] 25 (0, 0)) ∧ wr.heap[w.heap.size + 1]? = some (.cells #[.pointer none, .pointer none] 32 (0, 0))) (fun i _ => offs.length - (intOf i).toNat)
  case atStart => exact ⟨0, g0, Nat.zero_le _, rfl, E1, hB1, fun o ho => by simp [madeB] at ho, hgw, hb1, hr1⟩
  case round =>
    obtain ⟨k, g, hk, rfl, er, hB, hok, hg, hbr, hrr⟩ := hrel
    have c00 := cell_at (j := 0) hbr rfl
    have c01 := cell_at (j := 1) hbr rfl
    by_cases hkn : k < offs.length
    · rcases h4 with h4 | ⟨gb, off, rfl, hlt, hcell⟩
      · omega
      have hld := load_off_at wr gb off k offs hkn (fun j u hu => by rw [cell_block (er.block hlt)]; exact hcell j u hu)
      have hxo := hoo _ (List.getElem_mem hkn)
      have hsu := madeB_succ offs k hkn
      have hokn := ok_place hok (offs[k]'hkn).owner (offs[k]'hkn).sell (offs[k]'hkn).buy (offs[k]'hkn).left (offs[k]'hkn).num (offs[k]'hkn).den
      unfold stepB at hsu
      rw [← hsu] at hokn
      generalize madeB (offs.take k) = B at *
      generalize hBn : madeB (offs.take (k + 1)) = Bn at *
      generalize (offs[k]'hkn) = x at *
      obtain ⟨seq, own, sell, buy, left, num, den⟩ := x
      obtain ⟨b1, b2⟩ := hxo
      simp only at b1 b2 hsu hld
      have HN := Lib.hid hBn
      have HS := Lib.hid hsu
      clear hBn hsu hcell hmk hB1 hr1 hb1
      have hz := heap_alloc_top wr (.cells #[.int .u64 0, .int .u8 0, .int .u8 0, .int .u8 0, .int .i64 0, .int .i64 0, .int .i64 0] 60)
      have ez := ext_alloc wr (.cells #[.int .u64 0, .int .u8 0, .int .u8 0, .int .u8 0, .int .i64 0, .int .i64 0, .int .i64 0] 60)
      go_wp2_with (first
        | (refine wpList_load_at rfl 60 _ _ _ rfl rfl hld ?_)
        | (refine wpList_load_at rfl 58 _ _ _ rfl rfl hrt ?_)
        | (refine wpList_row rfl rfl 60 _ _ rfl wr.heap.size _ rfl rfl 60 _ hz (by kernel_rfl) (by rfl) (by rfl) ?_; intro w9 hb9 ho9 hs9; have e9 : Ext wr w9 := hb9 _ _ (Nat.le_refl _) ez; have c1 := cell_at (j := 1) hs9 rfl; have c2 := cell_at (j := 2) hs9 rfl; have c3 := cell_at (j := 3) hs9 rfl; have c4 := cell_at (j := 4) hs9 rfl
           have hrt := run_loadVar_part (P := Tryz.prog) w9 wr.heap.size 5 58 [.int .i64 num, .int .i64 den] _ (fun j v hv => by
             match j, hv with
             | 0, hv => simp at hv; subst hv; exact cell_at (j := 5) hs9 rfl
             | 1, hv => simp at hv; subst hv; exact cell_at (j := 6) hs9 rfl
             | j + 2, hv => simp at hv) Tryz.underlying58 rfl (by kernel_rfl))
        | fail)
      refine (place_any pb g B own sell buy left num den _ (hB.ext e9) b1 b2).mono ?_
      rintro e w10 ⟨rfl, g', k10, hB10, hg10⟩
      rw [← HS.out] at hB10
      have E9 := Ext.trans er e9
      have s9 := E9.size
      have hfr : ∀ x ∈ pb :: g.toList, x ∈ ([] : List Nat) ∨ w.heap.size ≤ x := by
        intro x hx
        right
        rcases List.mem_cons.1 hx with rfl | hx
        · omega
        · have := hg x (by simpa using hx)
          omega
      have hnot : ∀ y, y < w.heap.size + 2 → y ∉ pb :: g.toList := by
        intro y hy hx
        rcases List.mem_cons.1 hx with rfl | hx
        · omega
        · have := hg y (by simpa using hx)
          omega
      have E10 : Ext w w10 := (Keep.trans_fresh (S := []) (Keep.of_ext E9) k10 hfr).ext
      have hb10 := k10.at (e9.at hbr) (hnot _ (by omega))
      have hr10 := k10.at (e9.at hrr) (hnot _ (by omega))
      have hrl := lt_of_heap hrr
      have hg2 : ∀ x, g' = some x → w.heap.size + 2 ≤ x := by
        intro x hx
        rcases hg10 with hh | hh
        · exact hg x (hh ▸ hx)
        · have := hh x hx
          have := e9.size
          omega
      clear k10 hg10 hfr hnot c00 c01 hrt hld hz ez c1 c2 c3 c4
      go_wp2
      exact ⟨⟨k + 1, g', by omega, by go_num, E10, by rw [HN.out]; exact hB10, by rw [HN.out]; exact hokn, hg2, hb10, hr10⟩, by simp [intOf]; omega⟩
    · have hk' : k = offs.length := by omega
      subst hk'
      rw [List.take_length] at hB hok
      clear h4 hoo
      have hml := hmk wr er
      clear hmk hr1 hb1 hB1
      go_wp2_with fail
      refine hml.mono ?_
      rintro e w10 ⟨⟨p, m, rfl, e10, hL10, hp10, hm10⟩, hwf⟩
      have hr10 := e10.at hrr
      have hB10 := hB.ext e10
      have E10 := Ext.trans er e10
      have hs10 := er.size
      have hrl := lt_of_heap hrr
      clear c00 c01 hml
      go_wp2_with (first
        | (refine wpList_row rfl rfl 32 _ _ rfl (w.heap.size + 1) _ rfl rfl 32 _ hr10 (by kernel_rfl) (by rfl) (by rfl) ?_; intro w11 hb11 ho11 hs11)
        | fail)
      have hbb := hb11 0 w10 (Nat.zero_le _) (Below.refl _ _)
      have k11 : Keep [w.heap.size + 1] w10 w11 := ⟨hbb.os, hbb.tape, hbb.output, hbb.size, fun i hi hn => ho11 i (by simpa using hn)⟩
      have hL11 := hL10.keep k11 (by simp; omega) (by simp; omega)
      have hB11 := hB10.keep k11 (by simp; omega) (fun x hx => by have := hg x hx; simp; omega)
      exact ret_cell (w.heap.size + 1) 32 _ _ _ rfl rfl hs11 Tryz.underlying32 rfl (by kernel_rfl) rfl ⟨⟨p, m, pb, g, rfl, hb11 _ _ (by omega) E10, hL11, hB11, by omega, by omega, by omega, fun x hx => by have := hg x hx; omega⟩, hwf, hok⟩

/-- More than is gone through. -/
theorem great10_any (va vo : Value) (acts : List Act5) (offs : List Off) (w : World) (ha : ArgSl w 5 va acts.length (actCells acts)) (ho : ArgSl w 7 vo offs.length (offCells offs)) :
    Calls Tryz.prog 9 #[.agg #[va, vo]] w (Ret (.bool (decide (120 < acts.length) || decide (40 < offs.length))) w) := by
  obtain ⟨Aa, capa, rfl, _, c1, _⟩ := ha
  obtain ⟨A, cap, rfl, _, c2, _⟩ := ho
  have hb := heap_alloc_top w (.cells #[.slice Aa acts.length capa, .slice A offs.length cap] 25)
  have eb := ext_alloc w (.cells #[.slice Aa acts.length capa, .slice A offs.length cap] 25)
  have c00 := cell_at (j := 0) hb rfl
  have c01 := cell_at (j := 1) hb rfl
  by_cases q1 : 120 < acts.length
  · have q1' : ((120 : Int) < acts.length) := by omega
    rw [decide_eq_true q1]
    go_enter Tryz.func9, Tryz.ntmps9
    go_wp2
    go_ret
    exact ⟨rfl, eb⟩
  · have q1' : ¬ ((120 : Int) < acts.length) := by omega
    rw [decide_eq_false q1, Bool.false_or]
    by_cases q2 : 40 < offs.length
    · have q2' : ((40 : Int) < offs.length) := by omega
      rw [decide_eq_true q2]
      go_enter Tryz.func9, Tryz.ntmps9
      go_wp2
      go_ret
      exact ⟨rfl, eb⟩
    · have q2' : ¬ ((40 : Int) < offs.length) := by omega
      rw [decide_eq_false q2]
      go_enter Tryz.func9, Tryz.ntmps9
      go_wp2
      go_ret
      exact ⟨rfl, eb⟩

end Go.Proofs.YtjddfopebpmaeaaGreat
