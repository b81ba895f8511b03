/- The walks of Great and of what makes a house of a world: acts on a ledger, offers that are placed. Openers: what comes in (worlds, asks, slices of acts and of offers), as the walks want it. A call under a guard, in a region. What a row of another kind is not; numbers of offers rise. An offer that comes in, opened, with what bounds its numbers. -/
import Derived.Test.YtahdgojcebajkaaGreatWf
import Derived.ProofKit
import Derived.Lib.SmallJoins
import Derived.OpenShut
import Derived.Test.YtahdgojcebajkaaGreatAgain
import Derived.Test.YtahdgojcebajkaaGreatLed6
import Derived.Test.YtahdgojcebajkaaGreatPlaceP
import Derived.Test.YtahdgojcebajkaaGreatRows

namespace Go.Proofs.YtahdgojcebajkaaGreat
open Go.RowKit Go.Rg Go.BigFrame

/-- A slice that came in: its cells are known. -/
def ArgSl (w : World) (size : Nat) (v : Value) (n : Nat) (xs : List Value) : Prop :=
  ∃ A cap, v = .slice A n cap ∧ n ≤ cap ∧ cap ≤ maxLen ∧ xs.length = n * size ∧ (n = 0 ∨ ∃ g off, A = some ⟨g, off, none⟩ ∧ g < w.heap.size ∧ ∀ j u, xs[j]? = some u → w.cell? ⟨g, off + j, none⟩ = some u)
theorem ArgSl.ext {w w' : World} {size n : Nat} {v : Value} {xs : List Value} (h : ArgSl w size v n xs) (k : Ext w w') : ArgSl w' size v n xs := by
  obtain ⟨A, cap, hv, h1, h2, h3, h4⟩ := h
  refine ⟨A, cap, hv, h1, h2, h3, ?_⟩
  rcases h4 with h4 | ⟨g, off, hA, hlt, hc⟩
  · exact .inl h4
  · refine .inr ⟨g, off, hA, Nat.lt_of_lt_of_le hlt k.size, fun j u hu => ?_⟩
    rw [cell_block (k.block hlt)]
    exact hc j u hu

/-- An act on a ledger. -/
structure Act5 where
  kind : Int
  a : Int
  b : Int
  c : Int
  n : Int
def Act5.cells (x : Act5) : List Value := [.int .u8 x.kind, .int .u8 x.a, .int .u8 x.b, .int .u8 x.c, .int .i64 x.n]
def actCells (l : List Act5) : List Value := l.flatMap Act5.cells
def Act5.ok (x : Act5) : Prop := 0 ≤ x.kind ∧ x.kind ≤ 255 ∧ x.n ≤ 9223372036854775807

theorem actCells_at (l : List Act5) (k j : Nat) (hk : k < l.length) (hj : j < 5) : (actCells l)[k * 5 + j]? = (l[k]'hk).cells[j]? := by
  induction l generalizing k with
  | nil => simp at hk
  | cons o l ih =>
    have h7 : (Act5.cells o).length = 5 := rfl
    cases k with
    | zero =>
      simp only [actCells, List.flatMap_cons, Nat.zero_mul, Nat.zero_add, List.getElem_cons_zero]
      rw [List.getElem?_append_left (by rw [h7]; exact hj)]
    | succ k =>
      have := ih k (by simpa using hk)
      simp only [actCells, List.flatMap_cons, List.getElem_cons_succ] at this ⊢
      rw [List.getElem?_append_right (by rw [h7]; omega), h7, show (k + 1) * 5 + j - 5 = k * 5 + j by omega]
      exact this

theorem load_act (w : World) (g off k : Nat) (l : List Act5) (hk : k < l.length) (h : ∀ j u, (actCells l)[j]? = some u → w.cell? ⟨g, off + j, none⟩ = some u) :
    (loadVar 182 ⟨g, off + k * 5, none⟩).run Tryz.prog w = .ok (.agg #[.int .u8 (l[k]'hk).kind, .int .u8 (l[k]'hk).a, .int .u8 (l[k]'hk).b, .int .u8 (l[k]'hk).c, .int .i64 (l[k]'hk).n]) w :=
  run_loadVar_part w g (off + k * 5) 182 (l[k]'hk).cells _ (fun j u hu => by
    have hj : j < 5 := (List.getElem?_eq_some_iff.1 hu).1
    rw [Nat.add_assoc]
    exact h _ _ ((actCells_at l k j hk hj).trans hu)) Tryz.underlying182 rfl (by kernel_rfl)

def stepA (L : Led) (x : Act5) : Led :=
  if x.kind.tmod 8 = 0 then (openR L x.a).2
  else if x.kind.tmod 8 = 1 ∨ x.kind.tmod 8 = 2 then (trustR L x.a x.b x.c x.n).2
  else if x.kind.tmod 8 = 3 ∨ x.kind.tmod 8 = 4 ∨ x.kind.tmod 8 = 5 then (pushR L x.a x.b x.c x.n).2
  else if x.kind.tmod 8 = 6 then (forgiveR L x.a x.b x.c x.n).2
  else L
def madeL (l : List Act5) : Led := l.foldl stepA led0
theorem madeL_succ (l : List Act5) (k : Nat) (hk : k < l.length) : madeL (l.take (k + 1)) = stepA (madeL (l.take k)) (l[k]'hk) := by
  unfold madeL
  rw [List.take_succ_eq_append_getElem hk, List.foldl_append]
  rfl
theorem wf_step {L : Led} (h : WF L) (hl : L.par.length = 17) (x : Act5) : WF (stepA L x) := by
  unfold stepA
  split
  · exact wf_open h hl _
  · split
    · exact wf_trust h _ _ _ _
    · split
      · exact wf_push h _ _ _ _
      · split
        · exact wf_forgive h _ _ _ _
        · exact h


set_option maxRecDepth 100000 in
set_option maxHeartbeats 3200000 in
theorem made3_any (v : Value) (l : List Act5) (w : World) (h : ArgSl w 5 v l.length (actCells l)) (hok : ∀ x ∈ l, x.ok) :
    Calls Tryz.prog 52 #[v] w (fun e w' => RetLed (madeL l) w e w' ∧ WF (madeL l)) := by
  obtain ⟨A, cap, rfl, h1, h2, h3, h4⟩ := h
  have hn63 : (l.length : Int) ≤ 9223372036854775807 := by unfold maxLen at h2; omega
  go_enter Tryz.func52, Tryz.ntmps52
  go_wp2_with fail
  refine (new_any _).mono ?_
  rintro e w1 ⟨p, m, rfl, e1, hL1, hp1, hm1⟩
  go_wp2
  go_loopw [4] (fun i wr => ∃ k : Nat, k ≤ l.length ∧ i = .int .i64 k ∧ Ext w wr ∧ IsLed wr p m (madeL (l.take k)) ∧ WF (madeL (l.take k))) (fun i _ => l.length - (intOf i).toNat)
  case atStart => exact ⟨0, Nat.zero_le _, rfl, e1, hL1, wf_led0⟩
  case round =>
    obtain ⟨k, hk, rfl, er, hL, hwf⟩ := hrel
    by_cases hkn : k < l.length
    · rcases h4 with h4 | ⟨g, off, rfl, hlt, hcell⟩
      · omega
      have hld := load_act wr g off k l hkn (fun j u hu => by rw [cell_block (er.block hlt)]; exact hcell j u hu)
      have hxo := hok _ (List.getElem_mem hkn)
      have hsu := madeL_succ l k hkn
      have hwn := wf_step hwf hL.len (l[k]'hkn)
      rw [← hsu] at hwn
      unfold stepA at hsu
      generalize madeL (l.take k) = L at *
      generalize hLn : madeL (l.take (k + 1)) = Ln at *
      generalize (l[k]'hkn) = x at *
      obtain ⟨kind, xa, xb, xc, xn⟩ := x
      obtain ⟨ok1, ok2, ok3⟩ := hxo
      simp only at ok1 ok2 ok3 hsu hld
      have HN := Lib.hid hLn
      clear hLn hok hcell
      have hz := heap_alloc_top wr (.cells #[.int .u8 0, .int .u8 0, .int .u8 0, .int .u8 0, .int .i64 0] 182)
      have ez := ext_alloc wr (.cells #[.int .u8 0, .int .u8 0, .int .u8 0, .int .u8 0, .int .i64 0] 182)
      have hrem : kind.tmod 8 = 0 ∨ kind.tmod 8 = 1 ∨ kind.tmod 8 = 2 ∨ kind.tmod 8 = 3 ∨ kind.tmod 8 = 4 ∨ kind.tmod 8 = 5 ∨ kind.tmod 8 = 6 ∨ kind.tmod 8 = 7 := by
        rw [Int.tmod_eq_emod_of_nonneg ok1]
        omega
      rcases hrem with hr | hr | hr | hr | hr | hr | hr | hr
      · rw [hr] at hsu
        simp only [Int.reduceEq, ↓reduceIte, false_or, or_false, or_true, true_or] at hsu
        have HS := Lib.hid hsu
        clear hsu
        go_wp2_with (first
          | (refine wpList_load_at rfl 182 _ _ _ rfl rfl hld ?_)
          | (refine wpList_row rfl rfl 182 _ _ rfl wr.heap.size _ rfl rfl 182 _ hz (by kernel_rfl) (by rfl) (by rfl) ?_; intro w9 hb9 ho9 hs9; have e9 : Ext wr w9 := hb9 _ _ (Nat.le_refl _) ez; have c0 := cell_at (j := 0) hs9 rfl; have c1 := cell_at (j := 1) hs9 rfl; have c2 := cell_at (j := 2) hs9 rfl; have c3 := cell_at (j := 3) hs9 rfl; have c4 := cell_at (j := 4) hs9 rfl)
          | fail)
        refine (open_any p m L xa _ (hL.ext e9)).mono ?_
        rintro e w10 ⟨rfl, k10, hL10⟩
        rw [← HS.out] at hL10
        have E10 : Ext w w10 := (Keep.trans_fresh (S := []) (Keep.of_ext (Ext.trans er e9)) k10 (fun x hx => by simp at hx; right; omega)).ext
        clear k10
        go_wp2
        exact ⟨⟨k + 1, by omega, by go_num, E10, by rw [HN.out]; exact hL10, by rw [HN.out]; exact hwn⟩, by simp [intOf]; omega⟩
      · rw [hr] at hsu
        simp only [Int.reduceEq, ↓reduceIte, false_or, or_false, or_true, true_or] at hsu
        have HS := Lib.hid hsu
        clear hsu
        go_wp2_with (first
          | (refine wpList_load_at rfl 182 _ _ _ rfl rfl hld ?_)
          | (refine wpList_row rfl rfl 182 _ _ rfl wr.heap.size _ rfl rfl 182 _ hz (by kernel_rfl) (by rfl) (by rfl) ?_; intro w9 hb9 ho9 hs9; have e9 : Ext wr w9 := hb9 _ _ (Nat.le_refl _) ez; have c0 := cell_at (j := 0) hs9 rfl; have c1 := cell_at (j := 1) hs9 rfl; have c2 := cell_at (j := 2) hs9 rfl; have c3 := cell_at (j := 3) hs9 rfl; have c4 := cell_at (j := 4) hs9 rfl)
          | fail)
        refine (trust_any p m L xa xb xc xn _ (hL.ext e9) hwf).mono ?_
        rintro e w10 ⟨rfl, k10, hL10⟩
        rw [← HS.out] at hL10
        have E10 : Ext w w10 := (Keep.trans_fresh (S := []) (Keep.of_ext (Ext.trans er e9)) k10 (fun x hx => by simp at hx; right; omega)).ext
        clear k10
        go_wp2
        exact ⟨⟨k + 1, by omega, by go_num, E10, by rw [HN.out]; exact hL10, by rw [HN.out]; exact hwn⟩, by simp [intOf]; omega⟩
      · rw [hr] at hsu
        simp only [Int.reduceEq, ↓reduceIte, false_or, or_false, or_true, true_or] at hsu
        have HS := Lib.hid hsu
        clear hsu
        go_wp2_with (first
          | (refine wpList_load_at rfl 182 _ _ _ rfl rfl hld ?_)
          | (refine wpList_row rfl rfl 182 _ _ rfl wr.heap.size _ rfl rfl 182 _ hz (by kernel_rfl) (by rfl) (by rfl) ?_; intro w9 hb9 ho9 hs9; have e9 : Ext wr w9 := hb9 _ _ (Nat.le_refl _) ez; have c0 := cell_at (j := 0) hs9 rfl; have c1 := cell_at (j := 1) hs9 rfl; have c2 := cell_at (j := 2) hs9 rfl; have c3 := cell_at (j := 3) hs9 rfl; have c4 := cell_at (j := 4) hs9 rfl)
          | fail)
        refine (trust_any p m L xa xb xc xn _ (hL.ext e9) hwf).mono ?_
        rintro e w10 ⟨rfl, k10, hL10⟩
        rw [← HS.out] at hL10
        have E10 : Ext w w10 := (Keep.trans_fresh (S := []) (Keep.of_ext (Ext.trans er e9)) k10 (fun x hx => by simp at hx; right; omega)).ext
        clear k10
        go_wp2
        exact ⟨⟨k + 1, by omega, by go_num, E10, by rw [HN.out]; exact hL10, by rw [HN.out]; exact hwn⟩, by simp [intOf]; omega⟩
      · rw [hr] at hsu
        simp only [Int.reduceEq, ↓reduceIte, false_or, or_false, or_true, true_or] at hsu
        have HS := Lib.hid hsu
        clear hsu
        go_wp2_with (first
          | (refine wpList_load_at rfl 182 _ _ _ rfl rfl hld ?_)
          | (refine wpList_row rfl rfl 182 _ _ rfl wr.heap.size _ rfl rfl 182 _ hz (by kernel_rfl) (by rfl) (by rfl) ?_; intro w9 hb9 ho9 hs9; have e9 : Ext wr w9 := hb9 _ _ (Nat.le_refl _) ez; have c0 := cell_at (j := 0) hs9 rfl; have c1 := cell_at (j := 1) hs9 rfl; have c2 := cell_at (j := 2) hs9 rfl; have c3 := cell_at (j := 3) hs9 rfl; have c4 := cell_at (j := 4) hs9 rfl)
          | fail)
        refine (push_any p m L xa xb xc xn _ (hL.ext e9) hwf ok3).mono ?_
        rintro e w10 ⟨rfl, k10, hL10⟩
        rw [← HS.out] at hL10
        have E10 : Ext w w10 := (Keep.trans_fresh (S := []) (Keep.of_ext (Ext.trans er e9)) k10 (fun x hx => by simp at hx; right; omega)).ext
        clear k10
        go_wp2
        exact ⟨⟨k + 1, by omega, by go_num, E10, by rw [HN.out]; exact hL10, by rw [HN.out]; exact hwn⟩, by simp [intOf]; omega⟩
      · rw [hr] at hsu
        simp only [Int.reduceEq, ↓reduceIte, false_or, or_false, or_true, true_or] at hsu
        have HS := Lib.hid hsu
        clear hsu
        go_wp2_with (first
          | (refine wpList_load_at rfl 182 _ _ _ rfl rfl hld ?_)
          | (refine wpList_row rfl rfl 182 _ _ rfl wr.heap.size _ rfl rfl 182 _ hz (by kernel_rfl) (by rfl) (by rfl) ?_; intro w9 hb9 ho9 hs9; have e9 : Ext wr w9 := hb9 _ _ (Nat.le_refl _) ez; have c0 := cell_at (j := 0) hs9 rfl; have c1 := cell_at (j := 1) hs9 rfl; have c2 := cell_at (j := 2) hs9 rfl; have c3 := cell_at (j := 3) hs9 rfl; have c4 := cell_at (j := 4) hs9 rfl)
          | fail)
        refine (push_any p m L xa xb xc xn _ (hL.ext e9) hwf ok3).mono ?_
        rintro e w10 ⟨rfl, k10, hL10⟩
        rw [← HS.out] at hL10
        have E10 : Ext w w10 := (Keep.trans_fresh (S := []) (Keep.of_ext (Ext.trans er e9)) k10 (fun x hx => by simp at hx; right; omega)).ext
        clear k10
        go_wp2
        exact ⟨⟨k + 1, by omega, by go_num, E10, by rw [HN.out]; exact hL10, by rw [HN.out]; exact hwn⟩, by simp [intOf]; omega⟩
      · rw [hr] at hsu
        simp only [Int.reduceEq, ↓reduceIte, false_or, or_false, or_true, true_or] at hsu
        have HS := Lib.hid hsu
        clear hsu
        go_wp2_with (first
          | (refine wpList_load_at rfl 182 _ _ _ rfl rfl hld ?_)
          | (refine wpList_row rfl rfl 182 _ _ rfl wr.heap.size _ rfl rfl 182 _ hz (by kernel_rfl) (by rfl) (by rfl) ?_; intro w9 hb9 ho9 hs9; have e9 : Ext wr w9 := hb9 _ _ (Nat.le_refl _) ez; have c0 := cell_at (j := 0) hs9 rfl; have c1 := cell_at (j := 1) hs9 rfl; have c2 := cell_at (j := 2) hs9 rfl; have c3 := cell_at (j := 3) hs9 rfl; have c4 := cell_at (j := 4) hs9 rfl)
          | fail)
        refine (push_any p m L xa xb xc xn _ (hL.ext e9) hwf ok3).mono ?_
        rintro e w10 ⟨rfl, k10, hL10⟩
        rw [← HS.out] at hL10
        have E10 : Ext w w10 := (Keep.trans_fresh (S := []) (Keep.of_ext (Ext.trans er e9)) k10 (fun x hx => by simp at hx; right; omega)).ext
        clear k10
        go_wp2
        exact ⟨⟨k + 1, by omega, by go_num, E10, by rw [HN.out]; exact hL10, by rw [HN.out]; exact hwn⟩, by simp [intOf]; omega⟩
      · rw [hr] at hsu
        simp only [Int.reduceEq, ↓reduceIte, false_or, or_false, or_true, true_or] at hsu
        have HS := Lib.hid hsu
        clear hsu
        go_wp2_with (first
          | (refine wpList_load_at rfl 182 _ _ _ rfl rfl hld ?_)
          | (refine wpList_row rfl rfl 182 _ _ rfl wr.heap.size _ rfl rfl 182 _ hz (by kernel_rfl) (by rfl) (by rfl) ?_; intro w9 hb9 ho9 hs9; have e9 : Ext wr w9 := hb9 _ _ (Nat.le_refl _) ez; have c0 := cell_at (j := 0) hs9 rfl; have c1 := cell_at (j := 1) hs9 rfl; have c2 := cell_at (j := 2) hs9 rfl; have c3 := cell_at (j := 3) hs9 rfl; have c4 := cell_at (j := 4) hs9 rfl)
          | fail)
        refine (forgive_any p m L xa xb xc xn _ (hL.ext e9) hwf).mono ?_
        rintro e w10 ⟨rfl, k10, hL10⟩
        rw [← HS.out] at hL10
        have E10 : Ext w w10 := (Keep.trans_fresh (S := []) (Keep.of_ext (Ext.trans er e9)) k10 (fun x hx => by simp at hx; right; omega)).ext
        clear k10
        go_wp2
        exact ⟨⟨k + 1, by omega, by go_num, E10, by rw [HN.out]; exact hL10, by rw [HN.out]; exact hwn⟩, by simp [intOf]; omega⟩
      · rw [hr] at hsu
        simp only [Int.reduceEq, ↓reduceIte, false_or, or_false, or_true, true_or] at hsu
        have HS := Lib.hid hsu
        clear hsu
        go_wp2_with (first
          | (refine wpList_load_at rfl 182 _ _ _ rfl rfl hld ?_)
          | (refine wpList_row rfl rfl 182 _ _ rfl wr.heap.size _ rfl rfl 182 _ hz (by kernel_rfl) (by rfl) (by rfl) ?_; intro w9 hb9 ho9 hs9; have e9 : Ext wr w9 := hb9 _ _ (Nat.le_refl _) ez; have c0 := cell_at (j := 0) hs9 rfl; have c1 := cell_at (j := 1) hs9 rfl; have c2 := cell_at (j := 2) hs9 rfl; have c3 := cell_at (j := 3) hs9 rfl; have c4 := cell_at (j := 4) hs9 rfl)
          | fail)
        exact ⟨⟨k + 1, by omega, by go_num, Ext.trans er e9, by rw [HN.out, HS.out]; exact hL.ext e9, by rw [HN.out]; exact hwn⟩, by simp [intOf]; omega⟩
    · have hk' : k = l.length := by omega
      subst hk'
      rw [List.take_length] at hL hwf
      go_wp2
      go_ret
      exact ⟨⟨p, m, rfl, er, hL, hp1, hm1⟩, hwf⟩

/-! The house of a world. -/
theorem load_off_at (w : World) (g off k : Nat) (l : List Off) (hk : k < l.length) (h : ∀ j u, (offCells l)[j]? = some u → w.cell? ⟨g, off + j, none⟩ = some u) :
    (loadVar 32 ⟨g, off + k * 7, none⟩).run Tryz.prog w = .ok (.agg #[.int .u64 (l[k]'hk).seq, .int .u8 (l[k]'hk).owner, .int .u8 (l[k]'hk).sell, .int .u8 (l[k]'hk).buy, .int .i64 (l[k]'hk).left, .int .i64 (l[k]'hk).num, .int .i64 (l[k]'hk).den]) w :=
  run_loadVar_part w g (off + k * 7) 32 (l[k]'hk).cells _ (fun j u hu => by
    have hj : j < 7 := (List.getElem?_eq_some_iff.1 hu).1
    rw [Nat.add_assoc]
    exact h _ _ ((offCells_at l k j hk hj).trans hu)) Tryz.underlying32 rfl (by kernel_rfl)

def stepB (B : Bk) (o : Off) : Bk := (placeR B o.owner o.sell o.buy o.left o.num o.den).2.2
def madeB (l : List Off) : Bk := l.foldl stepB ⟨[], 1⟩
theorem madeB_succ (l : List Off) (k : Nat) (hk : k < l.length) : madeB (l.take (k + 1)) = stepB (madeB (l.take k)) (l[k]'hk) := by
  unfold madeB
  rw [List.take_succ_eq_append_getElem hk, List.foldl_append]
  rfl
def Off.in64 (o : Off) : Prop := o.num ≤ 9223372036854775807 ∧ o.den ≤ 9223372036854775807

def RetHouse (L : Led) (B : Bk) (w : World) (e : Ending) (w' : World) : Prop :=
  ∃ p m pb g, e = .returned (.agg #[.pointer (some ⟨p, 0, none⟩), .pointer (some ⟨pb, 0, none⟩)]) ∧ Ext w w' ∧ IsLed w' p m L ∧ IsBook w' pb g B ∧ w.heap.size ≤ p ∧ w.heap.size ≤ m ∧ w.heap.size ≤ pb ∧ (∀ x, g = some x → w.heap.size ≤ x)

set_option maxRecDepth 100000 in
set_option maxHeartbeats 3200000 in
theorem made10_any (va vo : Value) (acts : List Act5) (offs : List Off) (w : World) (ha : ArgSl w 5 va acts.length (actCells acts)) (hoa : ∀ x ∈ acts, x.ok) (ho : ArgSl w 7 vo offs.length (offCells offs)) (hoo : ∀ x ∈ offs, x.in64) :
    Calls Tryz.prog 12 #[.agg #[va, vo]] w (fun e w' => RetHouse (madeL acts) (madeB offs) w e w' ∧ WF (madeL acts) ∧ OkB (madeB offs)) := by
  have hmk := fun w' (k : Ext w w') => made3_any va acts w' (ha.ext k) hoa
  obtain ⟨Aa, capa, rfl, _⟩ := ha
  obtain ⟨A, cap, rfl, h1, h2, h3, h4⟩ := ho
  have hn63 : (offs.length : Int) ≤ 9223372036854775807 := by unfold maxLen at h2; omega
  have hb := heap_alloc_top w (.cells #[.slice Aa acts.length capa, .slice A offs.length cap] 25)
  have eb := ext_alloc w (.cells #[.slice Aa acts.length capa, .slice A offs.length cap] 25)
  have sb := size_alloc w (.cells #[.slice Aa acts.length capa, .slice A offs.length cap] 25)
  have hr := heap_alloc_top (w.alloc (.cells #[.slice Aa acts.length capa, .slice A offs.length cap] 25)) (.cells #[.pointer none, .pointer none] 38)
  have er := ext_alloc (w.alloc (.cells #[.slice Aa acts.length capa, .slice A offs.length cap] 25)) (.cells #[.pointer none, .pointer none] 38)
  rw [sb] at hr
  have hb := er.at hb
  have E0 := Ext.trans eb er
  have sr := size_alloc (w.alloc (.cells #[.slice Aa acts.length capa, .slice A offs.length cap] 25)) (.cells #[.pointer none, .pointer none] 38)
  rw [sb] at sr
  have c00 := cell_at (j := 0) hb rfl
  have c01 := cell_at (j := 1) hb rfl
  clear eb er
  go_enter Tryz.func12, Tryz.ntmps12
  go_wp2_with fail
  refine (bnew_any _).mono ?_
  rintro e w1 ⟨pb, g0, rfl, e1, hB1, hp1, hg1⟩
  have hr1 := e1.at hr
  have hb1 := e1.at hb
  have E1 := Ext.trans E0 e1
  clear c00 c01 sb hr hb
  have hgw : ∀ x, g0 = some x → w.heap.size + 2 ≤ x := fun x hx => by have := hg1 x hx; omega
  have hpw : w.heap.size + 2 ≤ pb := by omega
  clear hg1 hp1 sr
  go_wp2
  go_loopw [4] (fun i wr => ∃ k : Nat, ∃ g, k ≤ offs.length ∧ i = .int .i64 k ∧ Ext w wr ∧ IsBook wr pb g (madeB (offs.take k)) ∧ OkB (madeB (offs.take k)) ∧ (∀ x, g = some x → w.heap.size + 2 ≤ x) ∧
    wr.heap[w.heap.size]? = some (.cells #[.slice Aa acts.length capa, .slice A offs.length cap] 25 (0, 0)) ∧ wr.heap[w.heap.size + 1]? = some (.cells #[.pointer none, .pointer none] 38 (0, 0))) (fun i _ => offs.length - (intOf i).toNat)
  case atStart => exact ⟨0, g0, Nat.zero_le _, rfl, E1, hB1, fun o ho => by simp [madeB] at ho, hgw, hb1, hr1⟩
  case round =>
    obtain ⟨k, g, hk, rfl, er, hB, hok, hg, hbr, hrr⟩ := hrel
    have c00 := cell_at (j := 0) hbr rfl
    have c01 := cell_at (j := 1) hbr rfl
    by_cases hkn : k < offs.length
    · rcases h4 with h4 | ⟨gb, off, rfl, hlt, hcell⟩
      · omega
      have hld := load_off_at wr gb off k offs hkn (fun j u hu => by rw [cell_block (er.block hlt)]; exact hcell j u hu)
      have hxo := hoo _ (List.getElem_mem hkn)
      have hsu := madeB_succ offs k hkn
      have hokn := ok_place hok (offs[k]'hkn).owner (offs[k]'hkn).sell (offs[k]'hkn).buy (offs[k]'hkn).left (offs[k]'hkn).num (offs[k]'hkn).den
      unfold stepB at hsu
      rw [← hsu] at hokn
      generalize madeB (offs.take k) = B at *
      generalize hBn : madeB (offs.take (k + 1)) = Bn at *
      generalize (offs[k]'hkn) = x at *
      obtain ⟨seq, own, sell, buy, left, num, den⟩ := x
      obtain ⟨b1, b2⟩ := hxo
      simp only at b1 b2 hsu hld
      have HN := Lib.hid hBn
      have HS := Lib.hid hsu
      clear hBn hsu hcell hmk hB1 hr1 hb1
      have hz := heap_alloc_top wr (.cells #[.int .u64 0, .int .u8 0, .int .u8 0, .int .u8 0, .int .i64 0, .int .i64 0, .int .i64 0] 32)
      have ez := ext_alloc wr (.cells #[.int .u64 0, .int .u8 0, .int .u8 0, .int .u8 0, .int .i64 0, .int .i64 0, .int .i64 0] 32)
      go_wp2_with (first
        | (refine wpList_load_at rfl 32 _ _ _ rfl rfl hld ?_)
        | (refine wpList_load_at rfl 30 _ _ _ rfl rfl hrt ?_)
        | (refine wpList_row rfl rfl 32 _ _ rfl wr.heap.size _ rfl rfl 32 _ hz (by kernel_rfl) (by rfl) (by rfl) ?_; intro w9 hb9 ho9 hs9; have e9 : Ext wr w9 := hb9 _ _ (Nat.le_refl _) ez; have c1 := cell_at (j := 1) hs9 rfl; have c2 := cell_at (j := 2) hs9 rfl; have c3 := cell_at (j := 3) hs9 rfl; have c4 := cell_at (j := 4) hs9 rfl
           have hrt := run_loadVar_part (P := Tryz.prog) w9 wr.heap.size 5 30 [.int .i64 num, .int .i64 den] _ (fun j v hv => by
             match j, hv with
             | 0, hv => simp at hv; subst hv; exact cell_at (j := 5) hs9 rfl
             | 1, hv => simp at hv; subst hv; exact cell_at (j := 6) hs9 rfl
             | j + 2, hv => simp at hv) Tryz.underlying30 rfl (by kernel_rfl))
        | fail)
      refine (place_any pb g B own sell buy left num den _ (hB.ext e9) b1 b2).mono ?_
      rintro e w10 ⟨rfl, g', k10, hB10, hg10⟩
      rw [← HS.out] at hB10
      have E9 := Ext.trans er e9
      have s9 := E9.size
      have hfr : ∀ x ∈ pb :: g.toList, x ∈ ([] : List Nat) ∨ w.heap.size ≤ x := by
        intro x hx
        right
        rcases List.mem_cons.1 hx with rfl | hx
        · omega
        · have := hg x (by simpa using hx)
          omega
      have hnot : ∀ y, y < w.heap.size + 2 → y ∉ pb :: g.toList := by
        intro y hy hx
        rcases List.mem_cons.1 hx with rfl | hx
        · omega
        · have := hg y (by simpa using hx)
          omega
      have E10 : Ext w w10 := (Keep.trans_fresh (S := []) (Keep.of_ext E9) k10 hfr).ext
      have hb10 := k10.at (e9.at hbr) (hnot _ (by omega))
      have hr10 := k10.at (e9.at hrr) (hnot _ (by omega))
      have hrl := lt_of_heap hrr
      have hg2 : ∀ x, g' = some x → w.heap.size + 2 ≤ x := by
        intro x hx
        rcases hg10 with hh | hh
        · exact hg x (hh ▸ hx)
        · have := hh x hx
          have := e9.size
          omega
      clear k10 hg10 hfr hnot c00 c01 hrt hld hz ez c1 c2 c3 c4
      go_wp2
      exact ⟨⟨k + 1, g', by omega, by go_num, E10, by rw [HN.out]; exact hB10, by rw [HN.out]; exact hokn, hg2, hb10, hr10⟩, by simp [intOf]; omega⟩
    · have hk' : k = offs.length := by omega
      subst hk'
      rw [List.take_length] at hB hok
      clear h4 hoo
      have hml := hmk wr er
      clear hmk hr1 hb1 hB1
      go_wp2_with fail
      refine hml.mono ?_
      rintro e w10 ⟨⟨p, m, rfl, e10, hL10, hp10, hm10⟩, hwf⟩
      have hr10 := e10.at hrr
      have hB10 := hB.ext e10
      have E10 := Ext.trans er e10
      have hs10 := er.size
      have hrl := lt_of_heap hrr
      clear c00 c01 hml
      go_wp2_with (first
        | (refine wpList_row rfl rfl 38 _ _ rfl (w.heap.size + 1) _ rfl rfl 38 _ hr10 (by kernel_rfl) (by rfl) (by rfl) ?_; intro w11 hb11 ho11 hs11)
        | fail)
      have hbb := hb11 0 w10 (Nat.zero_le _) (Below.refl _ _)
      have k11 : Keep [w.heap.size + 1] w10 w11 := ⟨hbb.os, hbb.tape, hbb.output, hbb.size, fun i hi hn => ho11 i (by simpa using hn)⟩
      have hL11 := hL10.keep k11 (by simp; omega) (by simp; omega)
      have hB11 := hB10.keep k11 (by simp; omega) (fun x hx => by have := hg x hx; simp; omega)
      exact ret_cell (w.heap.size + 1) 38 _ _ _ rfl rfl hs11 Tryz.underlying38 rfl (by kernel_rfl) rfl ⟨⟨p, m, pb, g, rfl, hb11 _ _ (by omega) E10, hL11, hB11, by omega, by omega, by omega, fun x hx => by have := hg x hx; omega⟩, hwf, hok⟩

/-- More than is gone through. -/
theorem great10_any (va vo : Value) (acts : List Act5) (offs : List Off) (w : World) (ha : ArgSl w 5 va acts.length (actCells acts)) (ho : ArgSl w 7 vo offs.length (offCells offs)) :
    Calls Tryz.prog 10 #[.agg #[va, vo]] w (Ret (.bool (decide (120 < acts.length) || decide (40 < offs.length))) w) := by
  obtain ⟨Aa, capa, rfl, _, c1, _⟩ := ha
  obtain ⟨A, cap, rfl, _, c2, _⟩ := ho
  have hb := heap_alloc_top w (.cells #[.slice Aa acts.length capa, .slice A offs.length cap] 25)
  have eb := ext_alloc w (.cells #[.slice Aa acts.length capa, .slice A offs.length cap] 25)
  have c00 := cell_at (j := 0) hb rfl
  have c01 := cell_at (j := 1) hb rfl
  by_cases q1 : 120 < acts.length
  · have q1' : ((120 : Int) < acts.length) := by omega
    rw [decide_eq_true q1]
    go_enter Tryz.func10, Tryz.ntmps10
    go_wp2
    go_ret
    exact ⟨rfl, eb⟩
  · have q1' : ¬ ((120 : Int) < acts.length) := by omega
    rw [decide_eq_false q1, Bool.false_or]
    by_cases q2 : 40 < offs.length
    · have q2' : ((40 : Int) < offs.length) := by omega
      rw [decide_eq_true q2]
      go_enter Tryz.func10, Tryz.ntmps10
      go_wp2
      go_ret
      exact ⟨rfl, eb⟩
    · have q2' : ¬ ((40 : Int) < offs.length) := by omega
      rw [decide_eq_false q2]
      go_enter Tryz.func10, Tryz.ntmps10
      go_wp2
      go_ret
      exact ⟨rfl, eb⟩

end Go.Proofs.YtahdgojcebajkaaGreat

namespace Go.Proofs.YtahdgojcebajkaaGreat
open Go.Joins Go.Deep Go.WideElems Go.Maps Go.ChangeShapes Go.WideShapes Go.ChangeAt Go.RowKit Go.Rg Go.BigFrame

theorem laidOutK : laidOutB Tryz.prog = true := by kernel_rfl
theorem ownK : ownKnob Tryz.prog.godebug = none := by kernel_rfl

/-- What was below the old heap's end stands. -/
theorem below_of_ext {W W' : World} (h : Ext W W') : Below W.heap.size W W' := h

theorem array6 {α : Type} {cs : Array α} (h : cs.size = 6) : ∃ c0 c1 c2 c3 c4 c5, cs = #[c0, c1, c2, c3, c4, c5] := by
  obtain ⟨l⟩ := cs
  match l, h with
  | [c0, c1, c2, c3, c4, c5], _ => exact ⟨c0, c1, c2, c3, c4, c5, rfl⟩

section
variable {H : Type} {enc : TypeId × Value → H} {P : Program} {w : World} {base : Nat} {spare : Nat → Bool} {held : Bool}
theorem trod_struct6 {t : TypeId} {f0 f1 f2 f3 f4 f5 : Field} {fuel : Nat} {cs : List Value} {x : DataW H × List MemPlace} (ht : P.underlying t = some (.struct #[f0, f1, f2, f3, f4, f5])) (h : DataW.trod enc P w base spare held fuel t cs = some x) :
    ∃ y0 y1 y2 y3 y4 y5 n, DataW.trod enc P w base spare held n f0.type ((cs.drop f0.offset).take (P.cellsOf f0.type)) = some y0 ∧
      DataW.trod enc P w base spare held n f1.type ((cs.drop f1.offset).take (P.cellsOf f1.type)) = some y1 ∧ DataW.trod enc P w base spare held n f2.type ((cs.drop f2.offset).take (P.cellsOf f2.type)) = some y2 ∧
      DataW.trod enc P w base spare held n f3.type ((cs.drop f3.offset).take (P.cellsOf f3.type)) = some y3 ∧ DataW.trod enc P w base spare held n f4.type ((cs.drop f4.offset).take (P.cellsOf f4.type)) = some y4 ∧
      DataW.trod enc P w base spare held n f5.type ((cs.drop f5.offset).take (P.cellsOf f5.type)) = some y5 := by
  obtain ⟨xs, n, _, rfl, hl, hlen, hf⟩ := DataW.trod_struct ht h
  match xs, hlen with
  | [y0, y1, y2, y3, y4, y5], _ => exact ⟨y0, y1, y2, y3, y4, y5, n, by simpa using hf 0 f0 rfl, by simpa using hf 1 f1 rfl, by simpa using hf 2 f2 rfl, by simpa using hf 3 f3 rfl, by simpa using hf 4 f4 rfl, by simpa using hf 5 f5 rfl⟩
theorem open_agg6 {r : Reach} {b0 : Nat} {t : TypeId} {f0 f1 f2 f3 f4 f5 : Field} {v : Value} {d : DataW H} {p : List MemPlace} (hs : P.underlying t = some (.struct #[f0, f1, f2, f3, f4, f5])) (hone : oneCellFields P #[f0, f1, f2, f3, f4, f5] = true) (hC : P.cellsOf t = 6)
    (hv : Value.okWide P w r b0 t v) (h : DataW.Trod enc P w base spare held t v d p) :
    ∃ (v0 v1 v2 v3 v4 v5 : Value) (y0 y1 y2 y3 y4 y5 : DataW H × List MemPlace) (n : Nat), v = .agg #[v0, v1, v2, v3, v4, v5] ∧
      DataW.trod enc P w base spare held n f0.type [v0] = some y0 ∧ DataW.trod enc P w base spare held n f1.type [v1] = some y1 ∧ DataW.trod enc P w base spare held n f2.type [v2] = some y2 ∧ DataW.trod enc P w base spare held n f3.type [v3] = some y3 ∧
      DataW.trod enc P w base spare held n f4.type [v4] = some y4 ∧ DataW.trod enc P w base spare held n f5.type [v5] = some y5 := by
  obtain ⟨cs, rfl, hsz⟩ := okWide_struct hs hv
  obtain ⟨c0, c1, c2, c3, c4, c5, rfl⟩ := array6 (hsz.trans hC)
  obtain ⟨fuel, hf⟩ := h
  obtain ⟨y0, y1, y2, y3, y4, y5, n, h0, h1, h2, h3, h4, h5⟩ := trod_struct6 hs hf
  obtain ⟨o0, k0⟩ := hone_of hone 0 f0 rfl
  obtain ⟨o1, k1⟩ := hone_of hone 1 f1 rfl
  obtain ⟨o2, k2⟩ := hone_of hone 2 f2 rfl
  obtain ⟨o3, k3⟩ := hone_of hone 3 f3 rfl
  obtain ⟨o4, k4⟩ := hone_of hone 4 f4 rfl
  obtain ⟨o5, k5⟩ := hone_of hone 5 f5 rfl
  exact ⟨c0, c1, c2, c3, c4, c5, y0, y1, y2, y3, y4, y5, n, rfl, by simpa [Value.cells, o0, k0] using h0, by simpa [Value.cells, o1, k1] using h1, by simpa [Value.cells, o2, k2] using h2, by simpa [Value.cells, o3, k3] using h3, by simpa [Value.cells, o4, k4] using h4, by simpa [Value.cells, o5, k5] using h5⟩
end



/-! ### Slices of structs that came in -/
theorem flat_at {α : Type} (f : α → List Value) (size : Nat) (hs : ∀ x, (f x).length = size) (l : List α) (k j : Nat) (hk : k < l.length) (hj : j < size) : (l.flatMap f)[k * size + j]? = (f (l[k]'hk))[j]? := by
  induction l generalizing k with
  | nil => simp at hk
  | cons o l ih =>
    cases k with
    | zero =>
      simp only [List.flatMap_cons, Nat.zero_mul, Nat.zero_add, List.getElem_cons_zero]
      rw [List.getElem?_append_left (by rw [hs]; exact hj)]
    | succ k =>
      have h2 : (k + 1) * size = k * size + size := Nat.succ_mul k size
      simp only [List.flatMap_cons, List.getElem_cons_succ]
      rw [List.getElem?_append_right (by rw [hs]; omega), hs, show (k + 1) * size + j - size = k * size + j by omega]
      exact ih k (by simpa using hk)
theorem flat_len {α : Type} (f : α → List Value) (size : Nat) (hs : ∀ x, (f x).length = size) (l : List α) : (l.flatMap f).length = l.length * size := by
  induction l with
  | nil => simp
  | cons o l ih => rw [List.flatMap_cons, List.length_append, ih, hs, List.length_cons, Nat.succ_mul, Nat.add_comm]

theorem addr_at {a : Addr} (h : a.spot = none) (i : Nat) : a.add i = ⟨a.block, a.off + i, none⟩ := by
  unfold Addr.add
  split
  · rename_i hi
    subst hi
    obtain ⟨b, o, s⟩ := a
    simp only at h
    subst h
    rfl
  · rfl

theorem exists_list {α : Type} (q : Nat → α → Prop) : ∀ n : Nat, (∀ i, i < n → ∃ x, q i x) → ∃ l : List α, l.length = n ∧ ∀ i (hi : i < l.length), q i (l[i]'hi)
  | 0, _ => ⟨[], rfl, fun i hi => by simp at hi⟩
  | n + 1, h => by
    obtain ⟨l, hl, hq⟩ := exists_list q n (fun i hi => h i (by omega))
    obtain ⟨x, hx⟩ := h n (by omega)
    refine ⟨l ++ [x], by simp [hl], fun i hi => ?_⟩
    by_cases hi2 : i < l.length
    · rw [List.getElem_append_left hi2]; exact hq i hi2
    · have : i = l.length := by simp at hi; omega
      subst this
      simp
      rw [hl]; exact hx

section
variable {H : Type} {enc : TypeId × Value → H} {P : Program} {w : World} {base : Nat} {spare : Nat → Bool} {held : Bool}

theorem fld_at {t : TypeId} {fs : Array Field} {fuel : Nat} {cs : List Value} {x : DataW H × List MemPlace} (ht : P.underlying t = some (.struct fs)) (h : DataW.trod enc P w base spare held fuel t cs = some x) (i off k : Nat) (u : TypeId)
    (hf : (fs[i]?).map (fun f => (f.type, f.offset)) = some (u, off)) (hc : P.cellsOf u = k) : ∃ n y, DataW.trod enc P w base spare held n u ((cs.drop off).take k) = some y := by
  obtain ⟨xs, n, _, _, _, hlen, hfs⟩ := DataW.trod_struct ht h
  rw [Option.map_eq_some_iff] at hf
  obtain ⟨f, hf, e⟩ := hf
  simp only [Prod.mk.injEq] at e
  obtain ⟨e1, e2⟩ := e
  subst e1 e2 hc
  have hi : i < fs.size := (Array.getElem?_eq_some_iff.1 hf).1
  exact ⟨n, _, (hfs i f hf).trans (List.getElem?_eq_getElem (by omega))⟩

/-- A slice of structs: its elements, and the cells where they lie. -/
theorem open_args {α : Type} (f : α → List Value) (ok : α → Prop) (size : Nat) (hsz : 0 < size) (hs : ∀ x, (f x).length = size) {t e : TypeId} (ht : P.underlying t = some (.slice e)) (hc : P.cellsOf e = size)
    (hop : ∀ n cs y, DataW.trod enc P w base spare held n e cs = some y → ∃ x, cs = f x ∧ ok x) {fuel : Nat} {cs : List Value} {x : DataW H × List MemPlace} (h : DataW.trod enc P w base spare held fuel t cs = some x) :
    ∃ (v : Value) (l : List α), cs = [v] ∧ ArgSl w size v l.length (l.flatMap f) ∧ ∀ x ∈ l, ok x := by
  rcases DataW.trod_slice ht h with ⟨rfl, _⟩ | ⟨a, len, cap, elems, rest, n, _, rfl, _, _, hl, hm, hlen, hel, _, _⟩
  · exact ⟨_, [], rfl, ⟨none, 0, rfl, Nat.le_refl _, by unfold maxLen; omega, by simp, .inl rfl⟩, fun x hx => by simp at hx⟩
  · obtain ⟨l, hll, hq⟩ := exists_list (fun i y => ok y ∧ ∀ j, j < size → w.cell? ((a.add (i * size)).add j) = (f y)[j]?) len (fun i hi => by
      have hb := hel i hi
      rw [hc, List.getElem?_eq_getElem (by omega), Option.bind_eq_some_iff] at hb
      obtain ⟨cs', hcs, hy⟩ := hb
      obtain ⟨y, rfl, hok⟩ := hop _ _ _ hy
      exact ⟨y, hok, fun j hj => (World.cells?_some hcs).2.2 j hj⟩)
    subst hll
    refine ⟨_, l, rfl, ⟨some a, cap, rfl, hl, hm, flat_len f size hs l, ?_⟩, fun y hy => by obtain ⟨i, hi, rfl⟩ := List.getElem_of_mem hy; exact (hq i hi).1⟩
    rcases Nat.eq_zero_or_pos l.length with h0 | h0
    · exact .inl h0
    · have hfirst := (hq 0 h0).2 0 hsz
      rw [Nat.zero_mul] at hfirst
      have hz : (a.add 0).add 0 = a := by simp [Addr.add]
      rw [hz, List.getElem?_eq_getElem (by rw [hs]; exact hsz)] at hfirst
      have hsp : a.spot = none := by
        unfold World.cell? at hfirst
        split at hfirst
        · split at hfirst
          · cases hfirst
          · rename_i hn
            simpa using hn
        · cases hfirst
      have hlt : a.block < w.heap.size := by
        unfold World.cell? at hfirst
        split at hfirst
        · rename_i hh
          exact (Array.getElem?_eq_some_iff.1 hh).1
        · cases hfirst
      refine .inr ⟨a.block, a.off, ?_, hlt, fun j u hu => ?_⟩
      · obtain ⟨b, o, s⟩ := a
        simp only at hsp
        subst hsp
        rfl
      · have hj : j < l.length * size := by
          rw [← flat_len f size hs l]
          exact (List.getElem?_eq_some_iff.1 hu).1
        have hk : j / size < l.length := (Nat.div_lt_iff_lt_mul hsz).2 hj
        have hm' : j % size < size := Nat.mod_lt _ hsz
        have hjj : j / size * size + j % size = j := by rw [Nat.mul_comm]; exact Nat.div_add_mod j size
        have h1 := (hq (j / size) hk).2 (j % size) hm'
        rw [← flat_at f size hs l (j / size) (j % size) hk hm', hjj, hu, addr_at hsp, addr_at (a := ⟨a.block, a.off + j / size * size, none⟩) rfl] at h1
        rw [← h1]
        congr 1
        simp only [Nat.add_assoc, hjj]
end

theorem list5 {α : Type} {cs : List α} (h : cs.length = 5) : ∃ c0 c1 c2 c3 c4, cs = [c0, c1, c2, c3, c4] := by
  match cs, h with
  | [c0, c1, c2, c3, c4], _ => exact ⟨c0, c1, c2, c3, c4, rfl⟩
theorem list7 {α : Type} {cs : List α} (h : cs.length = 7) : ∃ c0 c1 c2 c3 c4 c5 c6, cs = [c0, c1, c2, c3, c4, c5, c6] := by
  match cs, h with
  | [c0, c1, c2, c3, c4, c5, c6], _ => exact ⟨c0, c1, c2, c3, c4, c5, c6, rfl⟩

section
variable {H : Type} {enc : TypeId × Value → H} {w : World} {base : Nat} {spare : Nat → Bool} {held : Bool}

theorem one_int {k : IntKind} {t : TypeId} {n : Nat} {v : Value} {y : DataW H × List MemPlace} (ht : Tryz.prog.underlying t = some (.int k)) (h : DataW.trod enc Tryz.prog w base spare held n t [v] = some y) : ∃ i, v = .int k i ∧ (Lit.int k i).wf = true := by
  obtain ⟨i, e, _, hw⟩ := DataW.trod_int ht h
  cases e
  exact ⟨i, rfl, hw⟩

set_option maxRecDepth 100000 in
theorem open_act {fuel : Nat} {cs : List Value} {x : DataW H × List MemPlace} (h : DataW.trod enc Tryz.prog w base spare held fuel 182 cs = some x) : ∃ a : Act5, cs = a.cells ∧ a.ok := by
  have hu := Tryz.underlying182
  have hl := (DataW.trod_struct hu h).choose_spec.choose_spec.2.2.1
  obtain ⟨c0, c1, c2, c3, c4, rfl⟩ := list5 (hl.trans (by kernel_rfl))
  obtain ⟨_, _, h0⟩ := fld_at hu h 0 0 1 _ rfl (by kernel_rfl)
  obtain ⟨_, _, h1⟩ := fld_at hu h 1 1 1 _ rfl (by kernel_rfl)
  obtain ⟨_, _, h2⟩ := fld_at hu h 2 2 1 _ rfl (by kernel_rfl)
  obtain ⟨_, _, h3⟩ := fld_at hu h 3 3 1 _ rfl (by kernel_rfl)
  obtain ⟨_, _, h4⟩ := fld_at hu h 4 4 1 _ rfl (by kernel_rfl)
  simp only [List.drop_succ_cons, List.drop_zero, List.take_succ_cons, List.take_zero] at h0 h1 h2 h3 h4
  obtain ⟨x0, rfl, w0⟩ := one_int Tryz.underlying5 h0
  obtain ⟨x1, rfl, _⟩ := one_int Tryz.underlying27 h1
  obtain ⟨x2, rfl, _⟩ := one_int Tryz.underlying27 h2
  obtain ⟨x3, rfl, _⟩ := one_int Tryz.underlying28 h3
  obtain ⟨x4, rfl, w4⟩ := one_int Tryz.underlying2 h4
  have b0 := bounds_u8 w0
  have b4 := bounds_i64 w4
  exact ⟨⟨x0, x1, x2, x3, x4⟩, rfl, b0.1, b0.2, b4.2⟩

set_option maxRecDepth 100000 in
theorem open_off {fuel : Nat} {cs : List Value} {x : DataW H × List MemPlace} (h : DataW.trod enc Tryz.prog w base spare held fuel 32 cs = some x) : ∃ a : Off, cs = a.cells ∧ a.in64 := by
  have hu := Tryz.underlying32
  have hl := (DataW.trod_struct hu h).choose_spec.choose_spec.2.2.1
  obtain ⟨c0, c1, c2, c3, c4, c5, c6, rfl⟩ := list7 (hl.trans (by kernel_rfl))
  obtain ⟨_, _, h0⟩ := fld_at hu h 0 0 1 _ rfl (by kernel_rfl)
  obtain ⟨_, _, h1⟩ := fld_at hu h 1 1 1 _ rfl (by kernel_rfl)
  obtain ⟨_, _, h2⟩ := fld_at hu h 2 2 1 _ rfl (by kernel_rfl)
  obtain ⟨_, _, h3⟩ := fld_at hu h 3 3 1 _ rfl (by kernel_rfl)
  obtain ⟨_, _, h4⟩ := fld_at hu h 4 4 1 _ rfl (by kernel_rfl)
  obtain ⟨_, _, hr⟩ := fld_at hu h 5 5 2 _ rfl (by kernel_rfl)
  have hv := Tryz.underlying30
  obtain ⟨_, _, h5⟩ := fld_at hv hr 0 0 1 _ rfl (by kernel_rfl)
  obtain ⟨_, _, h6⟩ := fld_at hv hr 1 1 1 _ rfl (by kernel_rfl)
  simp only [List.drop_succ_cons, List.drop_zero, List.take_succ_cons, List.take_zero] at h0 h1 h2 h3 h4 h5 h6
  obtain ⟨x0, rfl, w0⟩ := one_int Tryz.underlying26 h0
  obtain ⟨x1, rfl, _⟩ := one_int Tryz.underlying27 h1
  obtain ⟨x2, rfl, _⟩ := one_int Tryz.underlying28 h2
  obtain ⟨x3, rfl, _⟩ := one_int Tryz.underlying28 h3
  obtain ⟨x4, rfl, w4⟩ := one_int Tryz.underlying2 h4
  obtain ⟨x5, rfl, w5⟩ := one_int Tryz.underlying2 h5
  obtain ⟨x6, rfl, w6⟩ := one_int Tryz.underlying2 h6
  exact ⟨⟨x0, x1, x2, x3, x4, x5, x6⟩, rfl, (bounds_i64 w5).2, (bounds_i64 w6).2⟩

set_option maxRecDepth 100000 in
/-- A world, opened. -/
theorem open_world {b0 : Nat} {r : Reach} {v : Value} {d : DataW H} {p : List MemPlace} (hv : Value.okWide Tryz.prog w r b0 25 v) (h : DataW.Trod enc Tryz.prog w base spare held 25 v d p) :
    ∃ (va vo : Value) (acts : List Act5) (offs : List Off), v = .agg #[va, vo] ∧ ArgSl w 5 va acts.length (actCells acts) ∧ (∀ x ∈ acts, x.ok) ∧ ArgSl w 7 vo offs.length (offCells offs) ∧ ∀ x ∈ offs, x.in64 := by
  obtain ⟨v0, v1, y0, y1, n, rfl, _, _, k0, k1⟩ := open_agg2 Tryz.underlying25 (by kernel_rfl) (by kernel_rfl) hv h
  obtain ⟨va, acts, e0, ha, hoa⟩ := open_args Act5.cells Act5.ok 5 (by omega) (fun _ => rfl) Tryz.underlying22 (by kernel_rfl) (fun n cs y => open_act) k0
  obtain ⟨vo, offs, e1, ho, hoo⟩ := open_args Off.cells Off.in64 7 (by omega) (fun _ => rfl) Tryz.underlying23 (by kernel_rfl) (fun n cs y => open_off) k1
  cases e0
  cases e1
  exact ⟨v0, v1, acts, offs, rfl, ha, hoa, ho, hoo⟩
end
end Go.Proofs.YtahdgojcebajkaaGreat

namespace Go.Rg
open Go.RowKit
section
variable {P : Program} {ops : Array Oper} {md : Region.Mode}
/-- A call that a guard lets by. -/
theorem wpX_callg {n f : Nat} {L : Array Bool → Act → World → Prop} {listed : Array Bool} {a : Act} {w0 w : World} (i : Nat) (g : FuncId) (fn : Func) (vals : Array Value) (o : Oper) (ho : ops[i]? = some o) (args : Array Operand) (ts : Array TypeId)
    (hop : o.op = .call { callee := .value (.func g), args := args, argTypes := ts }) (hf : P.funcs[g]? = some fn) (hb : fn.body.isNone = false) (hn : (fn.name == "runtime.NumGoroutine") = false) (hv : args.map a.eval = vals) (hw : Region.wanted o (yielded ops a.tmps) = true)
    (hr : Region.ready md ops listed = [i]) (hin : i < n)
    (h : ∀ w' : World, Ext w0 w' → Ext w w' → Calls P g vals w' (fun e w'' => ∃ v, e = .returned v ∧ Ext w0 w'' ∧ wpX P md ops w0 n L f (listed.setIfInBounds i true) (a.put o.dst v) w'')) : wpX P md ops w0 n L (f + 1) listed a w :=
  wpX_one i o hr hin ho hw fun w' h0 hw' => by
    unfold xRun
    rw [run_call_func fn hop hf hb hn w', hv]
    exact h w' h0 hw'
end
end Go.Rg

namespace Go.Proofs.YtahdgojcebajkaaGreat
open Go.RowKit Go.Rg Go.BigFrame

theorem led_ne {w : World} {p m x : Nat} {L : Led} {cs : Array Value} {t : TypeId} {fr : Nat × Nat} (h : IsLed w p m L) (hr : w.heap[x]? = some (.cells cs t fr)) (ht : t ≠ 152) : p ∉ [x] ∧ m ∉ [x] := by
  obtain ⟨es, c, hm, _⟩ := h.map
  refine ⟨fun hx => ?_, fun hx => ?_⟩
  · have : p = x := by simpa using hx
    subst this
    rw [h.row] at hr
    simp only [Option.some.injEq, Obj.cells.injEq] at hr
    exact ht hr.2.1.symm
  · have : m = x := by simpa using hx
    subst this
    rw [hm] at hr
    cases hr
theorem book_ne {w : World} {p x : Nat} {g : Option Nat} {B : Bk} {cs : Array Value} {t : TypeId} {fr : Nat × Nat} (h : IsBook w p g B) (hr : w.heap[x]? = some (.cells cs t fr)) (ht : t ≠ 126) (ht2 : t ≠ 32) : p ∉ [x] ∧ ∀ y, g = some y → y ∉ [x] := by
  obtain ⟨v, hv, hg, hob⟩ := h.row
  refine ⟨fun hx => ?_, fun y hy hx => ?_⟩
  · have : p = x := by simpa using hx
    subst this
    rw [hv] at hr
    simp only [Option.some.injEq, Obj.cells.injEq] at hr
    exact ht hr.2.1.symm
  · have : y = x := by simpa using hx
    subst this
    rcases hob.2 with ⟨rfl, _⟩ | ⟨b, cap, cur, rfl, _, hh, _⟩
    · rw [← hg] at hy; simp [Value.ownBlock] at hy
    · rw [← hg] at hy
      simp only [Value.ownBlock, Option.some.injEq] at hy
      subst hy
      rw [hh] at hr
      simp only [Option.some.injEq, Obj.cells.injEq] at hr
      exact ht2 hr.2.1.symm
theorem SlAt.keepS {S : List Nat} {w w' : World} {base size n : Nat} {v : Value} {xs : List Value} (h : SlAt w base size v n xs) (k : Keep S w w') (hS : ∀ x ∈ S, x < base) : SlAt w' base size v n xs := by
  obtain ⟨A, cap, h0, h1, h2, h3, h4⟩ := h
  refine ⟨A, cap, h0, h1, h2, h3, ?_⟩
  rcases h4 with h4 | ⟨g, h4, h5, h6, h7⟩
  · exact .inl h4
  · exact .inr ⟨g, h4, h5, Nat.lt_of_lt_of_le h6 k.size, fun j u hu => by
      rw [cell_block (k.block g h6 (fun hx => by have := hS g hx; omega))]
      exact h7 j u hu⟩

/-- Numbers rise. -/
def SeqLt (B : Bk) : Prop := SeqN B ∧ ∀ o ∈ B.offs, o.seq < B.next
theorem seqLt_step {B : Bk} (h : SeqLt B) (o : Off) : SeqLt (stepB B o) := by
  unfold stepB placeR
  split
  · exact h
  · split
    · exact h
    · obtain ⟨h1, h2⟩ := h
      refine ⟨?_, fun x hx => ?_⟩
      · unfold SeqN at *
        simp only [List.map_append, List.map_cons, List.map_nil]
        rw [List.nodup_append]
        refine ⟨h1, by simp, fun a ha b hb e => ?_⟩
        obtain ⟨y, hy, rfl⟩ := List.mem_map.1 ha
        have := h2 y hy
        simp at hb
        omega
      · simp only [List.mem_append, List.mem_singleton] at hx
        rcases hx with hx | rfl
        · have := h2 x hx
          simp only
          omega
        · simp only
          omega
theorem seqLt_made (l : List Off) : SeqLt (madeB l) := by
  unfold madeB
  have h0 : SeqLt ⟨[], 1⟩ := ⟨by simp [SeqN], fun o ho => by simp at ho⟩
  generalize (⟨[], 1⟩ : Bk) = B at *
  induction l generalizing B with
  | nil => exact h0
  | cons o l ih => exact ih _ (seqLt_step h0 o)
end Go.Proofs.YtahdgojcebajkaaGreat

namespace Go.Proofs.YtahdgojcebajkaaGreat
open Go.Joins Go.Deep Go.WideElems Go.Maps Go.ChangeShapes Go.WideShapes Go.ChangeAt Go.RowKit Go.Rg Go.BigFrame

section
variable {H : Type} {enc : TypeId × Value → H} {w : World} {base : Nat} {spare : Nat → Bool} {held : Bool}
set_option maxRecDepth 100000 in
theorem open_offL {fuel : Nat} {cs : List Value} {x : DataW H × List MemPlace} (h : DataW.trod enc Tryz.prog w base spare held fuel 32 cs = some x) : ∃ a : Off, cs = a.cells ∧ a.left ≤ 9223372036854775807 ∧ a.num ≤ 9223372036854775807 ∧ a.den ≤ 9223372036854775807 := by
  have hu := Tryz.underlying32
  have hl := (DataW.trod_struct hu h).choose_spec.choose_spec.2.2.1
  obtain ⟨c0, c1, c2, c3, c4, c5, c6, rfl⟩ := list7 (hl.trans (by kernel_rfl))
  obtain ⟨_, _, h0⟩ := fld_at hu h 0 0 1 _ rfl (by kernel_rfl)
  obtain ⟨_, _, h1⟩ := fld_at hu h 1 1 1 _ rfl (by kernel_rfl)
  obtain ⟨_, _, h2⟩ := fld_at hu h 2 2 1 _ rfl (by kernel_rfl)
  obtain ⟨_, _, h3⟩ := fld_at hu h 3 3 1 _ rfl (by kernel_rfl)
  obtain ⟨_, _, h4⟩ := fld_at hu h 4 4 1 _ rfl (by kernel_rfl)
  obtain ⟨_, _, hr⟩ := fld_at hu h 5 5 2 _ rfl (by kernel_rfl)
  have hv := Tryz.underlying30
  obtain ⟨_, _, h5⟩ := fld_at hv hr 0 0 1 _ rfl (by kernel_rfl)
  obtain ⟨_, _, h6⟩ := fld_at hv hr 1 1 1 _ rfl (by kernel_rfl)
  simp only [List.drop_succ_cons, List.drop_zero, List.take_succ_cons, List.take_zero] at h0 h1 h2 h3 h4 h5 h6
  obtain ⟨x0, rfl, w0⟩ := one_int Tryz.underlying26 h0
  obtain ⟨x1, rfl, _⟩ := one_int Tryz.underlying27 h1
  obtain ⟨x2, rfl, _⟩ := one_int Tryz.underlying28 h2
  obtain ⟨x3, rfl, _⟩ := one_int Tryz.underlying28 h3
  obtain ⟨x4, rfl, w4⟩ := one_int Tryz.underlying2 h4
  obtain ⟨x5, rfl, w5⟩ := one_int Tryz.underlying2 h5
  obtain ⟨x6, rfl, w6⟩ := one_int Tryz.underlying2 h6
  exact ⟨⟨x0, x1, x2, x3, x4, x5, x6⟩, rfl, (bounds_i64 w4).2, (bounds_i64 w5).2, (bounds_i64 w6).2⟩

set_option maxRecDepth 100000 in
/-- An offer, opened. -/
theorem open_offer {b0 : Nat} {r : Reach} {v : Value} {d : DataW H} {p : List MemPlace} (hv : Value.okWide Tryz.prog w r b0 32 v) (h : DataW.Trod enc Tryz.prog w base spare held 32 v d p) :
    ∃ a : Off, v = a.agg ∧ a.left ≤ 9223372036854775807 ∧ a.num ≤ 9223372036854775807 ∧ a.den ≤ 9223372036854775807 := by
  obtain ⟨cs, rfl, hsz⟩ := okWide_struct Tryz.underlying32 hv
  obtain ⟨fuel, hf⟩ := h
  obtain ⟨a, ha, hb⟩ := open_offL hf
  refine ⟨a, ?_, hb⟩
  obtain ⟨l⟩ := cs
  simp only [Value.cells] at ha
  have : l = a.cells := by simpa using ha
  subst this
  rfl
end
end Go.Proofs.YtahdgojcebajkaaGreat
