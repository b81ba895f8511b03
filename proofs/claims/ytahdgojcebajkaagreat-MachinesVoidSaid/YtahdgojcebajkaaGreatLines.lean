/- Lines of a ledger in their order, plainly; positions. What a payment does to positions, plainly. The sort of a ledger's lines: order, SortFunc. Lines of a ledger, in their order; a party's position. Lists of lines, and of offers, that are the same. Positions; whether one has moved; whether debts are sound. -/
import Derived.Test.YtahdgojcebajkaaGreatWf
import Derived.Test.YtahdgojcebajkaaGreatSortP
import Derived.Test.YtahdgojcebajkaaGreatCmpD
import Derived.Test.YtahdgojcebajkaaGreatBest
import Derived.Test.YtahdgojcebajkaaGreatBest2
import Derived.Maps.RangeRun
import Derived.Maps.RangeWalk
import Derived.Test.YtahdgojcebajkaaGreatAll

namespace Go.Proofs.YtahdgojcebajkaaGreat

/-- A line: its ends and what is owed. -/
abbrev Ln := K3 × V2
def lnCells (x : Ln) : List Value := [.int .u8 x.1.1, .int .u8 x.1.2.1, .int .u8 x.1.2.2, .int .i64 x.2.1, .int .i64 x.2.2]
def lnAgg (x : Ln) : Value := .agg #[.int .u8 x.1.1, .int .u8 x.1.2.1, .int .u8 x.1.2.2, .int .i64 x.2.1, .int .i64 x.2.2]
def lnsCells (l : Lines) : List Value := l.flatMap lnCells
def cmpLn (x y : Ln) : Int := orI (cmpI x.1.2.2 y.1.2.2) (orI (cmpI x.1.1 y.1.1) (cmpI x.1.2.1 y.1.2.1))
def ltLn (x y : Ln) : Bool := decide (cmpLn x y < 0)
def linesR (l : Lines) : Lines := sortR ltLn l

theorem ltLn_true {x y : Ln} : ltLn x y = true ↔ x.1.2.2 < y.1.2.2 ∨ (x.1.2.2 = y.1.2.2 ∧ (x.1.1 < y.1.1 ∨ (x.1.1 = y.1.1 ∧ x.1.2.1 < y.1.2.1))) := by
  unfold ltLn cmpLn
  rw [decide_eq_true_eq, orI_neg, orI_neg, cmpI_neg, cmpI_zero, cmpI_neg, cmpI_zero, cmpI_neg]
theorem ltLn_false {x y : Ln} : ltLn x y = false ↔ ¬ (x.1.2.2 < y.1.2.2 ∨ (x.1.2.2 = y.1.2.2 ∧ (x.1.1 < y.1.1 ∨ (x.1.1 = y.1.1 ∧ x.1.2.1 < y.1.2.1)))) := by
  rw [← Bool.not_eq_true, ltLn_true]
theorem ltLn_irrefl (x : Ln) : ltLn x x = false := by rw [ltLn_false]; omega
theorem ltLn_asymm (x y : Ln) (h : ltLn x y = true) : ltLn y x = false := by
  rw [ltLn_true] at h
  rw [ltLn_false]
  omega
theorem ltLn_ntrans (x y z : Ln) (h1 : ltLn x y = false) (h2 : ltLn y z = false) : ltLn x z = false := by
  rw [ltLn_false] at *
  omega
theorem ltLn_trans (x y z : Ln) (h1 : ltLn x y = true) (h2 : ltLn y z = true) : ltLn x z = true := by
  rw [ltLn_true] at *
  omega
theorem ltLn_total {x y : Ln} (h1 : ltLn x y = false) (h2 : ltLn y x = false) : x.1 = y.1 := by
  rw [ltLn_false] at *
  obtain ⟨⟨a, b, c⟩, v⟩ := x
  obtain ⟨⟨a', b', c'⟩, v'⟩ := y
  simp only at *
  have e1 : c = c' := by omega
  have e2 : a = a' := by omega
  have e3 : b = b' := by omega
  rw [e1, e2, e3]
theorem linesR_perm (l : Lines) : (linesR l).Perm l := sortR_perm _ _
theorem keys_one {l : Lines} (h : (l.map (·.1)).Nodup) : ∀ x ∈ l, ∀ y ∈ l, x.1 = y.1 → x = y := by
  intro x hx y hy e
  induction l with
  | nil => cases hx
  | cons z l ih =>
    rw [List.map_cons, List.nodup_cons] at h
    rcases List.mem_cons.1 hx with hx2 | hx2
    · rcases List.mem_cons.1 hy with hy2 | hy2
      · rw [hx2, hy2]
      · exact absurd (List.mem_map.2 ⟨y, hy2, by rw [← e, hx2]⟩) h.1
    · rcases List.mem_cons.1 hy with hy2 | hy2
      · exact absurd (List.mem_map.2 ⟨x, hx2, by rw [e, hy2]⟩) h.1
      · exact ih h.2 hx2 hy2
/-- Whatever sorted list of a ledger's lines there is: it is the list of its lines. -/
theorem linesR_one {l l' : Lines} (hk : (l.map (·.1)).Nodup) (hp : l'.Perm l) (h : l'.Pairwise (fun a b => ltLn b a = false)) : l' = linesR l :=
  sorted_one l' _ (hp.trans (linesR_perm l).symm) h (sortR_sorted (p := fun _ => True) (fun x y _ _ => ltLn_asymm x y) (fun x y z _ _ _ => ltLn_ntrans x y z) _ fun _ _ => trivial)
    fun x hx y hy h1 h2 => keys_one hk x (hp.subset hx) y (hp.subset hy) (ltLn_total h1 h2)
theorem linesR_len (l : Lines) : (linesR l).length = l.length := (linesR_perm l).length_eq
theorem mem_linesR {l : Lines} {x : Ln} : x ∈ linesR l ↔ x ∈ l := (linesR_perm l).mem_iff

/-! ### Positions -/

/-- What a line adds to a party's position. -/
def posT (p c : Int) (x : Ln) : Int := if x.1.2.2 = c then (if x.1.1 = p then x.2.2 else if x.1.2.1 = p then -x.2.2 else 0) else 0
def sumI : List Int → Int
  | [] => 0
  | x :: l => x + sumI l
theorem sumI_perm {l l' : List Int} (h : l.Perm l') : sumI l = sumI l' := by
  induction h with
  | nil => rfl
  | cons x _ ih => simp only [sumI, ih]
  | swap x y l => simp only [sumI]; omega
  | trans _ _ h1 h2 => rw [h1, h2]
theorem sumI_append (l l' : List Int) : sumI (l ++ l') = sumI l + sumI l' := by
  induction l with
  | nil => simp [sumI]
  | cons x l ih => simp only [List.cons_append, sumI, ih]; omega
def posL (l : Lines) (p c : Int) : Int := sumI (l.map (posT p c))
def posR (L : Led) (p c : Int) : Int := posL L.lines p c
theorem posL_perm {l l' : Lines} (h : l.Perm l') (p c : Int) : posL l p c = posL l' p c := sumI_perm (h.map _)
theorem posL_lines (l : Lines) (p c : Int) : posL (linesR l) p c = posL l p c := posL_perm (linesR_perm l) p c
theorem posL_take (l : Lines) (k : Nat) (hk : k < l.length) (p c : Int) : posL (l.take (k + 1)) p c = posL (l.take k) p c + posT p c (l[k]'hk) := by
  unfold posL
  rw [List.take_succ_eq_append_getElem hk, List.map_append, sumI_append]
  simp [sumI]
theorem posT_bd {x : Ln} (p c : Int) (h0 : 0 ≤ x.2.2) (h1 : x.2.2 ≤ 1099511627776) : -1099511627776 ≤ posT p c x ∧ posT p c x ≤ 1099511627776 := by
  unfold posT
  repeat' split
  all_goals omega
theorem posL_bd (p c : Int) : ∀ (l : Lines), (∀ x ∈ l, 0 ≤ x.2.2 ∧ x.2.2 ≤ 1099511627776) → -(1099511627776 * (l.length : Int)) ≤ posL l p c ∧ posL l p c ≤ 1099511627776 * (l.length : Int)
  | [], _ => by simp [posL, sumI]
  | x :: l, h => by
    have h1 := posT_bd p c (h x (by simp)).1 (h x (by simp)).2
    have h2 := posL_bd p c l (fun y hy => h y (by simp [hy]))
    unfold posL at *
    simp only [List.map_cons, sumI, List.length_cons]
    omega
end Go.Proofs.YtahdgojcebajkaaGreat

namespace Go.Proofs.YtahdgojcebajkaaGreat

/-! ### One line turns -/
/-- So much goes from a to b. -/
def mvP (p c' a b c n : Int) : Int := if c' = c then (if p = b then n else 0) - (if p = a then n else 0) else 0

/-! ### What is left of a line -/
/-! ### The graph of a ledger, cell by cell -/
/-! ### A way, a route, a payment -/
/-- What a ledger's fate is when so much goes from a to b. -/
structure WayP (L L' : Led) (a b c n : Int) : Prop where
  wf : WF L'
  par : L'.par = L.par
  pos : ∀ p c', posR L' p c' = posR L p c' + mvP p c' a b c n
  other : ∀ c', c' ≠ c → ofR L' c' = ofR L c'
  lims : L'.lines.map (fun x => (x.1, x.2.1)) = L.lines.map (fun x => (x.1, x.2.1))
theorem mvP_zero (p c' a b c : Int) : mvP p c' a b c 0 = 0 := by unfold mvP; simp
theorem mvP_trans (p c' a b e c n : Int) : mvP p c' a b c n + mvP p c' b e c n = mvP p c' a e c n := by
  unfold mvP
  split
  · omega
  · rfl
theorem mvP_add (p c' a b c n k : Int) : mvP p c' a b c n + mvP p c' a b c k = mvP p c' a b c (n + k) := by
  unfold mvP
  repeat' split
  all_goals omega
theorem WayP.refl {L : Led} (hw : WF L) (a b c : Int) : WayP L L a b c 0 := ⟨hw, rfl, fun p c' => by rw [mvP_zero]; omega, fun _ _ => rfl, rfl⟩
theorem WayP.trans {L L' L2 : Led} {a b e c n : Int} (h : WayP L L' a b c n) (k : WayP L' L2 b e c n) : WayP L L2 a e c n :=
  ⟨k.wf, k.par.trans h.par, fun p c' => by rw [k.pos, h.pos, ← mvP_trans p c' a b e c n]; omega, fun c' hc => (k.other c' hc).trans (h.other c' hc), k.lims.trans h.lims⟩
theorem WayP.more {L L' L2 : Led} {a b c n m : Int} (h : WayP L L' a b c n) (k : WayP L' L2 a b c m) : WayP L L2 a b c (n + m) :=
  ⟨k.wf, k.par.trans h.par, fun p c' => by rw [k.pos, h.pos, ← mvP_add p c' a b c n m]; omega, fun c' hc => (k.other c' hc).trans (h.other c' hc), k.lims.trans h.lims⟩

end Go.Proofs.YtahdgojcebajkaaGreat

namespace Go.Proofs.YtahdgojcebajkaaGreat.D
open Go.RowKit Go.RgD Go.BigFrame

theorem isnanC_any (x : Int) (w : World) : Calls Tryz.prog 165 #[.int .u8 x] w (fun e w' => e = .returned (.bool false) ∧ w' = w) := by
  go_enter Tryz.func165, Tryz.ntmps165
  go_wp2
  go_ret
  exact ⟨rfl, rfl⟩
theorem isnanP_any (x : Int) (w : World) : Calls Tryz.prog 166 #[.int .u8 x] w (fun e w' => e = .returned (.bool false) ∧ w' = w) := by
  go_enter Tryz.func166, Tryz.ntmps166
  go_wp2
  go_ret
  exact ⟨rfl, rfl⟩

theorem compareC_any (x y : Int) (w : World) : Calls Tryz.prog 118 #[.int .u8 x, .int .u8 y] w (fun e w' => e = .returned (.int .i64 (cmpI x y)) ∧ w' = w) := by
  have hx := isnanC_any x
  have hy := isnanC_any y
  unfold cmpI
  by_cases h1 : x < y
  · have h1' : decide (x < y) = true := by simpa using h1
    rw [if_pos h1]
    go_enter Tryz.func118, Tryz.ntmps118
    go_wp2_with fail
    refine (hx _).mono ?_
    rintro e w' ⟨rfl, rfl⟩
    go_wp2_with fail
    refine (hy _).mono ?_
    rintro e w' ⟨rfl, rfl⟩
    go_wp2
    go_ret
    exact ⟨rfl, rfl⟩
  · have h1' : decide (x < y) = false := by simpa using h1
    rw [if_neg h1]
    by_cases h2 : y < x
    · have h2' : decide (y < x) = true := by simpa using h2
      rw [if_pos h2]
      go_enter Tryz.func118, Tryz.ntmps118
      go_wp2_with fail
      refine (hx _).mono ?_
      rintro e w' ⟨rfl, rfl⟩
      go_wp2_with fail
      refine (hy _).mono ?_
      rintro e w' ⟨rfl, rfl⟩
      go_wp2
      go_ret
      exact ⟨rfl, rfl⟩
    · have h2' : decide (y < x) = false := by simpa using h2
      rw [if_neg h2]
      go_enter Tryz.func118, Tryz.ntmps118
      go_wp2_with fail
      refine (hx _).mono ?_
      rintro e w' ⟨rfl, rfl⟩
      go_wp2_with fail
      refine (hy _).mono ?_
      rintro e w' ⟨rfl, rfl⟩
      go_wp2
      go_ret
      exact ⟨rfl, rfl⟩
theorem compareP_any (x y : Int) (w : World) : Calls Tryz.prog 119 #[.int .u8 x, .int .u8 y] w (fun e w' => e = .returned (.int .i64 (cmpI x y)) ∧ w' = w) := by
  have hx := isnanP_any x
  have hy := isnanP_any y
  unfold cmpI
  by_cases h1 : x < y
  · have h1' : decide (x < y) = true := by simpa using h1
    rw [if_pos h1]
    go_enter Tryz.func119, Tryz.ntmps119
    go_wp2_with fail
    refine (hx _).mono ?_
    rintro e w' ⟨rfl, rfl⟩
    go_wp2_with fail
    refine (hy _).mono ?_
    rintro e w' ⟨rfl, rfl⟩
    go_wp2
    go_ret
    exact ⟨rfl, rfl⟩
  · have h1' : decide (x < y) = false := by simpa using h1
    rw [if_neg h1]
    by_cases h2 : y < x
    · have h2' : decide (y < x) = true := by simpa using h2
      rw [if_pos h2]
      go_enter Tryz.func119, Tryz.ntmps119
      go_wp2_with fail
      refine (hx _).mono ?_
      rintro e w' ⟨rfl, rfl⟩
      go_wp2_with fail
      refine (hy _).mono ?_
      rintro e w' ⟨rfl, rfl⟩
      go_wp2
      go_ret
      exact ⟨rfl, rfl⟩
    · have h2' : decide (y < x) = false := by simpa using h2
      rw [if_neg h2]
      go_enter Tryz.func119, Tryz.ntmps119
      go_wp2_with fail
      refine (hx _).mono ?_
      rintro e w' ⟨rfl, rfl⟩
      go_wp2_with fail
      refine (hy _).mono ?_
      rintro e w' ⟨rfl, rfl⟩
      go_wp2
      go_ret
      exact ⟨rfl, rfl⟩

theorem or3_any (a b c : Int) (g cap : Nat) (w : World) (c0 : w.cell? ⟨g, 0, none⟩ = some (.int .i64 a)) (c1 : w.cell? ⟨g, 1, none⟩ = some (.int .i64 b)) (c2 : w.cell? ⟨g, 2, none⟩ = some (.int .i64 c)) :
    Calls Tryz.prog 65 #[.slice (some ⟨g, 0, none⟩) 3 cap] w (fun e w' => e = .returned (.int .i64 (orI a (orI b c))) ∧ w' = w) := by
  obtain ⟨r, hr⟩ : ∃ r, r = orI a (orI b c) := ⟨_, rfl⟩
  rw [← hr]
  have HR := Lib.hid hr
  clear hr
  go_enter Tryz.func65, Tryz.ntmps65
  go_wp2
  go_loopw [8] (fun i wr => ∃ k : Nat, k ≤ 3 ∧ i = .int .i64 k ∧ wr = w ∧ (1 ≤ k → a = 0) ∧ (2 ≤ k → b = 0) ∧ (3 ≤ k → c = 0)) (fun i _ => 3 - (intOf i).toNat)
  case atStart => exact ⟨0, by omega, rfl, rfl, by omega, by omega, by omega⟩
  case round =>
    obtain ⟨k, hk, rfl, rfl, ha, hb, hc⟩ := hrel
    by_cases h3 : k = 3
    · subst h3
      rw [show ((3 : Nat) : Int) = 3 from rfl]
      have ha := ha (by omega)
      have hb := hb (by omega)
      have hc := hc (by omega)
      subst ha hb hc
      have HO := Lib.hid (show orI 0 (orI 0 0) = 0 by unfold orI; simp)
      go_wp2
      go_ret
      exact ⟨by first | (rw [HR.out, HO.out]; rfl) | rw [HR.out, HO.out], rfl⟩
    · by_cases h2 : k = 2
      · subst h2
        rw [show ((2 : Nat) : Int) = 2 from rfl]
        have ha := ha (by omega)
        have hb := hb (by omega)
        subst ha hb
        by_cases q : c = 0
        · subst q
          go_wp2
          exact ⟨⟨3, by omega, by go_num, by first | exact ⟨rfl, by omega, by omega, by omega⟩ | simp⟩, by simp [intOf]⟩
        · have q' : (c == 0) = false := by simpa using q
          have HO := Lib.hid (show orI 0 (orI 0 c) = c by unfold orI; simp)
          go_wp2
          go_ret
          exact ⟨by first | (rw [HR.out, HO.out]; rfl) | rw [HR.out, HO.out], rfl⟩
      · by_cases h1 : k = 1
        · subst h1
          rw [show ((1 : Nat) : Int) = 1 from rfl]
          have ha := ha (by omega)
          subst ha
          by_cases q : b = 0
          · subst q
            go_wp2
            exact ⟨⟨2, by omega, by go_num, by first | exact ⟨rfl, by omega, by omega, by omega⟩ | simp⟩, by simp [intOf]⟩
          · have q' : (b == 0) = false := by simpa using q
            have HO := Lib.hid (show orI 0 (orI b c) = b by unfold orI; simp [q])
            go_wp2
            go_ret
            exact ⟨by first | (rw [HR.out, HO.out]; rfl) | rw [HR.out, HO.out], rfl⟩
        · have h0 : k = 0 := by omega
          subst h0
          rw [show ((0 : Nat) : Int) = 0 from rfl]
          by_cases q : a = 0
          · subst q
            go_wp2
            exact ⟨⟨1, by omega, by go_num, by first | exact ⟨rfl, by omega, by omega, by omega⟩ | simp⟩, by simp [intOf]⟩
          · have q' : (a == 0) = false := by simpa using q
            have HO := Lib.hid (show orI a (orI b c) = a by unfold orI; rw [if_neg q])
            go_wp2
            go_ret
            exact ⟨by first | (rw [HR.out, HO.out]; rfl) | rw [HR.out, HO.out], rfl⟩

set_option maxRecDepth 100000 in
set_option maxHeartbeats 1600000 in
/-- The order of lines. -/
theorem order_any (x y : Ln) (w : World) : Calls Tryz.prog 84 #[lnAgg x, lnAgg y] w (Ret (.int .i64 (cmpLn x y)) w) := by
  have hc : ∀ a b w, Calls Tryz.prog 118 #[.int .u8 a, .int .u8 b] w (Ret (.int .i64 (cmpI a b)) w) := fun a b w => (compareC_any a b w).mono (by rintro e w' ⟨rfl, rfl⟩; exact ⟨rfl, Ext.refl _⟩)
  have hp : ∀ a b w, Calls Tryz.prog 119 #[.int .u8 a, .int .u8 b] w (Ret (.int .i64 (cmpI a b)) w) := fun a b w => (compareP_any a b w).mono (by rintro e w' ⟨rfl, rfl⟩; exact ⟨rfl, Ext.refl _⟩)
  unfold cmpLn
  obtain ⟨⟨o0, o1, o2⟩, o3, o4⟩ := x
  obtain ⟨⟨x0, x1, x2⟩, x3, x4⟩ := y
  simp only [lnAgg] at *
  have e0 := ext_alloc w (.cells #[.int .u8 o0, .int .u8 o1, .int .u8 o2, .int .i64 o3, .int .i64 o4] 149)
  have h0 := heap_alloc_top w (.cells #[.int .u8 o0, .int .u8 o1, .int .u8 o2, .int .i64 o3, .int .i64 o4] 149)
  have s0 := size_alloc w (.cells #[.int .u8 o0, .int .u8 o1, .int .u8 o2, .int .i64 o3, .int .i64 o4] 149)
  generalize hW : w.alloc (.cells #[.int .u8 o0, .int .u8 o1, .int .u8 o2, .int .i64 o3, .int .i64 o4] 149) = W at *
  have e1 := ext_alloc W (.cells #[.int .u8 x0, .int .u8 x1, .int .u8 x2, .int .i64 x3, .int .i64 x4] 149)
  have h1 := heap_alloc_top W (.cells #[.int .u8 x0, .int .u8 x1, .int .u8 x2, .int .i64 x3, .int .i64 x4] 149)
  have h0 := e1.at h0
  rw [s0] at h1
  have E1 := Ext.trans e0 e1
  have HW := Lib.hid hW
  clear hW
  go_enter Tryz.func84, Tryz.ntmps84
  go_wp2
  rw [HW.out]
  refine wp_region_hat waiter 15 [] (by kernel_rfl) (by kernel_rfl) ?_
  intro w1 hw1
  have q0 : ∀ u : ExtOf w1, u.to.heap[w.heap.size]? = _ := fun u => (Ext.trans hw1 u.h).at h0
  have q1 : ∀ u : ExtOf w1, u.to.heap[w.heap.size + 1]? = _ := fun u => (Ext.trans hw1 u.h).at h1
  have d0 : ∀ u : ExtOf w1, u.to.cell? ⟨w.heap.size, 0, none⟩ = _ := fun u => cell_at (j := 0) (q0 u) rfl
  have d1 : ∀ u : ExtOf w1, u.to.cell? ⟨w.heap.size, 1, none⟩ = _ := fun u => cell_at (j := 1) (q0 u) rfl
  have d2 : ∀ u : ExtOf w1, u.to.cell? ⟨w.heap.size, 2, none⟩ = _ := fun u => cell_at (j := 2) (q0 u) rfl
  have f0 : ∀ u : ExtOf w1, u.to.cell? ⟨w.heap.size + 1, 0, none⟩ = _ := fun u => cell_at (j := 0) (q1 u) rfl
  have f1 : ∀ u : ExtOf w1, u.to.cell? ⟨w.heap.size + 1, 1, none⟩ = _ := fun u => cell_at (j := 1) (q1 u) rfl
  have f2 : ∀ u : ExtOf w1, u.to.cell? ⟨w.heap.size + 1, 2, none⟩ = _ := fun u => cell_at (j := 2) (q1 u) rfl
  clear q0 q1
  simp only [heads, List.take_succ_cons, List.take_zero, List.contains_cons, List.contains_nil, Nat.reduceBEq, Bool.or_false, Bool.false_eq_true, Nat.reduceAdd, Bool.or_true, Bool.true_or, ↓reduceIte, Bool.or_self]
  repeat (go_big_quiet_step (first | (go_at_call 118; exact Ret.cls (hc _ _ _)) | (go_at_call 119; exact Ret.cls (hp _ _ _))))
  refine wpQuiet_nil ?_
  refine wpX_tail (by kernel_rfl) ?_
  intro w2 e2 e2'
  simp only [Act.put, List.setIfInBounds_toArray, List.set_cons_zero, List.set_cons_succ, List.drop_succ_cons, List.drop_zero]
  clear d0 d1 d2 f0 f1 f2
  generalize cmpI o2 x2 = A at *
  generalize cmpI o0 x0 = B at *
  generalize cmpI o1 x1 = C at *
  go_wp2_with fail
  refine (or3_any A B C _ _ _ (cell_at (j := 0) (heap_alloc_top _ _) rfl) (cell_at (j := 1) (heap_alloc_top _ _) rfl) (cell_at (j := 2) (heap_alloc_top _ _) rfl)).mono ?_
  rintro e w7 ⟨rfl, rfl⟩
  go_wp2
  go_ret
  exact ⟨rfl, Ext.trans E1 (Ext.trans e2 (ext_alloc _ _))⟩

open Go.Shelf in
theorem lcmpLays (blk size : Nat) (w : World) : CmpLays Tryz.prog 84 #[] (fun x : Ln => lnCells x) 5 (fun x y => cmpLn x y) blk 0 size w :=
  fun _ _ _ _ x y => (order_any x y _).mono fun _ _ ⟨h1, h2⟩ => ⟨h1, h2.grows⟩
end Go.Proofs.YtahdgojcebajkaaGreat.D
namespace Go.Proofs.YtahdgojcebajkaaGreat
open Go.RowKit Go.Rg Go.BigFrame

theorem lnsCells_len (l : Lines) : (lnsCells l).length = l.length * 5 := by
  unfold lnsCells
  induction l with
  | nil => simp
  | cons o l ih => rw [List.flatMap_cons, List.length_append, ih, List.length_cons, Nat.succ_mul]; simp [lnCells]; omega

set_option maxHeartbeats 800000 in
/-- The sort of a row of one's own. -/
theorem lsort_any (base : Nat) (v : Value) (l : Lines) (w : World) (hk : (l.map (·.1)).Nodup) (hl : l.length ≤ 64) (hown : w.ownsRow base 149 5 v l.length (lnsCells l)) :
    Calls Tryz.prog 83 #[v, .func (.func 84) #[] #[]] w fun e w' => e = .returned (.tuple #[]) ∧ Keep v.ownBlock.toList w w' ∧ w'.ownsRow base 149 5 v l.length (lnsCells (linesR l)) := by
  rcases hown.2 with ⟨rfl, h0⟩ | ⟨g, cap, cur, rfl, hb, hg, hc1, hc2, hsz, htake⟩
  · have : l = [] := List.eq_nil_of_length_eq_zero h0
    subst this
    refine (AnyF.slices_SortFunc_none Tryz.sortLines none 0 (.func (.func 84) #[] #[]) w).mono ?_
    rintro e w' ⟨rfl, rfl⟩
    exact ⟨rfl, Keep.refl _ _, hown⟩
  · cases hle : l with
    | nil =>
      subst hle
      refine (AnyF.slices_SortFunc_none Tryz.sortLines (some ⟨g, 0, none⟩) cap (.func (.func 84) #[] #[]) w).mono ?_
      rintro e w' ⟨rfl, rfl⟩
      exact ⟨rfl, Keep.refl _ _, hown⟩
    | cons o0 l0 =>
      rw [← hle]
      have hO : Go.Sort.SWO (ltOf fun x y : Ln => cmpLn x y) :=
        { irrefl := fun x => ltLn_irrefl x
          trans := fun x y z h1 h2 => ltLn_trans x y z h1 h2
          ntrans := fun x y z h1 h2 => ltLn_ntrans x y z h1 h2 }
      have hsz' : l.toArray.size = l.length := by simp
      have hH := holdsK_of (fun x : Ln => lnCells x) 5 (fun _ => rfl) w g cur 149 l.toArray hg (by rw [hsz', List.toList_toArray]; exact htake) (by rw [hsz', hsz]; omega)
      have hcall := AnyQ.slices_SortFunc Tryz.sortLines 5 Tryz.isAgg149 Tryz.sizeOf149 (fun x : Ln => lnCells x) (fun _ => rfl) (fun x v hv => by
          simp only [lnCells, List.mem_cons, List.not_mem_nil, or_false] at hv
          rcases hv with rfl | rfl | rfl | rfl | rfl <;> rfl) (fun x y => cmpLn x y) hO 84 #[] g 0 cap l.toArray w (enters_of Tryz.func84 (by kernel_rfl) rfl)
        (D.lcmpLays g _ w) hH (lt_of_heap hg) (by rw [hsz']; omega)
      rw [hsz'] at hcall
      refine hcall.mono ?_
      rintro e w' ⟨rfl, d', n, os, hp, hso, rfl⟩
      have hps : d'.size = l.length := by rw [hp.1]; simp
      have hperm : d'.toList.Perm l := by
        have h1 := hp.2.2
        have e1 : d'.extract 0 l.length = d' := by rw [← hps]; simp
        have e2 : l.toArray.extract 0 l.length = l.toArray := by
          have : l.length = l.toArray.size := hsz'.symm
          rw [this, Array.extract_size]
        rw [e1, e2] at h1
        simpa using h1
      have hlist : d'.toList = linesR l := by
        refine linesR_one hk hperm ?_
        rw [← hps] at hso
        exact pairwise_of_sorted hso
      obtain ⟨k1, cur', h1, h2, h3⟩ := sorted_keep (fun x : Ln => lnCells x) 5 (fun _ => rfl) w g n cur 149 d' os hg (by rw [hps, hsz]; omega)
      refine ⟨rfl, k1, by rw [lnsCells_len, linesR_len], .inr ⟨g, cap, cur', rfl, hb, h1, hc1, hc2, by rw [h2, hsz], ?_⟩⟩
      rw [← hps, h3, hlist]
      rfl
end Go.Proofs.YtahdgojcebajkaaGreat

namespace Go
open Go.Rg Go.RowKit
section
variable {P : Program} {w : World} {ops : Array Oper} {rest : List Oper} {o : Oper} {a : Act} {Q : Exit → Act → World → Prop}
/-- The step of a range over a map that stands as it did when the loop began. -/
theorem wpList_next_at (hg : o.guard = none) (it : Operand) (hop : o.op = Op.next it false) (r bm since c0 : Nat) (seen : Array Nat) (es : Array MapEntry) (clock : Nat) (hit : a.eval it = .pointer (some ⟨r, 0, none⟩))
    (hr : w.heap[r]? = some (.mapIter (some bm) since seen c0)) (hb : w.heap[bm]? = some (.map es clock)) (hold : ∀ x ∈ es.toList, x.born < since) (hsc : since ≤ c0)
    (hDone : (leftOf es seen).size = 0 → wpList P ops Q rest (a.put o.dst (.tuple #[.bool false])) w)
    (hMore : ∀ e ∈ (leftOf es seen).toList, ∀ w' : World, Keep [r] w w' → w'.heap[r]? = some (.mapIter (some bm) since (seen.push e.born) clock) → wpList P ops Q rest (a.put o.dst (.tuple #[.bool true, e.key, e.val])) w') :
    wpList P ops Q (o :: rest) a w := by
  refine wpList_plain hg fun K' hK' => ?_
  unfold Oper.wp
  have hlt := lt_of_heap hr
  rcases run_next_at (P := P) w o.type r bm since c0 seen es clock hr hb hold hsc with ⟨h0, hrun⟩ | ⟨e, he, w1, hw1, hrun⟩
  · simp [execOp, hop, hit, hrun, Result.andThen]
    exact hK' _ _ (hDone h0)
  · simp [execOp, hop, hit, hrun, Result.andThen]
    have h1 : w1.heap = w.heap ∧ w1.os = w.os ∧ w1.tape = w.tape ∧ w1.output = w.output := by rcases hw1 with rfl | rfl <;> exact ⟨rfl, rfl, rfl, rfl⟩
    refine hK' _ _ (hMore e he _ ⟨h1.2.1, h1.2.2.1, h1.2.2.2, ?_, fun i hi hn => ?_⟩ ?_)
    · show w.heap.size ≤ (w1.heap.setIfInBounds r _).size
      rw [Array.size_setIfInBounds, h1.1]; exact Nat.le_refl _
    · show (w1.heap.setIfInBounds r _)[i]? = _
      rw [h1.1, Array.getElem?_setIfInBounds_ne (fun e => hn (by simp [e]))]
    · show (w1.heap.setIfInBounds r _)[r]? = _
      rw [h1.1, Array.getElem?_setIfInBounds_self_of_lt hlt]
/-- A range over a map begins. -/
theorem wpList_range_at (hg : o.guard = none) (m : Operand) (t : TypeId) (hop : o.op = Op.range t m) (k e : TypeId) (ht : P.underlying t = some (.map k e)) (bm : Nat) (es : Array MapEntry) (clock : Nat) (hm : a.eval m = .map (some bm)) (hb : w.heap[bm]? = some (.map es clock))
    (hK : wpList P ops Q rest (a.put o.dst (.pointer (some ⟨w.heap.size, 0, none⟩))) (w.alloc (.mapIter (some bm) clock #[] clock))) : wpList P ops Q (o :: rest) a w := by
  refine wpList_plain hg fun K' hK' => ?_
  unfold Oper.wp
  simp [execOp, hop, hm, run_range_map w t k e bm es clock ht hb, Result.andThen]
  exact hK' _ _ hK
end
end Go
namespace Go.Proofs.YtahdgojcebajkaaGreat
open Go.RowKit Go.Rg Go.BigFrame

/-! ### Numbers that have come -/
theorem nodup_len : ∀ (n : Nat) (is : List Nat), is.Nodup → (∀ i ∈ is, i < n) → is.length ≤ n
  | 0, [], _, _ => Nat.le_refl _
  | 0, i :: is, _, h => absurd (h i (by simp)) (by omega)
  | n + 1, is, hnd, h => by
    by_cases hm : n ∈ is
    · have h1 := List.length_erase_of_mem hm
      have h2 := nodup_len n (is.erase n) (hnd.erase n) (fun i hi => by
        have := (hnd.mem_erase_iff).1 hi
        have := h i this.2
        omega)
      omega
    · have := nodup_len n is hnd (fun i hi => by
        have h1 := h i hi
        have : i ≠ n := fun e => hm (e ▸ hi)
        omega)
      omega
theorem perm_range : ∀ (n : Nat) (is : List Nat), is.Nodup → (∀ i, i ∈ is ↔ i < n) → is.Perm (List.range n)
  | 0, is, _, h => by
    have : is = [] := List.eq_nil_iff_forall_not_mem.2 fun i hi => by have := (h i).1 hi; omega
    subst this
    exact List.Perm.refl _
  | n + 1, is, hnd, h => by
    have hm : n ∈ is := (h n).2 (by omega)
    have h2 := perm_range n (is.erase n) (hnd.erase n) (fun i => by
      rw [hnd.mem_erase_iff, h i]
      omega)
    rw [List.range_succ]
    exact (List.perm_cons_erase hm).trans ((h2.cons n).trans (List.perm_append_comm (l₁ := [n]) (l₂ := List.range n)))

def bornAt (es : Array MapEntry) (i : Nat) : Nat := (es.toList.map (·.born)).getD i 0
def lnAt (l : Lines) (i : Nat) : Ln := l.getD i ((0, 0, 0), (0, 0))

theorem left_one {es : Array MapEntry} {clock : Nat} {l : Lines} (h : MapRep es clock l) {is : List Nat} {seen : Array Nat} (hs : seen.toList = is.map (bornAt es)) {e : MapEntry} (he : e ∈ (leftOf es seen).toList) :
    ∃ i, i < l.length ∧ i ∉ is ∧ e.born = bornAt es i ∧ e.key = encK (lnAt l i).1 ∧ e.val = encV (lnAt l i).2 ∧ e ∈ es.toList := by
  unfold leftOf at he
  simp only [Array.toList_filter, List.mem_filter, Bool.not_eq_true', Array.contains_eq_mem, decide_eq_false_iff_not] at he
  obtain ⟨hm, hn⟩ := he
  obtain ⟨i, hi, hei⟩ := List.getElem_of_mem hm
  have hlen : es.toList.length = l.length := by have := congrArg List.length h.same; simpa using this
  have hb : bornAt es i = e.born := by
    unfold bornAt
    rw [List.getD_eq_getElem?_getD, List.getElem?_map, List.getElem?_eq_getElem hi, hei]
    rfl
  have hil : i < l.length := by omega
  have hkv : (e.key, e.val) = (encK (l[i]'hil).1, encV (l[i]'hil).2) := by
    have h1 : (es.toList.map fun e => (e.key, e.val))[i]? = (l.map fun x => (encK x.1, encV x.2))[i]? := by rw [h.same]
    rw [List.getElem?_map, List.getElem?_map, List.getElem?_eq_getElem hi, List.getElem?_eq_getElem hil, hei] at h1
    simpa using h1
  have hla : lnAt l i = l[i]'hil := by unfold lnAt; rw [List.getD_eq_getElem?_getD, List.getElem?_eq_getElem hil]; rfl
  refine ⟨i, hil, fun hx => hn ?_, hb.symm, ?_, ?_, hm⟩
  · rw [← Array.mem_toList_iff, hs]
    exact List.mem_map.2 ⟨i, hx, hb⟩
  · rw [hla]; exact (Prod.mk.inj hkv).1
  · rw [hla]; exact (Prod.mk.inj hkv).2
theorem left_none {es : Array MapEntry} {clock : Nat} {l : Lines} (h : MapRep es clock l) {is : List Nat} {seen : Array Nat} (hnd : is.Nodup) (hlt : ∀ i ∈ is, i < l.length) (hs : seen.toList = is.map (bornAt es)) (h0 : (leftOf es seen).size = 0) :
    (is.map (lnAt l)).Perm l := by
  have hlen : es.toList.length = l.length := by have := congrArg List.length h.same; simpa using this
  have hmem : ∀ i, i ∈ is ↔ i < l.length := fun i => by
    refine ⟨hlt i, fun hi => ?_⟩
    have hi' : i < es.toList.length := by omega
    have hnot : es.toList[i]'hi' ∉ (leftOf es seen).toList := by
      have : (leftOf es seen).toList = [] := by
        have : (leftOf es seen).toList.length = 0 := by simpa using h0
        exact List.eq_nil_of_length_eq_zero this
      rw [this]; simp
    unfold leftOf at hnot
    simp only [Array.toList_filter, List.mem_filter, Bool.not_eq_true', Array.contains_eq_mem, decide_eq_false_iff_not, not_and, Classical.not_not] at hnot
    have hin := hnot (List.getElem_mem hi')
    rw [← Array.mem_toList_iff, hs] at hin
    obtain ⟨j, hj, hjb⟩ := List.mem_map.1 hin
    have hjl : j < es.toList.length := by have := hlt j hj; omega
    have hb : ∀ k (hk : k < es.toList.length), bornAt es k = (es.toList[k]'hk).born := fun k hk => by
      unfold bornAt
      rw [List.getD_eq_getElem?_getD, List.getElem?_map, List.getElem?_eq_getElem hk]
      rfl
    rw [hb j hjl] at hjb
    have hij : j = i := by
      have hn := h.born
      rw [List.nodup_iff_pairwise_ne, List.pairwise_iff_getElem] at hn
      rcases Nat.lt_trichotomy j i with hc | hc | hc
      · have := hn j i (by simpa using hjl) (by simpa using hi') hc
        simp only [List.getElem_map] at this
        exact absurd hjb this
      · exact hc
      · have := hn i j (by simpa using hi') (by simpa using hjl) hc
        simp only [List.getElem_map] at this
        exact absurd hjb.symm this
    exact hij ▸ hj
  have hp := (perm_range l.length is hnd hmem).map (lnAt l)
  have hr : (List.range l.length).map (lnAt l) = l := by
    apply List.ext_getElem?
    intro k
    rw [List.getElem?_map]
    by_cases hk : k < l.length
    · rw [List.getElem?_range hk, List.getElem?_eq_getElem hk]
      unfold lnAt
      rw [Option.map_some, List.getD_eq_getElem?_getD, List.getElem?_eq_getElem hk]
      rfl
    · rw [List.getElem?_eq_none (by simp; omega), List.getElem?_eq_none (by omega)]
      rfl
  rw [hr] at hp
  exact hp

theorem linesR_of_perm {l l' : Lines} (hk : (l.map (·.1)).Nodup) (h : l'.Perm l) : linesR l' = linesR l :=
  linesR_one hk ((linesR_perm l').trans h) (sortR_sorted (p := fun _ => True) (fun x y _ _ => ltLn_asymm x y) (fun x y z _ _ _ => ltLn_ntrans x y z) _ fun _ _ => trivial)

theorem ln_info : (Tryz.prog.info? 149).map (fun i => (i.zero, i.size, i.bytes)) = some (some (.agg #[.int .u8 0, .int .u8 0, .int .u8 0, .int .i64 0, .int .i64 0]), 5, 24) := by kernel_rfl

/-- A row of lines of one's own. -/
def RetLns (l : Lines) (w : World) (e : Ending) (w' : World) : Prop := ∃ v, e = .returned v ∧ Ext w w' ∧ w'.ownsRow w.heap.size 149 5 v l.length (lnsCells l)

theorem bel_keep {S : List Nat} {base : Nat} {a b c : World} (h : Below base a b) (k : Keep S b c) (hb : base ≤ b.heap.size) (hs : ∀ x ∈ S, base ≤ x) : Below base a c :=
  h.trans ⟨k.os, k.tape, k.output, k.size, fun i hi => k.block i (by omega) (fun hx => by have := hs i hx; omega)⟩
theorem own_ne_iter {w : World} {base size n r : Nat} {e : TypeId} {v : Value} {xs : List Value} {m : Option Nat} {s c : Nat} {seen : Array Nat} (h : w.ownsRow base e size v n xs) (hr : w.heap[r]? = some (.mapIter m s seen c)) : ∀ q, v.ownBlock = some q → q ≠ r := by
  intro q hq e
  subst e
  rcases h.2 with ⟨rfl, _⟩ | ⟨b, cap, cur, rfl, _, hh, _⟩
  · simp [Value.ownBlock] at hq
  · simp only [Value.ownBlock, Option.some.injEq] at hq
    subst hq
    rw [hh] at hr
    cases hr
theorem own_lower {w : World} {base base' size n : Nat} {e : TypeId} {v : Value} {xs : List Value} (h : w.ownsRow base e size v n xs) (hb : base' ≤ base) : w.ownsRow base' e size v n xs := by
  refine ⟨h.1, ?_⟩
  rcases h.2 with h0 | ⟨b, cap, cur, rfl, hb2, hh, h3⟩
  · exact .inl h0
  · exact .inr ⟨b, cap, cur, rfl, Nat.le_trans hb hb2, hh, h3⟩
theorem own_keeps {S : List Nat} {w w' : World} {base size n : Nat} {e : TypeId} {v : Value} {xs : List Value} (h : w.ownsRow base e size v n xs) (k : Keep S w w') (hS : ∀ q, v.ownBlock = some q → q ∉ S) : w'.ownsRow base e size v n xs := by
  refine ⟨h.1, ?_⟩
  rcases h.2 with h0 | ⟨b, cap, cur, rfl, hb, hh, h3⟩
  · exact .inl h0
  · exact .inr ⟨b, cap, cur, rfl, hb, k.at hh (hS b rfl), h3⟩

set_option maxRecDepth 100000 in
set_option maxHeartbeats 3200000 in
theorem lines_any (p m : Nat) (L : Led) (w : World) (h : IsLed w p m L) (hwf : WF L) : Calls Tryz.prog 25 #[.pointer (some ⟨p, 0, none⟩)] w (RetLns (linesR L.lines) w) := by
  obtain ⟨i0, hi, hz0, hz1, hz2⟩ := info_parts ln_info
  have hfew := hwf.few
  go_enter Tryz.func25, Tryz.ntmps25
  go_wp2_with fail
  refine (there_any p m L w h).mono ?_
  rintro e w1 ⟨rfl, e1⟩
  have h1 := h.ext e1
  have c17 := h1.cell17
  have hlen := len_map m L.lines w1 h1.map
  obtain ⟨es, clock, hm1, hrep⟩ := h1.map
  have hmlt := lt_of_heap hm1
  generalize L.lines = l at *
  have HL1 := Lib.hid h1
  have HREP := Lib.hid hrep
  clear h hwf h1 hrep
  go_wp2_with (first
    | (at_make; refine wpList_make_own _ rfl _ _ 60 rfl w1.heap.size 149 i0 (.agg #[.int .u8 0, .int .u8 0, .int .u8 0, .int .i64 0, .int .i64 0]) 5 Tryz.underlying60 hi hz0 hz1 _ _ _ l.length rfl rfl rfl (by rw [hz2]; omega) (by unfold maxLen; omega) (Nat.le_refl _) ?_
       intro w2 hown2 hg2
       have e2 : Ext w1 w2 := (Below.refl w1.heap.size w1).grown hg2 (Nat.le_refl _) (by simp)
       have c17 := (HL1.out.ext e2).cell17
       have hm2 := e2.at hm1)
    | (at_range; refine wpList_range_at rfl _ 150 rfl 154 156 Tryz.underlying150 m es clock rfl hm2 ?_))
  try go_frame
  have e3 := ext_alloc w2 (.mapIter (some m) clock #[] clock)
  have hr3 := heap_alloc_top w2 (.mapIter (some m) clock #[] clock)
  have hown3 := own_ext hown2 e3
  have s2 := e2.size
  have hE3 : Below w1.heap.size w1 (w2.alloc (.mapIter (some m) clock #[] clock)) := Ext.trans e2 e3
  clear hlen c17 hm2 hown2 hg2 e3
  go_loopw [3] (fun v wr => ∃ (is : List Nat) (seen : Array Nat) (c0 : Nat), is.Nodup ∧ (∀ i ∈ is, i < l.length) ∧ seen.toList = is.map (bornAt es) ∧ clock ≤ c0 ∧ wr.heap[w2.heap.size]? = some (.mapIter (some m) clock seen c0) ∧
      wr.ownsRow w1.heap.size 149 5 v is.length (lnsCells (is.map (lnAt l))) ∧ Below w1.heap.size w1 wr) (fun v _ => l.length - lenOf v)
  case atStart => exact ⟨[], #[], clock, List.nodup_nil, by simp, rfl, Nat.le_refl _, hr3, hown3, hE3⟩
  case round =>
    obtain ⟨is, seen, c0, hnd, hlt, hse, hc0, hr, hown, hbel⟩ := hrel
    have hmr : wr.heap[m]? = some (.map es clock) := (hbel.block m hmlt).trans hm1
    have hil := nodup_len l.length is hnd hlt
    have hlo := fun q hq => (hown.lt q hq).1
    have hqr := own_ne_iter hown hr
    obtain ⟨ao, acap, hav⟩ := own_slice hown
    subst hav
    have HOWN := Lib.hid hown
    have HLT := Lib.hid hlt
    have HSE := Lib.hid hse
    have hwr := hbel.size
    clear hown hlt hse hr3 hown3 hE3
    go_wp2_with (at_next; refine wpList_next_at rfl _ rfl w2.heap.size m clock c0 seen es clock rfl hr hmr HREP.out.clock hc0 ?_ ?_)
    · intro h0
      have h0' : (leftOf es seen).size = 0 := by first | exact h0 | (rw [h0]; rfl)
      have hperm := left_none HREP.out hnd HLT.out HSE.out h0'
      have hkn : ((is.map (lnAt l)).map (·.1)).Nodup := (hperm.map (·.1)).nodup_iff.2 HREP.out.keys
      have hso := lsort_any w1.heap.size (.slice ao is.length acap) (is.map (lnAt l)) wr hkn (by simp; omega) (by rw [List.length_map]; exact HOWN.out)
      have hres : linesR (is.map (lnAt l)) = linesR l := linesR_of_perm HREP.out.keys hperm
      have hlen2 : (is.map (lnAt l)).length = (linesR l).length := by rw [hperm.length_eq, linesR_len]
      rw [hres, hlen2] at hso
      have HLE := Lib.hid hlen2
      clear hperm hkn hres hlen2 h0 h0'
      go_wp2_with fail
      refine hso.mono ?_
      rintro e w8 ⟨rfl, k8, hown8⟩
      go_wp2
      go_ret
      have he1 := e1.size
      refine ⟨_, rfl, ?_, ?_⟩
      · have hb8 : Below w1.heap.size w1 w8 := bel_keep hbel k8 hwr (fun x hx => hlo x (by simpa using hx))
        exact Ext.trans e1 hb8
      · exact own_lower hown8 he1
    · intro e he w4 k4 hr4
      have he' : e ∈ (leftOf es seen).toList := by first | exact he | simpa using he
      obtain ⟨i, hil2, hni, hbo, hkey, hval, hem⟩ := left_one HREP.out HSE.out he'
      have hm4 := k4.at hmr (by simp; omega)
      have hen := run_entry_at (P := Tryz.prog) w4 w2.heap.size m clock seen es clock e hr4 hm4 hem HREP.out.born
      rw [hkey, hval] at hen ⊢
      have hnd2 : (is ++ [i]).Nodup := by
        rw [List.nodup_append]
        exact ⟨hnd, by simp, fun x hx y hy e => by simp at hy; subst hy e; exact hni hx⟩
      have hil3 := nodup_len l.length (is ++ [i]) hnd2 (fun j hj => by
        rcases List.mem_append.1 hj with hj | hj
        · exact HLT.out j hj
        · simp at hj; subst hj; exact hil2)
      rw [List.length_append, List.length_singleton] at hil3
      have HBO := Lib.hid hbo
      have HND := Lib.hid hnd2
      have HX := Lib.hid (show lnsCells ((is ++ [i]).map (lnAt l)) = lnsCells (is.map (lnAt l)) ++ lnCells (lnAt l i) by simp [lnsCells])
      have hown4 := own_keeps HOWN.out k4 (fun q hq hx => hqr q hq (by simpa using hx))
      have hb4 : Below w1.heap.size w1 w4 := bel_keep hbel k4 hwr (fun x hx => by simp at hx; omega)
      clear hbo hnd2 hkey hval he he' hem hm4 hmr hr k4 HOWN hbel
      generalize lnAt l i = x at *
      obtain ⟨⟨x0, x1, x2⟩, x3, x4⟩ := x
      unfold encK encV at hen ⊢
      simp only at hen ⊢
      have s4 := hb4.size
      have ea := ext_alloc w4 (.cells #[.int .u8 0, .int .u8 0, .int .u8 0] 154)
      have ha := heap_alloc_top w4 (.cells #[.int .u8 0, .int .u8 0, .int .u8 0] 154)
      have sa := size_alloc w4 (.cells #[.int .u8 0, .int .u8 0, .int .u8 0] 154)
      have eb := ext_alloc (w4.alloc (.cells #[.int .u8 0, .int .u8 0, .int .u8 0] 154)) (.cells #[.int .i64 0, .int .i64 0] 156)
      have hb := heap_alloc_top (w4.alloc (.cells #[.int .u8 0, .int .u8 0, .int .u8 0] 154)) (.cells #[.int .i64 0, .int .i64 0] 156)
      rw [sa] at hb
      have ha := eb.at ha
      have eab := Ext.trans ea eb
      clear ea eb sa
      go_wp2_with (first
        | (refine wpList_row rfl rfl 154 _ _ rfl w4.heap.size _ rfl rfl 154 _ ha (by kernel_rfl) (by rfl) (by rfl) ?_
           intro w5 hb5 ho5 hs5
           have e5 : Ext w4 w5 := hb5 _ _ (Nat.le_refl _) eab
           have hb5' := (ho5 (w4.heap.size + 1) (by omega)).trans hb)
        | (refine wpList_row rfl rfl 156 _ _ rfl (w4.heap.size + 1) _ rfl rfl 156 _ hb5' (by kernel_rfl) (by rfl) (by rfl) ?_
           intro w6 hb6 ho6 hs6
           have e6 : Ext w4 w6 := hb6 _ _ (by omega) e5
           have hs56 := (ho6 w4.heap.size (by omega)).trans hs5
           have d0 := cell_at (j := 0) hs56 rfl
           have d1 := cell_at (j := 1) hs56 rfl
           have d2 := cell_at (j := 2) hs56 rfl
           have f0 := cell_at (j := 0) hs6 rfl
           have f1 := cell_at (j := 1) hs6 rfl
           have s6 := e6.size)
        | (at_builtin; refine wpList_append_own _ rfl _ _ 60 rfl w1.heap.size 149 i0 (.agg #[.int .u8 0, .int .u8 0, .int .u8 0, .int .i64 0, .int .i64 0]) 5 24 Tryz.underlying60 hi hz0 hz1 hz2 rfl (by decide) _ _ _ rfl ((own_ext hown4 e6).alloc _) ⟨w6.heap.size, 0, none⟩ 1 1 (lnCells ((x0, x1, x2), x3, x4)) rfl rfl (news_new w6 (lnCells ((x0, x1, x2), x3, x4)) _) (fun x hx => by simp only [lnCells, List.mem_cons, List.not_mem_nil, or_false] at hx; rcases hx with rfl | rfl | rfl | rfl | rfl <;> rfl) (by unfold maxLen; omega) (by omega) (by simp; omega) ?_
           intro v' w7 hown7 hgrow7 hnil7))
      have hr7 : w7.heap[w2.heap.size]? = some (.mapIter (some m) clock (seen.push e.born) clock) := by
        have ea7 := ext_alloc w6 (.cells (lnCells ((x0, x1, x2), x3, x4)).toArray 149)
        have hr6 := ea7.at (e6.at hr4)
        exact (hgrow7.block _ (lt_of_heap hr6) (fun hx => own_ne_iter hown4 hr4 _ hx.symm rfl)).trans hr6
      have hb7 : Below w1.heap.size w1 w7 := ((hb4.trans (Below.mono e6 (by omega))).alloc (by omega) (.cells (lnCells ((x0, x1, x2), x3, x4)).toArray 149)).grown hgrow7 (by simp; omega) (fun q hq => hlo q hq)
      obtain ⟨A7, cap7, hv7⟩ := own_slice hown7
      subst hv7
      refine ⟨⟨is ++ [i], seen.push e.born, clock, HND.out, fun j hj => ?_, ?_, Nat.le_refl _, hr7, ?_, hb7⟩, ?_⟩
      · rcases List.mem_append.1 hj with hj | hj
        · exact HLT.out j hj
        · simp at hj; subst hj; exact hil2
      · rw [Array.toList_push, HSE.out, HBO.out, List.map_append]; rfl
      · rw [HX.out, List.length_append]
        exact hown7
      · show l.length - (is.length + 1) < l.length - is.length
        omega
end Go.Proofs.YtahdgojcebajkaaGreat

namespace Go.Proofs.YtahdgojcebajkaaGreat
open Go.RowKit Go.Rg Go.BigFrame

theorem lnsCells_at (l : Lines) (k j : Nat) (hk : k < l.length) (hj : j < 5) : (lnsCells l)[k * 5 + j]? = (lnCells (l[k]'hk))[j]? := by
  induction l generalizing k with
  | nil => simp at hk
  | cons o l ih =>
    have h5 : (lnCells o).length = 5 := rfl
    have hc : lnsCells (o :: l) = lnCells o ++ lnsCells l := rfl
    cases k with
    | zero =>
      simp only [hc, Nat.zero_mul, Nat.zero_add, List.getElem_cons_zero]
      rw [List.getElem?_append_left (by rw [h5]; exact hj)]
    | succ k =>
      have := ih k (by simpa using hk)
      simp only [hc, List.getElem_cons_succ] at this ⊢
      rw [List.getElem?_append_right (by rw [h5]; omega), h5, show (k + 1) * 5 + j - 5 = k * 5 + j by omega]
      exact this
theorem load_ln (w : World) (g k : Nat) (l : Lines) (hk : k < l.length) (h : ∀ j u, (lnsCells l)[j]? = some u → w.cell? ⟨g, j, none⟩ = some u) :
    (loadVar 149 ⟨g, k * 5, none⟩).run Tryz.prog w = .ok (lnAgg (l[k]'hk)) w :=
  run_loadVar_part w g (k * 5) 149 (lnCells (l[k]'hk)) _ (fun j u hu => by
    have hj : j < 5 := (List.getElem?_eq_some_iff.1 hu).1
    exact h _ _ ((lnsCells_at l k j hk hj).trans hu)) Tryz.underlying149 rfl (by kernel_rfl)

end Go.Proofs.YtahdgojcebajkaaGreat

namespace Go.Proofs.YtahdgojcebajkaaGreat
open Go.RowKit Go.Rg Go.BigFrame

set_option maxRecDepth 100000 in
set_option maxHeartbeats 3200000 in
theorem pos_any (p m : Nat) (L : Led) (x c : Int) (w : World) (h : IsLed w p m L) (hwf : WF L) : Calls Tryz.prog 89 #[.pointer (some ⟨p, 0, none⟩), .int .u8 x, .int .u8 c] w (Ret (.int .i64 (posR L x c)) w) := by
  have hpe : posR L x c = posL (linesR L.lines) x c := (posL_lines L.lines x c).symm
  have hbd : ∀ y ∈ linesR L.lines, 0 ≤ y.2.2 ∧ y.2.2 ≤ 1099511627776 := fun y hy => by
    have := hwf.nums y (mem_linesR.1 hy)
    omega
  have hle : (linesR L.lines).length ≤ 64 := by rw [linesR_len]; exact hwf.few
  have hln := lines_any p m L w h hwf
  rw [hpe]
  generalize linesR L.lines = S at *
  have HBD := Lib.hid hbd
  clear hpe hbd h
  go_enter Tryz.func89, Tryz.ntmps89
  go_wp2_with fail
  refine hln.mono ?_
  rintro e w1 ⟨v, rfl, e1, hown⟩
  obtain ⟨A, cap, rfl, q1, q2, q3, q4⟩ := SlAt.of_own hown
  have hn63 : (S.length : Int) ≤ 9223372036854775807 := by omega
  clear hln hown q3
  go_wp2_with fail
  go_loopw [6, 12] (fun nv i wr => ∃ k : Nat, k ≤ S.length ∧ i = .int .i64 k ∧ nv = .int .i64 (posL (S.take k) x c) ∧ Ext w1 wr) (fun _ i _ => S.length - (intOf i).toNat)
  case atStart => exact ⟨0, Nat.zero_le _, rfl, rfl, Ext.refl _⟩
  case round =>
    obtain ⟨k, hk, rfl, rfl, er⟩ := hrel
    have hpb := posL_bd x c (S.take k) (fun y hy => HBD.out y (List.mem_of_mem_take hy))
    have hpl : (S.take k).length ≤ 64 := by rw [List.length_take]; omega
    by_cases hkn : k < S.length
    · rcases q4 with q4 | ⟨g, rfl, hb, hlt, hcell⟩
      · omega
      have hld := load_ln wr g k S hkn (fun j u hu => by rw [cell_block (er.block hlt)]; exact hcell j u hu)
      have hnx := posL_take S k hkn x c
      have hyb := HBD.out _ (List.getElem_mem hkn)
      generalize posL (S.take k) x c = a at *
      obtain ⟨a', ha'⟩ : ∃ a', posL (S.take (k + 1)) x c = a' := ⟨_, rfl⟩
      rw [ha'] at hnx
      have HA := Lib.hid ha'
      clear ha'
      generalize (S[k]'hkn) = y at *
      obtain ⟨⟨y0, y1, y2⟩, y3, y4⟩ := y
      simp only [lnAgg] at hld
      simp only at hyb
      unfold posT at hnx
      simp only at hnx
      obtain ⟨hy1, hy2⟩ := hyb
      have ha1 : -70368744177664 ≤ a := by omega
      have ha2 : a ≤ 70368744177664 := by omega
      have hz := heap_alloc_top wr (.cells #[.int .u8 0, .int .u8 0, .int .u8 0, .int .i64 0, .int .i64 0] 149)
      have ez := ext_alloc wr (.cells #[.int .u8 0, .int .u8 0, .int .u8 0, .int .i64 0, .int .i64 0] 149)
      clear hpb hpl hcell
      by_cases qc : y2 = c
      · have qc1 : (y2 == c) = true := by simpa using qc
        have qc2 : (y2 != c) = false := by simp [bne, qc1]
        rw [if_pos qc] at hnx
        by_cases qa : y0 = x
        · have qa1 : (y0 == x) = true := by simpa using qa
          rw [if_pos qa] at hnx
          have HN := Lib.hid hnx
          clear hnx qc qa
          go_wp2_with (first
            | (refine wpList_load_at rfl 149 _ _ _ rfl rfl hld ?_)
            | (refine wpList_row rfl rfl 149 _ _ rfl wr.heap.size _ rfl rfl 149 _ hz (by kernel_rfl) (by rfl) (by rfl) ?_
               intro w5 hb5 ho5 hs5
               have e5 : Ext wr w5 := hb5 _ _ (Nat.le_refl _) ez
               have d0 := cell_at (j := 0) hs5 rfl
               have d1 := cell_at (j := 1) hs5 rfl
               have d2 := cell_at (j := 2) hs5 rfl
               have d4 := cell_at (j := 4) hs5 rfl))
          exact ⟨⟨k + 1, by omega, by go_num, by rw [HA.out, HN.out], Ext.trans er e5⟩, by simp [intOf]; omega⟩
        · have qa1 : (y0 == x) = false := by simpa using qa
          rw [if_neg qa] at hnx
          by_cases qb : y1 = x
          · have qb1 : (y1 == x) = true := by simpa using qb
            rw [if_pos qb] at hnx
            have HN := Lib.hid (show a' = a - y4 by omega)
            clear hnx qc qa qb
            go_wp2_with (first
              | (refine wpList_load_at rfl 149 _ _ _ rfl rfl hld ?_)
              | (refine wpList_row rfl rfl 149 _ _ rfl wr.heap.size _ rfl rfl 149 _ hz (by kernel_rfl) (by rfl) (by rfl) ?_
                 intro w5 hb5 ho5 hs5
                 have e5 : Ext wr w5 := hb5 _ _ (Nat.le_refl _) ez
                 have d0 := cell_at (j := 0) hs5 rfl
                 have d1 := cell_at (j := 1) hs5 rfl
                 have d2 := cell_at (j := 2) hs5 rfl
                 have d4 := cell_at (j := 4) hs5 rfl))
            exact ⟨⟨k + 1, by omega, by go_num, by rw [HA.out, HN.out], Ext.trans er e5⟩, by simp [intOf]; omega⟩
          · have qb1 : (y1 == x) = false := by simpa using qb
            rw [if_neg qb] at hnx
            have HN := Lib.hid (show a' = a by omega)
            clear hnx qc qa qb
            go_wp2_with (first
              | (refine wpList_load_at rfl 149 _ _ _ rfl rfl hld ?_)
              | (refine wpList_row rfl rfl 149 _ _ rfl wr.heap.size _ rfl rfl 149 _ hz (by kernel_rfl) (by rfl) (by rfl) ?_
                 intro w5 hb5 ho5 hs5
                 have e5 : Ext wr w5 := hb5 _ _ (Nat.le_refl _) ez
                 have d0 := cell_at (j := 0) hs5 rfl
                 have d1 := cell_at (j := 1) hs5 rfl
                 have d2 := cell_at (j := 2) hs5 rfl
                 have d4 := cell_at (j := 4) hs5 rfl))
            exact ⟨⟨k + 1, by omega, by go_num, by rw [HA.out, HN.out], Ext.trans er e5⟩, by simp [intOf]; omega⟩
      · have qc1 : (y2 == c) = false := by simpa using qc
        have qc2 : (y2 != c) = true := by simp [bne, qc1]
        rw [if_neg qc] at hnx
        have HN := Lib.hid (show a' = a by omega)
        clear hnx qc
        go_wp2_with (first
          | (refine wpList_load_at rfl 149 _ _ _ rfl rfl hld ?_)
          | (refine wpList_row rfl rfl 149 _ _ rfl wr.heap.size _ rfl rfl 149 _ hz (by kernel_rfl) (by rfl) (by rfl) ?_
             intro w5 hb5 ho5 hs5
             have e5 : Ext wr w5 := hb5 _ _ (Nat.le_refl _) ez
             have d0 := cell_at (j := 0) hs5 rfl
             have d1 := cell_at (j := 1) hs5 rfl
             have d2 := cell_at (j := 2) hs5 rfl
             have d4 := cell_at (j := 4) hs5 rfl))
        exact ⟨⟨k + 1, by omega, by go_num, by rw [HA.out, HN.out], Ext.trans er e5⟩, by simp [intOf]; omega⟩
    · have hk' : k = S.length := by omega
      subst hk'
      rw [List.take_length]
      generalize posL S x c = a at *
      clear q4 hpb hpl
      go_wp2
      go_ret
      exact ⟨rfl, Ext.trans e1 er⟩

end Go.Proofs.YtahdgojcebajkaaGreat
