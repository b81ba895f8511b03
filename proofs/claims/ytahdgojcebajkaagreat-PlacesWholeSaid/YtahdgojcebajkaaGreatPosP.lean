/- Lines of a ledger in their order, plainly; positions. What a payment does to positions, plainly. -/
import Derived.Test.YtahdgojcebajkaaGreatWf
import Derived.Test.YtahdgojcebajkaaGreatSortP

namespace Go.Proofs.YtahdgojcebajkaaGreat

/-- A line: its ends and what is owed. -/
abbrev Ln := K3 × V2
def lnCells (x : Ln) : List Value := [.int .u8 x.1.1, .int .u8 x.1.2.1, .int .u8 x.1.2.2, .int .i64 x.2.1, .int .i64 x.2.2]
def lnAgg (x : Ln) : Value := .agg #[.int .u8 x.1.1, .int .u8 x.1.2.1, .int .u8 x.1.2.2, .int .i64 x.2.1, .int .i64 x.2.2]
def lnsCells (l : Lines) : List Value := l.flatMap lnCells
def cmpLn (x y : Ln) : Int := orI (cmpI x.1.2.2 y.1.2.2) (orI (cmpI x.1.1 y.1.1) (cmpI x.1.2.1 y.1.2.1))
def ltLn (x y : Ln) : Bool := decide (cmpLn x y < 0)
def linesR (l : Lines) : Lines := sortR ltLn l

theorem ltLn_true {x y : Ln} : ltLn x y = true ↔ x.1.2.2 < y.1.2.2 ∨ (x.1.2.2 = y.1.2.2 ∧ (x.1.1 < y.1.1 ∨ (x.1.1 = y.1.1 ∧ x.1.2.1 < y.1.2.1))) := by
  unfold ltLn cmpLn
  rw [decide_eq_true_eq, orI_neg, orI_neg, cmpI_neg, cmpI_zero, cmpI_neg, cmpI_zero, cmpI_neg]
theorem ltLn_false {x y : Ln} : ltLn x y = false ↔ ¬ (x.1.2.2 < y.1.2.2 ∨ (x.1.2.2 = y.1.2.2 ∧ (x.1.1 < y.1.1 ∨ (x.1.1 = y.1.1 ∧ x.1.2.1 < y.1.2.1)))) := by
  rw [← Bool.not_eq_true, ltLn_true]
theorem ltLn_irrefl (x : Ln) : ltLn x x = false := by rw [ltLn_false]; omega
theorem ltLn_asymm (x y : Ln) (h : ltLn x y = true) : ltLn y x = false := by
  rw [ltLn_true] at h
  rw [ltLn_false]
  omega
theorem ltLn_ntrans (x y z : Ln) (h1 : ltLn x y = false) (h2 : ltLn y z = false) : ltLn x z = false := by
  rw [ltLn_false] at *
  omega
theorem ltLn_trans (x y z : Ln) (h1 : ltLn x y = true) (h2 : ltLn y z = true) : ltLn x z = true := by
  rw [ltLn_true] at *
  omega
theorem ltLn_total {x y : Ln} (h1 : ltLn x y = false) (h2 : ltLn y x = false) : x.1 = y.1 := by
  rw [ltLn_false] at *
  obtain ⟨⟨a, b, c⟩, v⟩ := x
  obtain ⟨⟨a', b', c'⟩, v'⟩ := y
  simp only at *
  have e1 : c = c' := by omega
  have e2 : a = a' := by omega
  have e3 : b = b' := by omega
  rw [e1, e2, e3]
theorem linesR_perm (l : Lines) : (linesR l).Perm l := sortR_perm _ _
theorem keys_one {l : Lines} (h : (l.map (·.1)).Nodup) : ∀ x ∈ l, ∀ y ∈ l, x.1 = y.1 → x = y := by
  intro x hx y hy e
  induction l with
  | nil => cases hx
  | cons z l ih =>
    rw [List.map_cons, List.nodup_cons] at h
    rcases List.mem_cons.1 hx with hx2 | hx2
    · rcases List.mem_cons.1 hy with hy2 | hy2
      · rw [hx2, hy2]
      · exact absurd (List.mem_map.2 ⟨y, hy2, by rw [← e, hx2]⟩) h.1
    · rcases List.mem_cons.1 hy with hy2 | hy2
      · exact absurd (List.mem_map.2 ⟨x, hx2, by rw [e, hy2]⟩) h.1
      · exact ih h.2 hx2 hy2
/-- Whatever sorted list of a ledger's lines there is: it is the list of its lines. -/
theorem linesR_one {l l' : Lines} (hk : (l.map (·.1)).Nodup) (hp : l'.Perm l) (h : l'.Pairwise (fun a b => ltLn b a = false)) : l' = linesR l :=
  sorted_one l' _ (hp.trans (linesR_perm l).symm) h (sortR_sorted (p := fun _ => True) (fun x y _ _ => ltLn_asymm x y) (fun x y z _ _ _ => ltLn_ntrans x y z) _ fun _ _ => trivial)
    fun x hx y hy h1 h2 => keys_one hk x (hp.subset hx) y (hp.subset hy) (ltLn_total h1 h2)
theorem linesR_len (l : Lines) : (linesR l).length = l.length := (linesR_perm l).length_eq
theorem mem_linesR {l : Lines} {x : Ln} : x ∈ linesR l ↔ x ∈ l := (linesR_perm l).mem_iff

/-! ### Positions -/

/-- What a line adds to a party's position. -/
def posT (p c : Int) (x : Ln) : Int := if x.1.2.2 = c then (if x.1.1 = p then x.2.2 else if x.1.2.1 = p then -x.2.2 else 0) else 0
def sumI : List Int → Int
  | [] => 0
  | x :: l => x + sumI l
theorem sumI_perm {l l' : List Int} (h : l.Perm l') : sumI l = sumI l' := by
  induction h with
  | nil => rfl
  | cons x _ ih => simp only [sumI, ih]
  | swap x y l => simp only [sumI]; omega
  | trans _ _ h1 h2 => rw [h1, h2]
theorem sumI_append (l l' : List Int) : sumI (l ++ l') = sumI l + sumI l' := by
  induction l with
  | nil => simp [sumI]
  | cons x l ih => simp only [List.cons_append, sumI, ih]; omega
def posL (l : Lines) (p c : Int) : Int := sumI (l.map (posT p c))
def posR (L : Led) (p c : Int) : Int := posL L.lines p c
theorem posL_perm {l l' : Lines} (h : l.Perm l') (p c : Int) : posL l p c = posL l' p c := sumI_perm (h.map _)
theorem posL_lines (l : Lines) (p c : Int) : posL (linesR l) p c = posL l p c := posL_perm (linesR_perm l) p c
theorem posL_take (l : Lines) (k : Nat) (hk : k < l.length) (p c : Int) : posL (l.take (k + 1)) p c = posL (l.take k) p c + posT p c (l[k]'hk) := by
  unfold posL
  rw [List.take_succ_eq_append_getElem hk, List.map_append, sumI_append]
  simp [sumI]
theorem posT_bd {x : Ln} (p c : Int) (h0 : 0 ≤ x.2.2) (h1 : x.2.2 ≤ 1099511627776) : -1099511627776 ≤ posT p c x ∧ posT p c x ≤ 1099511627776 := by
  unfold posT
  repeat' split
  all_goals omega
theorem posL_bd (p c : Int) : ∀ (l : Lines), (∀ x ∈ l, 0 ≤ x.2.2 ∧ x.2.2 ≤ 1099511627776) → -(1099511627776 * (l.length : Int)) ≤ posL l p c ∧ posL l p c ≤ 1099511627776 * (l.length : Int)
  | [], _ => by simp [posL, sumI]
  | x :: l, h => by
    have h1 := posT_bd p c (h x (by simp)).1 (h x (by simp)).2
    have h2 := posL_bd p c l (fun y hy => h y (by simp [hy]))
    unfold posL at *
    simp only [List.map_cons, sumI, List.length_cons]
    omega
end Go.Proofs.YtahdgojcebajkaaGreat

namespace Go.Proofs.YtahdgojcebajkaaGreat

/-! ### One line turns -/
theorem posT_zero (p c : Int) (k : K3) (x : Int) : posT p c (k, (x, 0)) = 0 := by
  unfold posT
  repeat' split
  all_goals simp
theorem posT_add (p c : Int) (k : K3) (x y m n : Int) : posT p c (k, (x, m + n)) = posT p c (k, (y, m)) + posT p c (k, (y, n)) := by
  unfold posT
  simp only
  repeat' split
  all_goals omega
theorem posT_lim (p c : Int) (k : K3) (x y m : Int) : posT p c (k, (x, m)) = posT p c (k, (y, m)) := rfl

theorem lk_cons (x : Ln) (l : Lines) (k : K3) : lk (x :: l) k = if x.1 == k then x.2 else lk l k := by
  unfold lk lkO
  rw [List.find?_cons]
  cases h : x.1 == k <;> simp

theorem posL_upd (k : K3) (v : V2) (p c : Int) : ∀ l : Lines, posL (upd l k v) p c = posL l p c + posT p c (k, v) - posT p c (k, lk l k)
  | [] => by
    have h0 : lk [] k = (0, 0) := rfl
    rw [h0, posT_zero]
    simp [upd, posL, sumI]
  | x :: l => by
    have ih := posL_upd k v p c l
    rw [lk_cons]
    unfold upd
    unfold posL at *
    by_cases h : x.1 == k
    · rw [if_pos h, if_pos h]
      have hk : x.1 = k := by simpa using h
      have hx : posT p c x = posT p c (k, x.2) := by rw [← hk]
      simp only [List.map_cons, sumI]
      omega
    · rw [if_neg h, if_neg h]
      simp only [List.map_cons, sumI]
      omega
theorem posL_add (l : Lines) (k : K3) (n p c : Int) : posL (addL l k n) p c = posL l p c + posT p c (k, (0, n)) := by
  unfold addL
  by_cases h : n = 0
  · subst h
    rw [if_pos rfl, posT_zero]
    omega
  · rw [if_neg h, posL_upd, posT_add p c k _ 0, posT_lim p c k 0 (lk l k).1]
    have : posT p c (k, lk l k) = posT p c (k, ((lk l k).1, (lk l k).2)) := rfl
    omega

/-- So much goes from a to b. -/
def mvP (p c' a b c n : Int) : Int := if c' = c then (if p = b then n else 0) - (if p = a then n else 0) else 0

theorem pos_push (L : Led) (a b c n p c' : Int) (hab : a ≠ b) : posR (pushL L a b c n) p c' = posR L p c' + mvP p c' a b c n := by
  unfold posR pushL mvP
  simp only
  rw [posL_add, posL_add]
  generalize min n (lk L.lines (a, b, c)).2 = f
  unfold posT
  simp only
  by_cases hc : c' = c
  · subst hc
    simp only [↓reduceIte]
    by_cases h1 : p = a
    · subst h1
      rw [if_pos rfl, if_neg (fun e => hab e.symm), if_pos rfl, if_neg hab, if_pos rfl]
      omega
    · by_cases h2 : p = b
      · subst h2
        rw [if_neg hab, if_pos rfl, if_pos rfl, if_pos rfl, if_neg (fun e => hab e.symm)]
        omega
      · rw [if_neg (fun e => h1 e.symm), if_neg (fun e => h2 e.symm), if_neg (fun e => h2 e.symm), if_neg (fun e => h1 e.symm), if_neg h2, if_neg h1]
        omega
  · rw [if_neg (fun e => hc e.symm), if_neg (fun e => hc e.symm), if_neg hc]
    omega

/-! ### What is left of a line -/
theorem lk_add (l : Lines) (k k' : K3) (n : Int) : lk (addL l k n) k' = if k' = k then ((lk l k).1, (lk l k).2 + n) else lk l k' := by
  unfold addL
  by_cases h : n = 0
  · rw [if_pos h]
    by_cases e : k' = k
    · rw [if_pos e, e, h]; simp
    · rw [if_neg e]
  · rw [if_neg h, lk_upd]
    by_cases e : k' = k
    · rw [if_pos e, if_pos e.symm]
    · rw [if_neg e, if_neg (fun h => e h.symm)]

theorem lk_push (L : Led) (a b c n : Int) (hab : a ≠ b) (k : K3) : lk (pushL L a b c n).lines k =
    if k = (a, b, c) then ((lk L.lines (a, b, c)).1, (lk L.lines (a, b, c)).2 - min n (lk L.lines (a, b, c)).2)
    else if k = (b, a, c) then ((lk L.lines (b, a, c)).1, (lk L.lines (b, a, c)).2 + (n - min n (lk L.lines (a, b, c)).2)) else lk L.lines k := by
  unfold pushL
  simp only
  have hne : ((b, a, c) : K3) ≠ (a, b, c) := fun e => hab (by injection e with e1 e2; exact e1.symm)
  rw [lk_add]
  by_cases h1 : k = (a, b, c)
  · subst h1
    rw [if_neg (fun e => hne e.symm), if_pos rfl, lk_add, if_pos rfl]
    rfl
  · rw [if_neg h1]
    by_cases h2 : k = (b, a, c)
    · subst h2
      rw [if_pos rfl, if_pos rfl, lk_add, if_neg hne]
    · rw [if_neg h2, if_neg h2, lk_add, if_neg h1]

theorem room_push (L : Led) (a b c n x y : Int) (hab : a ≠ b) : roomR (pushL L a b c n) x y c =
    if x = b ∧ y = a then roomR L x y c + n else if x = a ∧ y = b then roomR L x y c - n else roomR L x y c := by
  unfold roomR
  rw [lk_push L a b c n hab, lk_push L a b c n hab]
  have k1 : ∀ u v : Int, ((u, v, c) : K3) = (a, b, c) ↔ u = a ∧ v = b := fun u v => by simp
  have k2 : ∀ u v : Int, ((u, v, c) : K3) = (b, a, c) ↔ u = b ∧ v = a := fun u v => by simp
  simp only [k1, k2]
  by_cases h1 : x = b ∧ y = a
  · obtain ⟨e1, e2⟩ := h1
    subst e1 e2
    simp only [show ¬ (x = y ∧ y = x) from fun e => hab e.2, and_self, ↓reduceIte]
    omega
  · rw [if_neg h1]
    by_cases h2 : x = a ∧ y = b
    · obtain ⟨e1, e2⟩ := h2
      subst e1 e2
      simp only [show ¬ (y = x ∧ x = y) from fun e => hab e.2, and_self, ↓reduceIte]
      omega
    · rw [if_neg h2, if_neg h2, if_neg h1, if_neg (fun e => h1 ⟨e.2, e.1⟩), if_neg (fun e => h2 ⟨e.2, e.1⟩)]
theorem room_other (L : Led) (a b c n x y c' : Int) (hab : a ≠ b) (hc : c' ≠ c) : roomR (pushL L a b c n) x y c' = roomR L x y c' := by
  unfold roomR
  rw [lk_push L a b c n hab, lk_push L a b c n hab]
  have k1 : ∀ u v x y : Int, ((u, v, c') : K3) = (x, y, c) ↔ False := fun u v x y => by simp [hc]
  simp only [k1, if_false]

/-! ### The graph of a ledger, cell by cell -/
theorem gAt_inj {a b a' b' : Nat} (hb : b < 17) (hb' : b' < 17) (h : a * 17 + b = a' * 17 + b') : a = a' ∧ b = b' := by omega

theorem ofRow_len (L : Led) (cur a : Int) : ∀ (bs g : List Int), (ofRow L cur a bs g).length = g.length
  | [], _ => rfl
  | b :: bs, g => by
    have := ofRow_len L cur a bs (g.set (gAt a b) (roomR L a b cur))
    rw [List.length_set] at this
    exact this
theorem ofRow_at (L : Led) (cur : Int) (a : Nat) (ha : a < 17) : ∀ (bs g : List Int), g.length = 289 → (∀ b ∈ bs, ∃ j : Nat, j < 17 ∧ b = (j : Int)) → ∀ x y : Nat, x < 17 → y < 17 →
    (ofRow L cur a bs g).getD (x * 17 + y) 0 = if x = a ∧ (y : Int) ∈ bs then roomR L x y cur else g.getD (x * 17 + y) 0
  | [], g, _, _, x, y, _, _ => by simp [ofRow]
  | b :: bs, g, hl, hb, x, y, hx, hy => by
    obtain ⟨j, hj, rfl⟩ := hb b (by simp)
    have ih := ofRow_at L cur a ha bs (g.set (gAt a j) (roomR L a j cur)) (by simpa using hl) (fun b hb2 => hb b (by simp [hb2])) x y hx hy
    have e : ofRow L cur a ((j : Int) :: bs) g = ofRow L cur a bs (g.set (gAt a j) (roomR L a j cur)) := rfl
    rw [e, ih, gAt_nat, getD_set _ _ _ _ (by omega)]
    by_cases h1 : x = a ∧ (y : Int) ∈ bs
    · rw [if_pos h1, if_pos ⟨h1.1, by simp [h1.2]⟩]
    · rw [if_neg h1]
      by_cases h2 : x * 17 + y = a * 17 + j
      · obtain ⟨rfl, rfl⟩ := gAt_inj hy hj h2
        rw [if_pos h2, if_pos ⟨rfl, by simp⟩]
      · rw [if_neg h2, if_neg]
        rintro ⟨rfl, h3⟩
        rcases List.mem_cons.1 h3 with h3 | h3
        · exact h2 (by omega)
        · exact h1 ⟨rfl, h3⟩
theorem ofK_at (L : Led) (cur : Int) (ps : List Int) (hps : ∀ b ∈ ps, ∃ j : Nat, j < 17 ∧ b = (j : Int)) : ∀ (qs g : List Int), g.length = 289 → (∀ b ∈ qs, ∃ j : Nat, j < 17 ∧ b = (j : Int)) → ∀ x y : Nat, x < 17 → y < 17 →
    (qs.foldl (fun g a => ofRow L cur a ps g) g).getD (x * 17 + y) 0 = if (x : Int) ∈ qs ∧ (y : Int) ∈ ps then roomR L x y cur else g.getD (x * 17 + y) 0
  | [], g, _, _, x, y, _, _ => by simp
  | a :: qs, g, hl, ha, x, y, hx, hy => by
    obtain ⟨j, hj, rfl⟩ := ha a (by simp)
    have ih := ofK_at L cur ps hps qs (ofRow L cur j ps g) (by rw [ofRow_len]; exact hl) (fun b hb2 => ha b (by simp [hb2])) x y hx hy
    rw [List.foldl_cons, ih, ofRow_at L cur j hj ps g hl hps x y hx hy]
    by_cases h1 : (x : Int) ∈ qs ∧ (y : Int) ∈ ps
    · rw [if_pos h1, if_pos ⟨by simp [h1.1], h1.2⟩]
    · rw [if_neg h1]
      by_cases h2 : x = j ∧ (y : Int) ∈ ps
      · obtain ⟨rfl, h2⟩ := h2
        rw [if_pos ⟨rfl, h2⟩, if_pos ⟨by simp, h2⟩]
      · rw [if_neg h2, if_neg]
        rintro ⟨h3, h4⟩
        rcases List.mem_cons.1 h3 with h3 | h3
        · exact h2 ⟨by omega, h4⟩
        · exact h1 ⟨h3, h4⟩
theorem mem_parties (L : Led) (x : Nat) : (x : Int) ∈ partiesR L ↔ x < 17 ∧ L.par.getD x false = true := by
  unfold partiesR parK
  rw [List.mem_map]
  constructor
  · rintro ⟨j, hj, e⟩
    have e2 : (j : Int) = (x : Int) := e
    have : j = x := by omega
    subst this
    have := List.mem_filter.1 hj
    exact ⟨List.mem_range.1 this.1, this.2⟩
  · rintro ⟨h1, h2⟩
    exact ⟨x, List.mem_filter.2 ⟨List.mem_range.2 h1, h2⟩, rfl⟩
theorem parties_nat (L : Led) : ∀ b ∈ partiesR L, ∃ j : Nat, j < 17 ∧ b = (j : Int) := by
  intro b hb
  obtain ⟨k, hk, rfl⟩ := List.getElem_of_mem hb
  exact partiesR_at L k hk
theorem ofR_at (L : Led) (cur : Int) (x y : Nat) (hx : x < 17) (hy : y < 17) :
    (ofR L cur).getD (x * 17 + y) 0 = if L.par.getD x false = true ∧ L.par.getD y false = true then roomR L x y cur else 0 := by
  have h := ofK_at L cur (partiesR L) (parties_nat L) (partiesR L) (List.replicate 289 0) List.length_replicate (parties_nat L) x y hx hy
  have e : (partiesR L).foldl (fun g a => ofRow L cur a (partiesR L) g) (List.replicate 289 0) = ofR L cur := rfl
  rw [e] at h
  have hz : (List.replicate 289 (0 : Int)).getD (x * 17 + y) 0 = 0 := by
    rw [List.getD_eq_getElem?_getD, List.getElem?_replicate]
    split <;> rfl
  rw [h, hz]
  simp only [mem_parties, hx, hy, true_and]
theorem ofR_len {L : Led} (hw : WF L) (cur : Int) : (ofR L cur).length = 289 := (of_wf hw cur).len

theorem list_by_getD {l l' : List Int} (h1 : l.length = 289) (h2 : l'.length = 289) (h : ∀ x y : Nat, x < 17 → y < 17 → l.getD (x * 17 + y) 0 = l'.getD (x * 17 + y) 0) : l = l' := by
  apply List.ext_getElem (by omega)
  intro k hk hk'
  have := h (k / 17) (k % 17) (by omega) (by omega)
  rw [show k / 17 * 17 + k % 17 = k by omega, List.getD_eq_getElem?_getD, List.getD_eq_getElem?_getD, List.getElem?_eq_getElem hk, List.getElem?_eq_getElem hk'] at this
  exact this

/-- What may be pushed along an edge of a ledger's graph may be pushed on the ledger; the graph of the ledger behind is the graph behind. -/
theorem push_mirror {L : Led} (hw : WF L) (c : Int) (a b : Nat) (n : Int) (ha : a < 17) (hb : b < 17) (hab : a ≠ b) (hn : 1 ≤ n) (hc : n ≤ capR (ofR L c) a b) :
    pushR L a b c n = (0, pushL L a b c n) ∧ ofR (pushL L a b c n) c = gpush (ofR L c) a b n ∧ ∀ c', c' ≠ c → ofR (pushL L a b c n) c' = ofR L c' := by
  obtain ⟨⟨g1, _⟩, g2, _⟩ := capR_ok (c := ofR L c) (a := a) (b := b) (by omega)
  have hcap := cap_nat (ofR L c) a b (by omega) ha (by omega) hb
  rw [ofR_at L c a b ha hb] at hcap
  have habI : (a : Int) ≠ (b : Int) := by omega
  have hpar : L.par.getD a false = true ∧ L.par.getD b false = true := by
    by_cases h : L.par.getD a false = true ∧ L.par.getD b false = true
    · exact h
    · rw [if_neg h] at hcap; omega
  rw [if_pos hpar] at hcap
  have hpr : pushR L a b c n = (0, pushL L a b c n) := by
    unfold pushR
    rw [if_neg (by omega), if_neg (by omega)]
  have hwp : WF (pushL L a b c n) := by
    have := wf_push hw a b c n
    rw [hpr] at this
    exact this
  have hpp : (pushL L a b c n).par = L.par := rfl
  refine ⟨hpr, ?_, fun c' hc' => ?_⟩
  · refine list_by_getD (ofR_len hwp c) (by rw [gpush_len]; exact ofR_len hw c) fun x y hx hy => ?_
    rw [ofR_at _ c x y hx hy, hpp, gpush_at _ (ofR_len hw c) a b n ha hb hab, ofR_at L c x y hx hy, room_push L a b c n x y habI]
    by_cases h1 : x = b ∧ y = a
    · obtain ⟨rfl, rfl⟩ := h1
      rw [if_pos ⟨hpar.2, hpar.1⟩, if_pos ⟨rfl, rfl⟩, if_pos rfl, if_pos ⟨hpar.2, hpar.1⟩]
    · have h1' : ¬ ((x : Int) = (b : Int) ∧ (y : Int) = (a : Int)) := by omega
      rw [if_neg (show ¬ x * 17 + y = b * 17 + a by omega), if_neg h1']
      by_cases h2 : x = a ∧ y = b
      · obtain ⟨rfl, rfl⟩ := h2
        rw [if_pos ⟨hpar.1, hpar.2⟩, if_pos ⟨rfl, rfl⟩, if_pos rfl, if_pos ⟨hpar.1, hpar.2⟩]
      · have h2' : ¬ ((x : Int) = (a : Int) ∧ (y : Int) = (b : Int)) := by omega
        rw [if_neg h2', if_neg (show ¬ x * 17 + y = a * 17 + b by omega)]
  · refine list_by_getD (ofR_len hwp c') (ofR_len hw c') fun x y hx hy => ?_
    rw [ofR_at _ c' x y hx hy, hpp, ofR_at L c' x y hx hy, room_other L a b c n x y c' habI hc']

/-! ### A way, a route, a payment -/
def lastW : List Int → Int → Int
  | [], a => a
  | b :: r, _ => lastW r b

/-- What a ledger's fate is when so much goes from a to b. -/
structure WayP (L L' : Led) (a b c n : Int) : Prop where
  wf : WF L'
  par : L'.par = L.par
  pos : ∀ p c', posR L' p c' = posR L p c' + mvP p c' a b c n
  other : ∀ c', c' ≠ c → ofR L' c' = ofR L c'
  lims : L'.lines.map (fun x => (x.1, x.2.1)) = L.lines.map (fun x => (x.1, x.2.1))
theorem mvP_zero (p c' a b c : Int) : mvP p c' a b c 0 = 0 := by unfold mvP; simp
theorem mvP_self (p c' a c n : Int) : mvP p c' a a c n = 0 := by unfold mvP; split <;> omega
theorem mvP_trans (p c' a b e c n : Int) : mvP p c' a b c n + mvP p c' b e c n = mvP p c' a e c n := by
  unfold mvP
  split
  · omega
  · rfl
theorem mvP_add (p c' a b c n k : Int) : mvP p c' a b c n + mvP p c' a b c k = mvP p c' a b c (n + k) := by
  unfold mvP
  repeat' split
  all_goals omega
theorem WayP.refl {L : Led} (hw : WF L) (a b c : Int) : WayP L L a b c 0 := ⟨hw, rfl, fun p c' => by rw [mvP_zero]; omega, fun _ _ => rfl, rfl⟩
theorem WayP.self {L : Led} (hw : WF L) (a c n : Int) : WayP L L a a c n := ⟨hw, rfl, fun p c' => by rw [mvP_self]; omega, fun _ _ => rfl, rfl⟩
theorem WayP.trans {L L' L2 : Led} {a b e c n : Int} (h : WayP L L' a b c n) (k : WayP L' L2 b e c n) : WayP L L2 a e c n :=
  ⟨k.wf, k.par.trans h.par, fun p c' => by rw [k.pos, h.pos, ← mvP_trans p c' a b e c n]; omega, fun c' hc => (k.other c' hc).trans (h.other c' hc), k.lims.trans h.lims⟩
theorem WayP.more {L L' L2 : Led} {a b c n m : Int} (h : WayP L L' a b c n) (k : WayP L' L2 a b c m) : WayP L L2 a b c (n + m) :=
  ⟨k.wf, k.par.trans h.par, fun p c' => by rw [k.pos, h.pos, ← mvP_add p c' a b c n m]; omega, fun c' hc => (k.other c' hc).trans (h.other c' hc), k.lims.trans h.lims⟩

theorem upd_lims {k : K3} {v v0 : V2} : ∀ {l : Lines}, lkO l k = some v0 → v.1 = v0.1 → (upd l k v).map (fun x => (x.1, x.2.1)) = l.map (fun x => (x.1, x.2.1))
  | [], h, _ => by simp [lkO] at h
  | y :: l, h, he => by
    rw [lkO_cons] at h
    unfold upd
    split
    · rename_i hc
      rw [if_pos hc] at h
      injection h with h
      have hk : y.1 = k := by simpa using hc
      simp [hk, he, h]
    · rename_i hc
      rw [if_neg hc] at h
      simp [upd_lims h he]
theorem addL_lims (l : Lines) (k : K3) (n : Int) (h : lkO l k = none → n = 0) : (addL l k n).map (fun x => (x.1, x.2.1)) = l.map (fun x => (x.1, x.2.1)) := by
  unfold addL
  split
  · rfl
  · rename_i hn
    cases hk : lkO l k with
    | none => exact absurd (h hk) hn
    | some v0 => exact upd_lims hk (by rw [lk_some hk])
theorem addL_lkO (l : Lines) (k k' : K3) (n : Int) (h : lkO l k = none → n = 0) (hk : lkO (addL l k n) k' = none) : lkO l k' = none := by
  have hl := addL_lims l k n h
  cases hc : lkO l k' with
  | none => rfl
  | some v =>
    exfalso
    have hm := lkO_mem hc
    have : k' ∈ (addL l k n).map (·.1) := by
      have e : (addL l k n).map (·.1) = ((addL l k n).map (fun x => (x.1, x.2.1))).map (·.1) := by simp
      rw [e, hl]
      simp only [List.map_map]
      exact List.mem_map.2 ⟨_, hm, rfl⟩
    obtain ⟨x, hx, rfl⟩ := List.mem_map.1 this
    unfold lkO at hk
    rw [Option.map_eq_none_iff, List.find?_eq_none] at hk
    have := hk x hx
    simp at this
theorem push_lims {L : Led} (hw : WF L) (a b c n : Int) (hr : n ≤ roomR L a b c) (h1 : 1 ≤ n) : (pushL L a b c n).lines.map (fun x => (x.1, x.2.1)) = L.lines.map (fun x => (x.1, x.2.1)) := by
  have hb := hw.lk (a, b, c)
  unfold pushL
  simp only
  have c1 : lkO L.lines (a, b, c) = none → -(min n (lk L.lines (a, b, c)).2) = 0 := fun h => by
    rw [lk_none h]; simp only; omega
  rw [addL_lims _ (b, a, c) _ (fun h => ?_), addL_lims _ _ _ c1]
  have h2 := addL_lkO L.lines (a, b, c) (b, a, c) _ c1 h
  unfold roomR at hr
  rw [lk_none h2] at hr
  simp only at hr
  omega

theorem way_push {L : Led} (hw : WF L) (c : Int) (a b : Nat) (n : Int) (ha : a < 17) (hb : b < 17) (hab : a ≠ b) (hn : 1 ≤ n) (hc : n ≤ capR (ofR L c) a b) : WayP L (pushL L a b c n) a b c n := by
  obtain ⟨h1, h2, h3⟩ := push_mirror hw c a b n ha hb hab hn hc
  have hwp := wf_push hw a b c n
  rw [h1] at hwp
  have hr : n ≤ roomR L a b c := by
    by_cases h : roomR L a b c < n
    · unfold pushR at h1
      rw [if_neg (by omega), if_pos h] at h1
      cases h1
    · omega
  exact ⟨hwp, rfl, fun p c' => pos_push L a b c n p c' (by omega), h3, push_lims hw a b c n hr hn⟩

theorem pay_append (L : Led) (c : Int) (f g : Flows) : payFlows L c (f ++ g) = payFlows (payFlows L c f) c g := by
  unfold payFlows; rw [List.foldl_append]

/-- Along a way. -/
theorem way_flows {d : List Int} (c n : Int) (hn : 1 ≤ n) : ∀ (l : List Int) (a : Int) (L : Led), WF L → AdmW (ofR L c) d (a :: l) → (∀ i j : Nat, pairIn (a :: l) i j → n ≤ capR (ofR L c) i j) →
    ofR (payFlows L c (flowsOf (a :: l) n)) c = pushW (a :: l) (ofR L c) n ∧ WayP L (payFlows L c (flowsOf (a :: l) n)) a (lastW l a) c n
  | [], a, L, hw, _, _ => ⟨rfl, WayP.self hw a c n⟩
  | b :: r, a, L, hw, hadm, hle => by
    unfold AdmW at hadm
    obtain ⟨⟨x, y, rfl, rfl, hx, hy, hc, hd⟩, hr⟩ := hadm
    have hxy : x ≠ y := fun e => by subst e; omega
    have hnxy : n ≤ capR (ofR L c) x y := hle x y (.inl ⟨rfl, rfl⟩)
    obtain ⟨⟨hx1, _⟩, hy1, _⟩ := capR_ok hc
    obtain ⟨m1, m2, m3⟩ := push_mirror hw c x y n hx hy hxy hn hnxy
    have w1 := way_push hw c x y n hx hy hxy hn hnxy
    have hpd := fun i j => pair_d r (y : Int) hr i j
    have hat : ∀ i j : Nat, 1 ≤ i → i < 17 → 1 ≤ j → j < 17 → capR (gpush (ofR L c) x y n) i j = if i = y ∧ j = x then capR (ofR L c) i j + n else if i = x ∧ j = y then capR (ofR L c) i j - n else capR (ofR L c) i j := fun i j h1 h2 h3 h4 => by
      rw [cap_nat _ i j h1 h2 h3 h4, cap_nat _ i j h1 h2 h3 h4, gpush_at _ (ofR_len hw c) x y n hx hy hxy]
      by_cases g1 : i = y ∧ j = x
      · obtain ⟨rfl, rfl⟩ := g1; simp
      · rw [if_neg g1, if_neg (show ¬ i * 17 + j = y * 17 + x by omega)]
        by_cases g2 : i = x ∧ j = y
        · obtain ⟨rfl, rfl⟩ := g2; simp
        · rw [if_neg g2, if_neg (show ¬ i * 17 + j = x * 17 + y by omega)]
    have hsame : ∀ i j : Nat, pairIn ((y : Int) :: r) i j → capR (gpush (ofR L c) x y n) i j = capR (ofR L c) i j := fun i j hp => by
      obtain ⟨h1, h2, h3, h4, h5⟩ := hpd i j hp
      obtain ⟨⟨h6, _⟩, h7, _⟩ := capR_ok h3
      simp only [Int.toNat_natCast] at h5
      rw [hat i j (by omega) h1 (by omega) h2, if_neg, if_neg]
      · rintro ⟨rfl, rfl⟩; omega
      · rintro ⟨rfl, rfl⟩; omega
    have hadm1 : ∀ (r : List Int) (y0 : Int), AdmW (ofR L c) d (y0 :: r) → (∀ i j : Nat, pairIn (y0 :: r) i j → capR (gpush (ofR L c) x y n) i j = capR (ofR L c) i j) → AdmW (gpush (ofR L c) x y n) d (y0 :: r) := by
      intro r
      induction r with
      | nil => intro y0 _ _; simp [AdmW]
      | cons z r ih =>
        intro y0 h hs
        unfold AdmW at h ⊢
        obtain ⟨⟨i, j, rfl, rfl, h1, h2, h3, h4⟩, h5⟩ := h
        exact ⟨⟨i, j, rfl, rfl, h1, h2, by rw [hs i j (.inl ⟨rfl, rfl⟩)]; exact h3, h4⟩, ih _ h5 (fun i j hp => hs i j (.inr hp))⟩
    have ih := way_flows (d := d) c n hn r (y : Int) (pushL L x y c n) w1.wf (by rw [m2]; exact hadm1 r _ hr hsame) (fun i j hp => by rw [m2, hsame i j hp]; exact hle i j (.inr hp))
    have hf : payFlows L c (flowsOf ((x : Int) :: (y : Int) :: r) n) = payFlows (pushL L x y c n) c (flowsOf ((y : Int) :: r) n) := by
      show payFlows (pushR L x y c n).2 c (flowsOf ((y : Int) :: r) n) = _
      rw [m1]
    have hp0 : pushW ((x : Int) :: (y : Int) :: r) (ofR L c) n = pushW ((y : Int) :: r) (gpush (ofR L c) x y n) n := by
      conv => lhs; unfold pushW
      rw [gpushR_eq _ x y n hn hnxy]
    rw [hf, hp0]
    rw [m2] at ih
    exact ⟨ih.1, w1.trans ih.2⟩

theorem wayR_last {c d : List Int} {t : Nat} (h : BInv c t d []) : ∀ (n a : Nat), a < 17 → dAt d a = (n : Int) → dAt d a < 17 → lastW (wayR c d n a) (a : Int) = (t : Int)
  | 0, a, ha, hd, _ => by
    have := (h.root a ha).1 (by simpa using hd)
    simp [wayR, lastW, this]
  | n + 1, a, ha, hd, h17 => by
    obtain ⟨h1, h2, h3, h4, _⟩ := step_spec h a ha (by omega) h17
    unfold wayR lastW
    exact wayR_last h n _ h2 (by omega) (by omega)
theorem short_last {c : List Int} {a t : Int} (hn : shortF c a t ≠ []) : ∃ l, shortF c a t = a :: l ∧ lastW l a = t := by
  obtain ⟨i, j, rfl, rfl, hi, hj, hij, he, _⟩ := short_adm hn
  rw [he] at hn ⊢
  unfold shortR at hn ⊢
  split
  · rename_i hf
    rw [if_pos hf] at hn
    exact absurd rfl hn
  · rename_i hf
    have hB := hops_inv c j (by omega)
    have hr := hB.rng i (by omega)
    exact ⟨_, rfl, wayR_last hB _ i (by omega) (by omega) (by omega)⟩

/-- Fill by fill of a route. -/
theorem route_way (a t c want : Int) : ∀ (f : Nat) (L0 L : Led) (got : Int) (acc : Flows), WF L → payFlows L0 c acc = L → got < want → WayP L0 L a t c got →
    WayP L0 (payFlows L0 c (routeGo a t want f (ofR L c) got acc).1) a t c (routeGo a t want f (ofR L c) got acc).2
  | 0, L0, L, got, acc, _, hp, _, h => by
    simp only [routeGo]
    rw [hp]
    exact h
  | f + 1, L0, L, got, acc, hw, hp, hg, h => by
    unfold routeGo
    by_cases hn : shortF (ofR L c) a t = []
    · rw [if_pos hn]
      simp only
      rw [hp]
      exact h
    · rw [if_neg hn]
      obtain ⟨p1, p2, p3, _⟩ := round_spec (of_wf hw c) hn (want - got) (by omega)
      obtain ⟨l, hl, hlast⟩ := short_last hn
      obtain ⟨_, j, _, _, _, _, _, _, hadm, _, _⟩ := short_adm hn
      rw [hl] at hadm p1 p2 p3 ⊢
      have hw2 := way_flows (d := hopsR (ofR L c) j) c (leastG (ofR L c) (a :: l) (want - got)) p1 l a L hw hadm (fun i j hp => leastG_pair _ l a _ i j hp)
      rw [hlast] at hw2
      generalize leastG (ofR L c) (a :: l) (want - got) = n at *
      have hmore := h.more hw2.2
      have hpa : payFlows L0 c (acc ++ flowsOf (a :: l) n) = payFlows L c (flowsOf (a :: l) n) := by rw [pay_append, hp]
      by_cases g1 : got + n = want
      · rw [if_pos g1]
        simp only
        rw [hpa, ← g1]
        exact hmore
      · rw [if_neg g1, ← hw2.1]
        exact route_way a t c want f L0 _ (got + n) _ hw2.2.wf hpa (by omega) hmore

/-- What a payment that goes leaves. -/
theorem pay_ok {L : Led} (hw : WF L) (a b c n : Int) (hb : badR a b c n = false) (h1 : hasP L a = true) (h2 : hasP L b = true) (hm : n ≤ mostR (ofR L c) a b) :
    (payR L a b c n).1.2 = 0 ∧ WayP L (payR L a b c n).2 a b c n := by
  have hn : 1 ≤ n ∧ n ≤ 1099511627776 := by
    unfold badR at hb
    simp only [Bool.not_eq_false', Bool.and_eq_true, decide_eq_true_eq] at hb
    omega
  have hr := route_min (ofR L c) a b n (of_wf hw c) hn.1 (by omega)
  have hgot : (routeR (ofR L c) a b n).2 = n := by omega
  have hrt := route_way a b c n 90000 L L 0 [] hw rfl (by omega) (WayP.refl hw a b c)
  have he : routeR (ofR L c) a b n = routeGo a b n 90000 (ofR L c) 0 [] := by
    unfold routeR
    rw [if_neg (by omega)]
  rw [← he, hgot] at hrt
  unfold payR
  rw [if_neg (by rw [hb]; simp), if_neg (by rw [h1, h2]; simp), if_neg (by omega)]
  exact ⟨rfl, hrt⟩
end Go.Proofs.YtahdgojcebajkaaGreat
