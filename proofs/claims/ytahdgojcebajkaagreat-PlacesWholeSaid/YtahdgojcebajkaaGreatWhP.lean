/- What comes, plain: its fills are a chain, none of a rate that is over; what is left of it, and what is placed. Cancel: one offer is struck. What is placed, struck again; of what stands against it none may be filled: plain. Next: the next number. -/
import Derived.Test.YtahdgojcebajkaaGreatStands
import Derived.Test.YtahdgojcebajkaaGreatPlace4
import Derived.Test.YtahdgojcebajkaaGreatMade
import Derived.Test.YtahdgojcebajkaaGreatBk6
import Derived.Test.YtahdgojcebajkaaGreatBk

namespace Go.Proofs.YtahdgojcebajkaaGreat

theorem nextGo_find (L : Led) (B : Bk) (o : Off) : ∀ l, (nextGo L B o l).2 ≠ 0 → ∃ j, ∃ hj : j < l.length, nextGo L B o l = ((l[j]'hj).seq, mayT L B (l[j]'hj).seq o.owner o.owner 1099511627776 o.left) ∧
    0 < mayT L B (l[j]'hj).seq o.owner o.owner 1099511627776 o.left ∧ overR o (l[j]'hj) = false ∧ ∀ i (hi : i < j), ¬ 0 < mayT L B (l[i]'(by omega)).seq o.owner o.owner 1099511627776 o.left
  | [], h => absurd rfl h
  | y :: l, h => by
    unfold nextGo at h ⊢
    by_cases h1 : overR o y = true
    · rw [if_pos h1] at h; exact absurd rfl h
    · rw [if_neg h1] at h ⊢
      by_cases h2 : 0 < mayT L B y.seq o.owner o.owner 1099511627776 o.left
      · rw [if_pos h2]
        exact ⟨0, by simp, rfl, h2, by simpa using h1, fun i hi => by omega⟩
      · rw [if_neg h2] at h ⊢
        obtain ⟨j, hj, k1, k2, k3, k4⟩ := nextGo_find L B o l h
        refine ⟨j + 1, Nat.succ_lt_succ hj, k1, k2, k3, fun i hi => ?_⟩
        cases i with
        | zero => exact h2
        | succ i => exact k4 i (by omega)

/-- None that is not over may be filled. -/
theorem nextGo_none {L : Led} {B : Bk} {o : Off} : ∀ {l : List Off}, l.Pairwise (fun a b => overR o a = true → overR o b = true) → (nextGo L B o l).2 = 0 → ∀ y ∈ l, overR o y = true ∨ ¬ 0 < mayT L B y.seq o.owner o.owner 1099511627776 o.left
  | [], _, _ => by simp
  | y :: l, hp, h => by
    rw [List.pairwise_cons] at hp
    unfold nextGo at h
    by_cases h1 : overR o y = true
    · intro z hz
      rcases List.mem_cons.1 hz with rfl | hz
      · exact .inl h1
      · exact .inl (hp.1 z hz h1)
    · rw [if_neg h1] at h
      by_cases h2 : 0 < mayT L B y.seq o.owner o.owner 1099511627776 o.left
      · rw [if_pos h2] at h
        simp only at h
        omega
      · rw [if_neg h2] at h
        intro z hz
        rcases List.mem_cons.1 hz with rfl | hz
        · exact .inr h2
        · exact nextGo_none hp.2 h z hz

theorem over_eq {o p : Off} (ho : mayR o.num o.den = true) (hp : mayR p.num p.den = true) : overR o p = decide (o.den * p.den < p.num * o.num) := by
  have hb := ho
  unfold mayR at hb
  rw [decide_eq_true_eq] at hb
  have hi : mayR o.den o.num = true := by
    unfold mayR
    rw [decide_eq_true_eq]
    have hg : Int.gcd o.den o.num = Int.gcd o.num o.den := Int.gcd_comm _ _
    refine ⟨by omega, by omega, by omega, by omega, ?_⟩
    first | (rw [hg]; omega) | omega
  unfold overR invR cmpR
  rw [if_pos ho]
  simp only
  rw [hp, hi]
  simp only [Bool.and_self, ↓reduceIte]
  have h : 0 < cmpI (p.num * o.num) (o.den * p.den) ↔ o.den * p.den < p.num * o.num := by
    have h1 := @cmpI_neg (p.num * o.num) (o.den * p.den)
    have h2 := @cmpI_zero (p.num * o.num) (o.den * p.den)
    omega
  simp only [h]

theorem next_take (B : Bk) (seq n : Int) : (takeR B seq n).2.next = B.next := by
  unfold takeR
  split
  · rfl
  · split
    · rfl
    · split <;> rfl
theorem seqLt_take {B : Bk} (h : SeqLt B) (seq n : Int) : SeqLt (takeR B seq n).2 := by
  refine ⟨seqN_take h.1 seq n, fun o ho => ?_⟩
  rw [next_take]
  obtain ⟨x, k1, k2, _⟩ := take_sub h.1 (seq := seq) (n := n) (s := o.seq) (o' := o) (find_of_mem (seqN_take h.1 seq n) ho)
  have := h.2 x (findR_mem k1).1
  have := (findR_mem k1).2
  omega
theorem fill_seqLt {L L' : Led} {B B' : Bk} {o : Off} {f : Fl} (h : FillP L B o f L' B') (hs : SeqLt B) : SeqLt B' ∧ B'.next = B.next := by
  rw [h.bk]
  exact ⟨seqLt_take hs _ _, next_take _ _ _⟩

theorem goesGo_chain (o : Off) : ∀ (f : Nat) (L : Led) (B : Bk) (left : Int) (all : List Fl), WF L → OkB B → SeqLt B → all.length + f = 65 → all.length ≤ 64 → (goesGo o f L B left all).1 = 0 →
    ∃ l, (goesGo o f L B left all).2.2.2.2 = all ++ l ∧ ChainOk o.buy o.sell true l L B 1099511627776 left (goesGo o f L B left all).2.1 (goesGo o f L B left all).2.2.1 ∧ (∀ x ∈ l, x.2.1 = o.owner ∧ x.2.2.1 = o.owner) ∧
      (∀ x ∈ l, ∃ p, findR B.offs x.1 = some p ∧ overR o p = false) ∧ (goesGo o f L B left all).2.2.2.1 = left - gvS l ∧ (0 ≤ left → 0 ≤ (goesGo o f L B left all).2.2.2.1) ∧
      (0 < (goesGo o f L B left all).2.2.2.1 → (nextR (goesGo o f L B left all).2.1 (goesGo o f L B left all).2.2.1 { o with left := (goesGo o f L B left all).2.2.2.1 }).2 = 0) ∧
      WF (goesGo o f L B left all).2.1 ∧ OkB (goesGo o f L B left all).2.2.1 ∧ SeqLt (goesGo o f L B left all).2.2.1 ∧ (goesGo o f L B left all).2.2.1.next = B.next ∧ all.length + l.length ≤ 64
  | 0, L, B, left, all, _, _, _, h1, h2, _ => by omega
  | f + 1, L, B, left, all, hw, hB, hS, h1, h2, h0 => by
    unfold goesGo at h0 ⊢
    by_cases hn : left ≤ 0
    · rw [if_pos hn]
      exact ⟨[], by simp, ⟨rfl, rfl⟩, by simp, by simp, by simp [gvS, sumI], fun h => h, fun h => by simp only at h; omega, hw, hB, hS, rfl, by simpa using h2⟩
    · rw [if_neg hn] at h0 ⊢
      by_cases hz : (nextR L B { o with left := left }).2 = 0
      · rw [if_pos hz]
        exact ⟨[], by simp, ⟨rfl, rfl⟩, by simp, by simp, by simp [gvS, sumI], fun h => h, fun _ => hz, hw, hB, hS, rfl, by simpa using h2⟩
      · rw [if_neg hz] at h0 ⊢
        by_cases hl : all.length = 64
        · rw [if_pos hl] at h0; simp at h0
        · rw [if_neg hl] at h0 ⊢
          obtain ⟨j, hj, k1, k2, k3, k4⟩ := nextGo_find L B { o with left := left } _ hz
          unfold nextR at h0 ⊢
          rw [k1] at h0 ⊢
          simp only at h0 ⊢ k1 k2 k3 k4
          unfold agR at hj k1 k2 k3 k4 h0 ⊢
          simp only at hj k1 k2 k3 k4 h0 ⊢
          obtain ⟨p, hp⟩ : ∃ p, p = (bestR B.offs o.buy o.sell)[j]'hj := ⟨_, rfl⟩
          rw [← hp] at k1 k2 k3 h0 ⊢
          obtain ⟨hst, ht1, ht2⟩ := step_ok (get := o.buy) (give := o.sell) (want := 1099511627776) (most := left) (taker := o.owner) (to := o.owner) hw hB hS.1 j hj hp.symm (by omega) k4
          have hwf2 := wf_do (B := B) hw p.seq o.owner o.owner (mayT L B p.seq o.owner o.owner 1099511627776 left)
          have hok2 := ok_do (L := L) hB p.seq o.owner o.owner (mayT L B p.seq o.owner o.owner 1099511627776 left)
          have hsn2 := fill_seqLt hst.fill hS
          have hmo := hst.most
          have hfd := hst.fill.fnd
          generalize doR L B p.seq o.owner o.owner (mayT L B p.seq o.owner o.owner 1099511627776 left) = d at *
          obtain ⟨l, q1, q2, q3, q4, q5, q6, q7, q8, q9, q10, q11, q12⟩ := goesGo_chain o f d.2.2.1 d.2.2.2 (left - d.1.2.2.2.2) (all ++ [d.1]) hwf2 hok2 hsn2.1 (by simp; omega) (by simp; omega) h0
          unfold nextR agR at q7
          simp only at q7
          refine ⟨d.1 :: l, by rw [q1]; simp, ⟨p, d.2.2.1, d.2.2.2, hst, q2⟩, fun x hx => ?_, fun x hx => ?_, ?_, fun _ => q6 (by omega), q7, q8, q9, q10, q11.trans hsn2.2, by simp at q12 ⊢; omega⟩
          · rcases List.mem_cons.1 hx with rfl | hx
            · exact ⟨ht1, ht2⟩
            · exact q3 x hx
          · rcases List.mem_cons.1 hx with rfl | hx
            · exact ⟨p, hfd, k3⟩
            · obtain ⟨p1, r1, r2⟩ := q4 x hx
              rw [hst.fill.bk] at r1
              obtain ⟨p2, s1, _, _, _, s5, s6⟩ := take_sub hS.1 r1
              refine ⟨p2, s1, ?_⟩
              unfold overR at r2 ⊢
              rw [s5, s6]
              exact r2
          · rw [q5]
            unfold gvS
            simp only [List.map_cons, sumI]
            omega

/-- One that comes and may: what is filled, what is left, what is placed. -/
structure ComeOk (L : Led) (B : Bk) (o : Off) (r : Int × Int × Led × Bk × List Fl) (B' : Bk) (left : Int) : Prop where
  chain : ChainOk o.buy o.sell true r.2.2.2.2 L B 1099511627776 o.left r.2.2.1 B'
  who : ∀ x ∈ r.2.2.2.2, x.2.1 = o.owner ∧ x.2.2.1 = o.owner
  over : ∀ x ∈ r.2.2.2.2, ∃ p, findR B.offs x.1 = some p ∧ overR o p = false
  lf : left = o.left - gvS r.2.2.2.2
  lf0 : 0 ≤ left
  non : 0 < left → (nextR r.2.2.1 B' { o with left := left }).2 = 0
  wf : WF r.2.2.1
  ok : OkB B'
  seq : SeqLt B'
  next : B'.next = B.next
  few : r.2.2.2.2.length ≤ 64
  fine : offOk ⟨1, o.owner, o.sell, o.buy, o.left, o.num, o.den⟩ = true
  has : hasP L o.owner = true
  fin : (left = 0 ∧ r.2.1 = 0 ∧ r.2.2.2.1 = B') ∨ (0 < left ∧ r.2.1 = B.next ∧ r.2.2.2.1 = ⟨B'.offs ++ [⟨B.next, o.owner, o.sell, o.buy, left, o.num, o.den⟩], B.next + 1⟩ ∧ B'.offs.length < 32)

theorem come_ok {L : Led} {B : Bk} {o : Off} (hw : WF L) (hB : OkB B) (hS : SeqLt B) (h0 : (comeR L B o).1 = 0) : ∃ B' left, ComeOk L B o (comeR L B o) B' left := by
  unfold comeR at h0 ⊢
  by_cases c1 : cmayR o = false
  · rw [if_pos c1] at h0; simp at h0
  · rw [if_neg c1] at h0 ⊢
    have hfine : offOk ⟨1, o.owner, o.sell, o.buy, o.left, o.num, o.den⟩ = true := by
      unfold cmayR placeR at c1
      by_cases h : offOk ⟨1, o.owner, o.sell, o.buy, o.left, o.num, o.den⟩ = true
      · exact h
      · rw [if_pos (by simpa using h)] at c1
        exact absurd rfl c1
    by_cases c2 : hasP L o.owner = false
    · rw [if_pos c2] at h0; simp at h0
    · rw [if_neg c2] at h0 ⊢
      by_cases c3 : (goesGo o 65 L B o.left []).1 ≠ 0
      · rw [if_pos c3] at h0; exact absurd h0 c3
      · rw [if_neg c3] at h0 ⊢
        have hl0 : 0 ≤ o.left := by
          have := hfine
          unfold offOk at this
          rw [decide_eq_true_eq] at this
          simp only at this
          omega
        obtain ⟨l, q1, q2, q3, q4, q5, q6, q7, q8, q9, q10, q11, q12⟩ := goesGo_chain o 65 L B o.left [] hw hB hS (by simp) (by simp) (by by_cases e : (goesGo o 65 L B o.left []).1 = 0; exact e; exact absurd e c3)
        have q6 := q6 hl0
        generalize goesGo o 65 L B o.left [] = G at *
        obtain ⟨ge, gL, gB, gl, gf⟩ := G
        simp only [List.nil_append] at *
        subst q1
        have c2' : hasP L o.owner = true := by simpa using c2
        by_cases c4 : 0 < gl
        · rw [if_pos c4] at h0 ⊢
          by_cases c5 : (placeR gB o.owner o.sell o.buy gl o.num o.den).2.1 ≠ 0
          · rw [if_pos c5] at h0; exact absurd h0 c5
          · rw [if_neg c5] at h0 ⊢
            unfold placeR at c5 ⊢
            by_cases d1 : offOk ⟨gB.next, o.owner, o.sell, o.buy, gl, o.num, o.den⟩ = false
            · rw [if_pos d1] at c5; simp at c5
            · rw [if_neg d1] at c5 ⊢
              by_cases d2 : 32 ≤ gB.offs.length ∨ gB.next = 18446744073709551615
              · rw [if_pos d2] at c5; simp at c5
              · rw [if_neg d2] at c5 ⊢
                exact ⟨gB, gl, q2, q3, q4, q5, q6, q7, q8, q9, q10, q11, by simpa using q12, hfine, c2', .inr ⟨c4, q11, by simp only [q11], by omega⟩⟩
        · rw [if_neg c4] at h0 ⊢
          exact ⟨gB, gl, q2, q3, q4, q5, q6, fun h => absurd h c4, q8, q9, q10, q11, by simpa using q12, hfine, c2', .inl ⟨by omega, rfl, rfl⟩⟩

theorem come_bad {L : Led} {B : Bk} {o : Off} (h : (comeR L B o).1 ≠ 0) : (comeR L B o).2.1 = 0 := by
  unfold comeR at h ⊢
  split
  · rfl
  · rename_i c1
    rw [if_neg c1] at h
    split
    · rfl
    · rename_i c2
      rw [if_neg c2] at h
      split
      · rfl
      · rename_i c3
        rw [if_neg c3] at h
        split
        · rename_i c4
          rw [if_pos c4] at h
          split
          · rfl
          · rename_i c5
            rw [if_neg c5] at h
            exact absurd rfl h
        · rename_i c4
          rfl
/-- What is placed is found. -/
theorem find_placed {l : List Off} {x : Off} {n : Int} (h : ∀ o ∈ l, o.seq < n) (hx : x.seq = n) : findR (l ++ [x]) n = some x ∧ idxR (l ++ [x]) n = (l.length : Int) := by
  have hf : findR (l ++ [x]) n = some x := by
    unfold findR
    rw [List.find?_append]
    have h1 : l.find? (fun o => o.seq == n) = none := by
      rw [List.find?_eq_none]
      intro o ho
      have := h o ho
      simp only [beq_iff_eq]
      omega
    rw [h1]
    simp [hx]
  refine ⟨hf, ?_⟩
  rcases idxR_spec (l ++ [x]) n with ⟨_, h2⟩ | ⟨j, hj, h1, h2⟩
  · rw [hf] at h2; cases h2
  · rw [h1]
    by_cases hjl : j < l.length
    · exfalso
      have hm := List.getElem_mem hjl
      have := h _ hm
      have hq := (findR_mem h2).2
      rw [List.getElem_append_left hjl] at hq
      omega
    · simp at hj
      omega

/-- Each fill gets its owner more than the rate times what is given, less one. -/
theorem fill_over {o p : Off} {got given : Int} (ho : mayR o.num o.den = true) (hp : mayR p.num p.den = true) (hf : FairP got given p.num p.den) (hov : overR o p = false) : (given - 1) * o.num < got * o.den := by
  rw [over_eq ho hp, decide_eq_false_iff_not, Int.not_lt] at hov
  unfold mayR at ho
  rw [decide_eq_true_eq] at ho
  have h1 : (given - 1) * p.den < got * p.num := by
    have := hf.hi
    rw [Int.sub_mul]
    omega
  have h2 : ((given - 1) * p.den) * o.num < (got * p.num) * o.num := Int.mul_lt_mul_of_pos_right h1 (by omega)
  have h3 : got * (p.num * o.num) ≤ got * (o.den * p.den) := Int.mul_le_mul_of_nonneg_left hov (by have := hf.g1; omega)
  have h4 : ((given - 1) * o.num) * p.den < (got * o.den) * p.den := by
    rw [Int.mul_assoc] at h2 h2
    have e1 : (given - 1) * o.num * p.den = (given - 1) * (p.den * o.num) := by rw [Int.mul_assoc, Int.mul_comm o.num]
    have e2 : got * o.den * p.den = got * (o.den * p.den) := Int.mul_assoc _ _ _
    have e3 : got * p.num * o.num = got * (p.num * o.num) := Int.mul_assoc _ _ _
    rw [e1, e2]
    first | omega | (rw [e3] at h2; omega)
  exact Int.lt_of_mul_lt_mul_right h4 (by have := hf.d1; omega)
end Go.Proofs.YtahdgojcebajkaaGreat

namespace Go.Proofs.YtahdgojcebajkaaGreat
open Go.RowKit Go.Rg Go.BigFrame

def cancelR (B : Bk) (owner seq : Int) : Int × Int × Bk := match findR B.offs seq with
  | none => (0, 7, B)
  | some o => if o.owner ≠ owner then (0, 15, B) else (o.left, 0, { B with offs := B.offs.eraseIdx (idxR B.offs seq).toNat })


set_option maxRecDepth 100000 in
set_option maxHeartbeats 1600000 in
theorem cancel_any (p : Nat) (g : Option Nat) (B : Bk) (owner seq : Int) (w : World) (h : IsBook w p g B) :
    Calls Tryz.prog 15 #[.pointer (some ⟨p, 0, none⟩), .int .u8 owner, .int .u64 seq] w (RetB (.tuple #[.int .i64 (cancelR B owner seq).1, .int .i64 (cancelR B owner seq).2.1]) p g (cancelR B owner seq).2.2 w) := by
  have ct := fun w h => bthere_any p g B w h
  have ca := fun w h => at_any p g B seq w h
  rcases idxR_spec B.offs seq with ⟨h1, h2⟩ | ⟨j, hj, h1, h2⟩
  · have hr : cancelR B owner seq = (0, 7, B) := by unfold cancelR; rw [h2]
    rw [hr]
    rw [h1] at ca
    clear hr h1 h2
    go_enter Tryz.func15, Tryz.ntmps15
    go_wp2_with fail
    refine (ct w h).mono ?_
    rintro e w1 ⟨rfl, e1⟩
    go_wp2_with fail
    refine (ca _ (h.ext e1)).mono ?_
    rintro e w2 ⟨rfl, e2⟩
    have E2 := Ext.trans e1 e2
    have h2 := h.ext E2
    go_wp2
    go_ret2
    exact RetB.same h E2
  · have hr : cancelR B owner seq = if (B.offs[j]'hj).owner ≠ owner then (0, 15, B) else ((B.offs[j]'hj).left, 0, { B with offs := B.offs.eraseIdx j }) := by
      unfold cancelR; rw [h2, h1]; rfl
    rw [hr]
    rw [h1] at ca
    generalize ho : B.offs[j]'hj = o at *
    have HO := Lib.hid ho
    clear hr h1 h2 ho
    by_cases hn1 : o.owner = owner
    · rw [if_neg (by simpa using hn1)]
      have hne : (o.owner != owner) = false := by simp [hn1]
      go_enter Tryz.func15, Tryz.ntmps15
      go_wp2_with fail
      refine (ct w h).mono ?_
      rintro e w1 ⟨rfl, e1⟩
      go_wp2_with fail
      refine (ca _ (h.ext e1)).mono ?_
      rintro e w2 ⟨rfl, e2⟩
      have E2 := Ext.trans e1 e2
      have h2 := h.ext E2
      obtain ⟨v, hp2, hv, hown⟩ := h2.row
      obtain ⟨b, cap, cur, rfl, hg2, q1, q2, q3, q4⟩ : ∃ b cap cur, v = .slice (some ⟨b, 0, none⟩) B.offs.length cap ∧ w2.heap[b]? = some (.cells cur 32 (0, 0)) ∧ B.offs.length ≤ cap ∧ cap ≤ maxLen ∧ cur.size = cap * 7 ∧ cur.toList.take (B.offs.length * 7) = offCells B.offs := by
        rcases hown.2 with ⟨_, h4⟩ | ⟨b, cap, cur, hvv, _, hh, r1, r2, r3, r4⟩
        · omega
        · exact ⟨b, cap, cur, hvv, hh, r1, r2, r3, r4⟩
      have hc0 := cell_at hp2 (j := 0) rfl
      have hcurL : cur.toList[j * 7 + 4]? = some (.int .i64 o.left) := by
        have := offCells_at B.offs j 4 hj (by omega)
        rw [HO.out, ← q4, List.getElem?_take_of_lt (by omega)] at this
        exact this
      have hcL : w2.cell? ⟨b, j * 7 + 4, none⟩ = some (.int .i64 o.left) := cell_at hg2 (by rw [← Array.getElem?_toList]; exact hcurL)
      have hcurO : cur.toList[j * 7 + 1]? = some (.int .u8 o.owner) := by
        have := offCells_at B.offs j 1 hj (by omega)
        rw [HO.out, ← q4, List.getElem?_take_of_lt (by omega)] at this
        exact this
      have hcO : w2.cell? ⟨b, j * 7 + 1, none⟩ = some (.int .u8 o.owner) := cell_at hg2 (by rw [← Array.getElem?_toList]; exact hcurO)
      have hn63 : (B.offs.length : Int) ≤ 9223372036854775807 := by have := h.few; omega
      have cd := fun w3 (hg : w3.heap[b]? = some (.cells cur 32 (0, 0))) => bdelete_any b cap j _ B.offs w3 hj q1 q2 hg q3 q4
      go_wp2_with (go_at_call 61; refine (cd _ hg2).mono ?_; rintro e w4 ⟨rfl, k4, cur4, hg4, hs4, ht4⟩; have hpb : p ∉ [b] := (by have := own_ne_row hown hp2 (by decide); simp only [List.mem_singleton]; rintro rfl; exact this rfl); have hp4 := k4.at hp2 hpb; have c40 := cell_at hp4 (j := 0) rfl; have f40 := frozen_of_row w4 p 0 _ _ hp4)
      go_ret2
      have hp5 := heap_setCell_same w4 p 0 _ _ (.slice (some ⟨b, 0, none⟩) (B.offs.length - 1) cap) hp4
      have k5 : Keep [p] w4 (w4.setCell ⟨p, 0, none⟩ (.slice (some ⟨b, 0, none⟩) (B.offs.length - 1) cap)) := (Keep.refl _ _).setCell (Or.inl (by simp)) _
      have hbp : b ∉ [p] := by simp only [List.mem_singleton]; rintro rfl; exact hpb (by simp)
      have hg5 := k5.at hg4 hbp
      have hle : (B.offs.eraseIdx j).length = B.offs.length - 1 := by rw [List.length_eraseIdx, if_pos hj]
      refine ⟨rfl, g, ?_, ⟨⟨_, hp5, hv, ?_⟩, h.made, h.top, by rw [hle]; have := h.few; omega⟩, .inl rfl⟩
      · have hS : ∀ x ∈ [b], x ∈ p :: g.toList := fun x hx => by rw [← hv]; simp at hx; simp [Value.ownBlock, hx]
        exact ((Keep.of_ext E2).trans (k4.mono hS)).trans (k5.mono (fun x hx => by simp at hx; simp [hx]))
      · simp only [hle]
        exact ⟨by rw [offCells_len, hle], .inr ⟨b, cap, cur4, rfl, Nat.zero_le _, hg5, by omega, q2, hs4, ht4⟩⟩
    · rw [if_pos hn1]
      have hne : (o.owner != owner) = true := by simpa using hn1
      go_enter Tryz.func15, Tryz.ntmps15
      go_wp2_with fail
      refine (ct w h).mono ?_
      rintro e w1 ⟨rfl, e1⟩
      go_wp2_with fail
      refine (ca _ (h.ext e1)).mono ?_
      rintro e w2 ⟨rfl, e2⟩
      have E2 := Ext.trans e1 e2
      have h2 := h.ext E2
      obtain ⟨v, hp2, hv, hown⟩ := h2.row
      obtain ⟨b, cap, cur, rfl, hg2, q1, q2, q3, q4⟩ : ∃ b cap cur, v = .slice (some ⟨b, 0, none⟩) B.offs.length cap ∧ w2.heap[b]? = some (.cells cur 32 (0, 0)) ∧ B.offs.length ≤ cap ∧ cap ≤ maxLen ∧ cur.size = cap * 7 ∧ cur.toList.take (B.offs.length * 7) = offCells B.offs := by
        rcases hown.2 with ⟨_, h4⟩ | ⟨b, cap, cur, hvv, _, hh, r1, r2, r3, r4⟩
        · omega
        · exact ⟨b, cap, cur, hvv, hh, r1, r2, r3, r4⟩
      have hc0 := cell_at hp2 (j := 0) rfl
      have hcurL : cur.toList[j * 7 + 4]? = some (.int .i64 o.left) := by
        have := offCells_at B.offs j 4 hj (by omega)
        rw [HO.out, ← q4, List.getElem?_take_of_lt (by omega)] at this
        exact this
      have hcL : w2.cell? ⟨b, j * 7 + 4, none⟩ = some (.int .i64 o.left) := cell_at hg2 (by rw [← Array.getElem?_toList]; exact hcurL)
      have hcurO : cur.toList[j * 7 + 1]? = some (.int .u8 o.owner) := by
        have := offCells_at B.offs j 1 hj (by omega)
        rw [HO.out, ← q4, List.getElem?_take_of_lt (by omega)] at this
        exact this
      have hcO : w2.cell? ⟨b, j * 7 + 1, none⟩ = some (.int .u8 o.owner) := cell_at hg2 (by rw [← Array.getElem?_toList]; exact hcurO)
      have hn63 : (B.offs.length : Int) ≤ 9223372036854775807 := by have := h.few; omega
      go_wp2
      go_ret2
      exact RetB.same h E2
end Go.Proofs.YtahdgojcebajkaaGreat

namespace Go.Proofs.YtahdgojcebajkaaGreat

theorem cancel_placed {l : List Off} {x : Off} {n m own : Int} (h : ∀ o ∈ l, o.seq < n) (hx : x.seq = n) (ho : x.owner = own) : cancelR ⟨l ++ [x], m⟩ own n = (x.left, 0, ⟨l, m⟩) := by
  obtain ⟨h1, h2⟩ := find_placed h hx
  unfold cancelR
  simp only
  rw [h1, h2]
  simp only [ho]
  rw [if_neg (by simp)]
  simp only [Int.toNat_natCast]
  rw [List.eraseIdx_append_of_length_le (Nat.le_refl _)]
  simp

theorem best_over {B : Bk} (hok : OkB B) {o : Off} (hm : mayR o.num o.den = true) (sell buy : Int) : (bestR B.offs sell buy).Pairwise (fun a b => overR o a = true → overR o b = true) := by
  have hr : ∀ y ∈ bestR B.offs sell buy, rateOk y := fun y hy => (offOk_rat (hok y (mem_bestR hy).1)).2.2
  have hs : (bestR B.offs sell buy).Pairwise (fun a b => ltO b a = false) := sortR_sorted (p := rateOk) ltO_asymm ltO_ntrans _ fun y hy => (offOk_rat (hok y (List.mem_filter.1 hy).1)).2.2
  generalize bestR B.offs sell buy = l at *
  refine List.Pairwise.imp_of_mem ?_ hs
  intro a b ha hb hab h
  have ra := hr a ha
  have rb := hr b hb
  rw [ltO_false rb ra] at hab
  rw [over_eq hm ra, decide_eq_true_eq] at h
  rw [over_eq hm rb, decide_eq_true_eq]
  obtain ⟨pa, qa⟩ := rateOk_pos ra
  obtain ⟨pb, qb⟩ := rateOk_pos rb
  have hb2 := hm
  unfold mayR at hb2
  rw [decide_eq_true_eq] at hb2
  have h1 : (o.den * a.den) * b.den < (a.num * o.num) * b.den := Int.mul_lt_mul_of_pos_right h qb
  have h2 : (a.num * b.den) * o.num ≤ (b.num * a.den) * o.num := Int.mul_le_mul_of_nonneg_right hab.1 (by omega)
  have e1 : (a.num * o.num) * b.den = (a.num * b.den) * o.num := by rw [Int.mul_assoc, Int.mul_comm o.num, ← Int.mul_assoc]
  have e2 : (b.num * a.den) * o.num = (b.num * o.num) * a.den := by rw [Int.mul_assoc, Int.mul_comm a.den, ← Int.mul_assoc]
  have e3 : (o.den * a.den) * b.den = (o.den * b.den) * a.den := by rw [Int.mul_assoc, Int.mul_comm a.den, ← Int.mul_assoc]
  rw [e1] at h1
  rw [e3] at h1
  rw [e2] at h2
  exact Int.lt_of_mul_lt_mul_right (a := a.den) (by omega) (by omega)

/-- Of nothing that stands against what is placed anything may be filled. -/
theorem come_none {L : Led} {B' : Bk} {o : Off} (hok : OkB B') (hm : mayR o.num o.den = true) (hz : (nextR L B' o).2 = 0) : ∀ y ∈ bestR B'.offs o.buy o.sell, overR o y = false → mayT L B' y.seq o.owner o.owner 1099511627776 o.left = 0 := by
  intro y hy hv
  have h := nextGo_none (L := L) (B := B') (o := o) (best_over hok hm o.buy o.sell) hz y hy
  rcases h with h | h
  · rw [hv] at h; cases h
  · have := may_bd L B' y.seq o.owner o.owner 1099511627776 o.left
    omega
end Go.Proofs.YtahdgojcebajkaaGreat

namespace Go.Proofs.YtahdgojcebajkaaGreat
open Go.RowKit Go.Rg Go.BigFrame
theorem bnext_any (p : Nat) (g : Option Nat) (B : Bk) (w : World) (h : IsBook w p g B) : Calls Tryz.prog 32 #[.pointer (some ⟨p, 0, none⟩)] w (Ret (.int .u64 B.next) w) := by
  go_enter Tryz.func32, Tryz.ntmps32
  go_wp2_with fail
  refine (bthere_any p g B w h).mono ?_
  rintro e w1 ⟨rfl, e1⟩
  have c1 := (h.ext e1).cell1
  go_wp2
  go_ret
  exact ⟨rfl, e1⟩
end Go.Proofs.YtahdgojcebajkaaGreat
