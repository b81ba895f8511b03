/- Chains of fills, each of the first offer of which something may be filled: the plain law. Fair: what is given is the ceiling of a rate times what is got. -/
import Derived.Test.YtahdgojcebajkaaGreatSwapP
import Derived.Test.YtahdgojcebajkaaGreatPosP
import Derived.Test.YtahdgojcebajkaaGreatDiv
import Derived.Shelf.Spec.BitsCarry

namespace Go.Proofs.YtahdgojcebajkaaGreat
open Go.RowKit

/-- So much is given as a rate asks, less than one unit more. -/
structure FairP (got given num den : Int) : Prop where
  g1 : 1 ≤ got
  g2 : got ≤ 1099511627776
  h1 : 1 ≤ given
  h2 : given ≤ 1099511627776
  n1 : 1 ≤ num
  n2 : num ≤ 1099511627776
  d1 : 1 ≤ den
  d2 : den ≤ 1099511627776
  lo : got * num ≤ given * den
  hi : given * den < got * num + den

theorem up_fair {g n num den : Int} (hm : mayR num den = true) (hn : 1 ≤ n) (hn2 : n ≤ 1099511627776) (hg : g ≤ 1099511627776) (h : n * num ≤ g * den) : FairP n (rupR n num den).1 num den ∧ (rupR n num den).1 ≤ g := by
  have hb := hm
  unfold mayR at hb
  rw [decide_eq_true_eq] at hb
  have hle := up_le hm (by omega) hg h
  have hd0 : (0 : Int) < den := by omega
  have hq : n * num / den ≤ g := by
    have := Int.ediv_le_ediv hd0 h
    rw [Int.mul_ediv_cancel _ (by omega)] at this
    exact this
  have hdm := Int.emod_add_mul_ediv (n * num) den
  have hr0 := Int.emod_nonneg (n * num) (show den ≠ 0 by omega)
  have hr1 := Int.emod_lt_of_pos (n * num) hd0
  have key : n * num ≤ (rupR n num den).1 * den ∧ (rupR n num den).1 * den < n * num + den := by
    unfold rupR
    rw [if_pos hm]
    unfold upR downR
    rw [byR_good (by omega) (by omega) (by omega) (by omega)]
    simp only [true_and]
    generalize n * num / den = q at *
    generalize n * num % den = r at *
    generalize n * num = x at *
    split
    · unfold addR
      rw [if_neg (by omega)]
      simp only
      rw [Int.add_mul, Int.mul_comm q den]
      omega
    · simp only
      rw [Int.mul_comm q den]
      omega
  refine ⟨⟨hn, hn2, ?_, by omega, by omega, by omega, by omega, by omega, key.1, key.2⟩, hle⟩
  have h1 : 1 * 1 ≤ n * num := Int.mul_le_mul hn (by omega) (by omega) (by omega)
  by_cases hz : 1 ≤ (rupR n num den).1
  · exact hz
  · have h2 : (rupR n num den).1 * den ≤ 0 * den := Int.mul_le_mul_of_nonneg_right (by omega) (by omega)
    rw [Int.zero_mul] at h2
    omega

/-- A fill, and what it leaves. -/
structure FillP (L : Led) (B : Bk) (o : Off) (f : Fl) (L' : Led) (B' : Bk) : Prop where
  doo : doR L B f.1 f.2.1 f.2.2.1 f.2.2.2.1 = (f, 0, L', B')
  fnd : findR B.offs f.1 = some o
  fair : FairP f.2.2.2.1 f.2.2.2.2 o.num o.den
  own : o.owner ≠ f.2.1
  left : f.2.2.2.1 ≤ o.left
  has1 : hasP L o.owner = true
  has2 : hasP L f.2.1 = true
  has3 : hasP L f.2.2.1 = true
  wf : WF L'
  par : L'.par = L.par
  lims : L'.lines.map (fun x => (x.1, x.2.1)) = L.lines.map (fun x => (x.1, x.2.1))
  pos : ∀ p c, posR L' p c = posR L p c + mvP p c o.owner f.2.2.1 o.sell f.2.2.2.1 + mvP p c f.2.1 o.owner o.buy f.2.2.2.2
  bk : B' = (takeR B f.1 f.2.2.2.1).2

theorem hasP_ok {L : Led} {p : Int} (h : hasP L p = true) : partyOk p = true := by
  unfold hasP at h
  rw [Bool.and_eq_true] at h
  exact h.1
theorem hasP_par {L L' : Led} (h : L'.par = L.par) (p : Int) : hasP L' p = hasP L p := by unfold hasP; rw [h]

theorem fill_ok {L : Led} {B : Bk} {seq taker to n : Int} {o : Off} (hw : WF L) (hB : OkB B) (hf : findR B.offs seq = some o) (h1 : 1 ≤ n) (hn : n ≤ mayT L B seq taker to n 1099511627776) :
    FillP L B o (seq, taker, to, n, (rupR n o.num o.den).1) (doR L B seq taker to n).2.2.1 (doR L B seq taker to n).2.2.2 := by
  have hoo := hB o (findR_mem hf).1
  obtain ⟨r1, r2, hm⟩ := offOk_rat hoo
  have hoo2 := hoo
  unfold offOk at hoo2
  rw [decide_eq_true_eq] at hoo2
  have hs := may_some (L := L) (taker := taker) (to := to) (want := n) (most := 1099511627776) hf
  by_cases hok : okT (some o) (hasP L) taker to n 1099511627776 = true
  · rw [if_pos hok, accL_min] at hs
    have hok2 := hok
    unfold okT at hok2
    simp only [Bool.and_eq_true, Bool.not_eq_true', decide_eq_true_eq, beq_eq_false_iff_ne, ne_eq] at hok2
    obtain ⟨⟨⟨⟨⟨q1, q2⟩, q3⟩, q4⟩, _⟩, _⟩ := hok2
    have hfit : n ≤ fitsT L o taker 1099511627776 := by omega
    have hleft : n ≤ o.left := by omega
    have hgo : n ≤ goesR L o to := by omega
    have hg0 : 0 ≤ givenR L o taker 1099511627776 := by
      by_cases h0 : givenR L o taker 1099511627776 < 0
      · have : fitsT L o taker 1099511627776 = 0 := by unfold fitsT; exact fits_neg h0
        omega
      · omega
    obtain ⟨hfair, hgv⟩ := up_fair (g := givenR L o taker 1099511627776) (n := n) hm h1 (by omega) (by unfold givenR; omega) (fits_pays hm hg0 hfit)
    have hgm : givenR L o taker 1099511627776 ≤ mostR (ofR L o.buy) taker o.owner := by unfold givenR; omega
    have hdo : doR L B seq taker to n = ((seq, taker, to, n, (rupR n o.num o.den).1), 0, (payR (if to = o.owner then L else (payR L o.owner to o.sell n).2) taker o.owner o.buy (rupR n o.num o.den).1).2, (takeR B seq n).2) := by
      unfold doR
      rw [if_neg (by omega), hf]
      rfl
    have p1 := hasP_ok q2
    have p2 := hasP_ok q3
    have p3 := hasP_ok q4
    -- the first payment
    have w1 : WayP L (if to = o.owner then L else (payR L o.owner to o.sell n).2) o.owner to o.sell n := by
      by_cases ht : to = o.owner
      · rw [if_pos ht, ht]
        exact WayP.self hw _ _ _
      · rw [if_neg ht]
        refine (pay_ok hw o.owner to o.sell n ?_ q2 q4 ?_).2
        · unfold badR
          simp only [p1, p3, Bool.true_and, Bool.not_eq_false', Bool.and_eq_true, Bool.not_eq_true', beq_eq_false_iff_ne, ne_eq, decide_eq_true_eq]
          exact ⟨⟨⟨⟨fun e => ht e.symm, by omega⟩, by omega⟩, by omega⟩, by omega⟩
        · unfold goesR at hgo
          rw [if_neg ht] at hgo
          exact hgo
    generalize (if to = o.owner then L else (payR L o.owner to o.sell n).2) = L1 at *
    have w2 := pay_ok w1.wf taker o.owner o.buy (rupR n o.num o.den).1 (by
        unfold badR
        have := hfair.h1
        have := hfair.h2
        simp only [p1, p2, Bool.true_and, Bool.not_eq_false', Bool.and_eq_true, Bool.not_eq_true', beq_eq_false_iff_ne, ne_eq, decide_eq_true_eq]
        exact ⟨⟨⟨⟨fun e => q1 e.symm, by omega⟩, by omega⟩, by omega⟩, by omega⟩) (by rw [hasP_par w1.par]; exact q3) (by rw [hasP_par w1.par]; exact q2)
        (by rw [w1.other o.buy (fun e => by omega)]; omega)
    rw [hdo]
    refine ⟨by rw [hdo], hf, hfair, q1, hleft, q2, q3, q4, w2.2.wf, w2.2.par.trans w1.par, w2.2.lims.trans w1.lims, fun p c => ?_, rfl⟩
    show posR (payR L1 taker o.owner o.buy (rupR n o.num o.den).1).2 p c = _
    rw [w2.2.pos, w1.pos]
  · rw [if_neg hok] at hs
    omega

/-- The first one of the best ones of which something may be filled, and as much as may. -/
structure StepOk (get give : Int) (L : Led) (B : Bk) (want most : Int) (o : Off) (f : Fl) (L' : Led) (B' : Bk) : Prop where
  fill : FillP L B o f L' B'
  best : ∃ j, ∃ hj : j < (bestR B.offs get give).length, (bestR B.offs get give)[j]'hj = o ∧ ∀ i (hi : i < j), ((bestR B.offs get give)[i]'(by omega)).seq ≠ f.1 ∧ mayT L B ((bestR B.offs get give)[i]'(by omega)).seq f.2.1 f.2.2.1 want most = 0
  may : mayT L B f.1 f.2.1 f.2.2.1 want most = f.2.2.2.1
  want : f.2.2.2.1 ≤ want
  most : f.2.2.2.2 ≤ most

/-- Fill by fill: what is wanted falls, or what may be given. -/
def ChainOk (get give : Int) (falls : Bool) : List Fl → Led → Bk → Int → Int → Led → Bk → Prop
  | [], L, B, _, _, L', B' => L = L' ∧ B = B'
  | f :: l, L, B, want, most, L', B' => ∃ o L1 B1, StepOk get give L B want most o f L1 B1 ∧ ChainOk get give falls l L1 B1 (if falls then want else want - f.2.2.2.1) (if falls then most - f.2.2.2.2 else most) L' B'

theorem find_of_mem {B : Bk} (h : SeqN B) {o : Off} (ho : o ∈ B.offs) : findR B.offs o.seq = some o := by
  cases hf : findR B.offs o.seq with
  | none =>
    unfold findR at hf
    have := List.find?_eq_none.1 hf o ho
    simp at this
  | some x =>
    have hx := findR_mem hf
    rw [h.b x hx.1 o ho hx.2]

theorem best_nodup {B : Bk} (h : SeqN B) (get give : Int) : ((bestR B.offs get give).map Off.seq).Nodup := by
  have h1 : ((B.offs.filter fun o => o.sell == get && o.buy == give).map Off.seq).Nodup := List.Nodup.sublist (List.Sublist.map _ (List.filter_sublist)) h
  exact ((bestR_perm B.offs get give).map Off.seq).nodup_iff.2 h1

theorem may_le_most {L : Led} {B : Bk} {seq taker to want most : Int} (hB : OkB B) (h1 : 1 ≤ mayT L B seq taker to want most) :
    mayT L B seq taker to want most ≤ mayT L B seq taker to (mayT L B seq taker to want most) 1099511627776 := by
  obtain ⟨given, hd1, hd2, _⟩ := may_done (L := L) (B := B) (seq := seq) (taker := taker) (to := to) (want := want) (most := most) hB h1
  generalize mayT L B seq taker to want most = n at *
  by_cases h : n < 1 ∨ mayT L B seq taker to n 1099511627776 < n
  · unfold doR at hd2
    rw [if_pos h] at hd2
    simp at hd2
  · omega

/-- The step that a search for the first one makes. -/
theorem step_ok {get give want most taker to : Int} {L : Led} {B : Bk} {o : Off} (hw : WF L) (hB : OkB B) (hS : SeqN B) (j : Nat) (hj : j < (bestR B.offs get give).length) (ho : (bestR B.offs get give)[j]'hj = o)
    (h1 : 1 ≤ mayT L B o.seq taker to want most) (hb : ∀ i (hi : i < j), ¬ 0 < mayT L B ((bestR B.offs get give)[i]'(by omega)).seq taker to want most) :
    StepOk get give L B want most o (doR L B o.seq taker to (mayT L B o.seq taker to want most)).1 (doR L B o.seq taker to (mayT L B o.seq taker to want most)).2.2.1 (doR L B o.seq taker to (mayT L B o.seq taker to want most)).2.2.2 ∧
    (doR L B o.seq taker to (mayT L B o.seq taker to want most)).1.2.1 = taker ∧ (doR L B o.seq taker to (mayT L B o.seq taker to want most)).1.2.2.1 = to := by
  have hmem : o ∈ B.offs := by
    have : o ∈ bestR B.offs get give := by rw [← ho]; exact List.getElem_mem hj
    exact (mem_bestR this).1
  have hf := find_of_mem hS hmem
  have hle := may_le_most hB h1
  have hbd := may_bd L B o.seq taker to want most
  obtain ⟨given, hd1, _, hd3⟩ := may_done (L := L) (B := B) (seq := o.seq) (taker := taker) (to := to) (want := want) (most := most) hB h1
  generalize hn : mayT L B o.seq taker to want most = n at *
  have hfill := fill_ok hw hB hf h1 hle
  have hd := hfill.doo
  simp only at hd
  have hd1' : (doR L B o.seq taker to n).1 = (o.seq, taker, to, n, (rupR n o.num o.den).1) := by rw [hd]
  have hg : (rupR n o.num o.den).1 = given := by
    rw [hd1'] at hd1
    simp only [Prod.mk.injEq, true_and] at hd1
    exact hd1
  rw [hd1']
  refine ⟨⟨hfill, ⟨j, hj, ho, fun i hi => ⟨?_, ?_⟩⟩, hn, by simp only; omega, by simp only; omega⟩, rfl, rfl⟩
  · simp only
    have hnd := best_nodup hS get give
    intro e
    rw [← ho] at e
    rw [List.nodup_iff_pairwise_ne, List.pairwise_iff_getElem] at hnd
    have := hnd i j (by simp; omega) (by simpa using hj) hi
    simp only [List.getElem_map] at this
    exact this e
  · have := may_bd L B ((bestR B.offs get give)[i]'(by omega)).seq taker to want most
    have := hb i hi
    simp only
    omega

def gotS (l : List Fl) : Int := sumI (l.map fun f => f.2.2.2.1)
def gvS (l : List Fl) : Int := sumI (l.map fun f => f.2.2.2.2)

/-- A swap's fills are a chain. -/
theorem swapGo_chain (fr to get give : Int) : ∀ (f : Nat) (L : Led) (B : Bk) (n : Int) (all : List Fl), WF L → OkB B → SeqN B → all.length + f = 65 → all.length ≤ 64 → (swapGo fr to get give f L B n all).1 = 0 →
    ∃ l, (swapGo fr to get give f L B n all).2.2.2.2 = all ++ l ∧ ChainOk get give false l L B n 1099511627776 (swapGo fr to get give f L B n all).2.1 (swapGo fr to get give f L B n all).2.2.1 ∧ (∀ x ∈ l, x.2.1 = fr ∧ x.2.2.1 = to) ∧
      (swapGo fr to get give f L B n all).2.2.2.1 ≤ 0 ∧ (swapGo fr to get give f L B n all).2.2.2.1 = n - gotS l ∧ (0 ≤ n → 0 ≤ (swapGo fr to get give f L B n all).2.2.2.1) ∧ all.length + l.length ≤ 64
  | 0, L, B, n, all, _, _, _, h1, h2, _ => by omega
  | f + 1, L, B, n, all, hw, hB, hS, h1, h2, h0 => by
    unfold swapGo at h0 ⊢
    by_cases hn : n ≤ 0
    · rw [if_pos hn]
      exact ⟨[], by simp, ⟨rfl, rfl⟩, by simp, hn, by simp [gotS, sumI], fun h => h, by simpa using h2⟩
    · rw [if_neg hn] at h0 ⊢
      cases hfl : fillableR L B fr to get give n with
      | none => rw [hfl] at h0; simp at h0
      | some o =>
        rw [hfl] at h0
        simp only at h0 ⊢
        by_cases hl : all.length = 64
        · rw [if_pos hl] at h0; simp at h0
        · rw [if_neg hl] at h0 ⊢
          unfold fillableR at hfl
          rw [List.find?_eq_some_iff_getElem] at hfl
          obtain ⟨hp, j, hj, hjo, hb⟩ := hfl
          have hp' : 1 ≤ mayT L B o.seq fr to n 1099511627776 := by have h := hp; rw [decide_eq_true_eq] at h; omega
          obtain ⟨hst, ht1, ht2⟩ := step_ok (get := get) (give := give) (want := n) (most := 1099511627776) (taker := fr) (to := to) hw hB hS j hj hjo hp' (fun i hi => by
            have := hb i hi
            simpa using this)
          have hwf2 := wf_do (B := B) hw o.seq fr to (mayT L B o.seq fr to n 1099511627776)
          have hok2 := ok_do (L := L) hB o.seq fr to (mayT L B o.seq fr to n 1099511627776)
          have hsn2 := seqN_do (L := L) hS o.seq fr to (mayT L B o.seq fr to n 1099511627776)
          have hwt := hst.want
          generalize doR L B o.seq fr to (mayT L B o.seq fr to n 1099511627776) = d at *
          obtain ⟨l, k1, k2, k3, k4, k5, k6, k7⟩ := swapGo_chain fr to get give f d.2.2.1 d.2.2.2 (n - d.1.2.2.2.1) (all ++ [d.1]) hwf2 hok2 hsn2 (by simp; omega) (by simp; omega) h0
          refine ⟨d.1 :: l, by rw [k1]; simp, ⟨o, d.2.2.1, d.2.2.2, hst, k2⟩, fun x hx => ?_, k4, ?_, fun _ => k6 (by omega), by simp at k7 ⊢; omega⟩
          · rcases List.mem_cons.1 hx with rfl | hx
            · exact ⟨ht1, ht2⟩
            · exact k3 x hx
          · rw [k5]
            unfold gotS
            simp only [List.map_cons, sumI]
            omega

/-- A swap that goes. -/
theorem swap_chain {L : Led} {B : Bk} {fr to get give n most : Int} (hw : WF L) (hB : OkB B) (hS : SeqN B) (h0 : (swapR L B fr to get give n most).1 = 0) :
    ChainOk get give false (swapR L B fr to get give n most).2.2.2 L B n 1099511627776 (swapR L B fr to get give n most).2.1 (swapR L B fr to get give n most).2.2.1 ∧ (∀ x ∈ (swapR L B fr to get give n most).2.2.2, x.2.1 = fr ∧ x.2.2.1 = to) ∧
    gotS (swapR L B fr to get give n most).2.2.2 = n ∧ givenS (swapR L B fr to get give n most).2.2.2 ≤ most ∧ (swapR L B fr to get give n most).2.2.2.length ≤ 64 ∧ 1 ≤ n ∧ (par16 fr && par16 to && cur8 get && cur8 give && !(get == give) && amt40 n && amt40 most) = true ∧ hasP L fr = true ∧ hasP L to = true := by
  unfold swapR at h0 ⊢
  by_cases c1 : (par16 fr && par16 to && cur8 get && cur8 give && !(get == give) && amt40 n && amt40 most) = false
  · rw [if_pos c1] at h0; simp at h0
  · rw [if_neg c1] at h0 ⊢
    by_cases c2 : (hasP L fr && hasP L to) = false
    · rw [if_pos c2] at h0; simp at h0
    · rw [if_neg c2] at h0 ⊢
      by_cases c3 : (swapGo fr to get give 65 L B n []).1 ≠ 0
      · rw [if_pos c3] at h0; exact absurd h0 c3
      · rw [if_neg c3] at h0 ⊢
        by_cases c4 : most < givenS (swapGo fr to get give 65 L B n []).2.2.2.2
        · rw [if_pos c4] at h0; simp at h0
        · rw [if_neg c4]
          obtain ⟨l, k1, k2, k3, k4, k5, k6, k7⟩ := swapGo_chain fr to get give 65 L B n [] hw hB hS (by simp) (by simp) (by by_cases e : (swapGo fr to get give 65 L B n []).1 = 0; exact e; exact absurd e c3)
          have c1' : (par16 fr && par16 to && cur8 get && cur8 give && !(get == give) && amt40 n && amt40 most) = true := by rwa [Bool.not_eq_false] at c1
          have c2' : (hasP L fr && hasP L to) = true := by rwa [Bool.not_eq_false] at c2
          have hn1 : 1 ≤ n := by
            simp only [Bool.and_eq_true, amt40, decide_eq_true_eq] at c1'
            omega
          rw [List.nil_append] at k1
          rw [k1] at c4 ⊢
          have := k6 (by omega)
          rw [Bool.and_eq_true] at c2'
          exact ⟨k2, k3, by omega, by omega, by simp at k7; exact k7, hn1, c1', c2'.1, c2'.2⟩

/-! ### Sums -/
theorem wrap_u64_small {n : Int} (h0 : 0 ≤ n) (h1 : n < 18446744073709551616) : IntKind.u64.wrap n = n := by rw [IntKind.wrap_u64]; omega
theorem plusR_small {s n : Int} (h0 : 0 ≤ s) (h1 : 0 ≤ n) (h2 : s + n ≤ 9223372036854775807) : plusR (0, s) n = (0, s + n) := by
  unfold plusR
  simp only
  rw [wrap_u64_small (n := n) h1 (by omega), show n / 9223372036854775808 = 0 by omega, wrap_u64_small (n := 0) (by omega) (by omega), show (s + n) / 18446744073709551616 = 0 by omega, show (s + n) % 18446744073709551616 = s + n by omega]
  rfl
theorem foldW_small : ∀ (l : List Int) (s : Int), 0 ≤ s → (∀ x ∈ l, 0 ≤ x) → s + sumI l ≤ 9223372036854775807 → l.foldl plusR (0, s) = (0, s + sumI l) ∧ 0 ≤ sumI l
  | [], s, _, _, _ => by simp [sumI]
  | x :: l, s, h0, h1, h2 => by
    have hx := h1 x (by simp)
    have hpos : ∀ l : List Int, (∀ x ∈ l, 0 ≤ x) → 0 ≤ sumI l := by
      intro l
      induction l with
      | nil => intro _; simp [sumI]
      | cons y l ih => intro h; have := ih (fun z hz => h z (by simp [hz])); have := h y (by simp); simp only [sumI]; omega
    have h3 := hpos l (fun z hz => h1 z (by simp [hz]))
    simp only [sumI] at h2 ⊢
    have ih := foldW_small l (s + x) (by omega) (fun z hz => h1 z (by simp [hz])) (by omega)
    rw [List.foldl_cons, plusR_small h0 hx (by omega), ih.1]
    exact ⟨by rw [Int.add_assoc], by omega⟩
theorem givenS_eq {l : List Fl} (h : ∀ f ∈ l, 0 ≤ f.2.2.2.2) (h2 : gvS l ≤ 9223372036854775807) : givenS l = gvS l := by
  unfold givenS sumR foldW
  obtain ⟨e, h3⟩ := foldW_small (l.map fun f => f.2.2.2.2) 0 (by omega) (fun x hx => by obtain ⟨f, hf, rfl⟩ := List.mem_map.1 hx; exact h f hf) (by unfold gvS at h2; omega)
  rw [e]
  unfold gvS at *
  unfold sumW wrap64
  simp only [Int.zero_add]
  generalize sumI (l.map fun f => f.2.2.2.2) = s at *
  rw [show (s + 9223372036854775808) % 18446744073709551616 - 9223372036854775808 = s by omega, show s / 9223372036854775808 = 0 by omega, wrap_u64_small (n := 0) (by omega) (by omega)]
  rfl
end Go.Proofs.YtahdgojcebajkaaGreat

namespace Go.Proofs.YtahdgojcebajkaaGreat
open Go.RowKit Go.Rg Go.BigFrame

theorem sub64_run (x y c : Int) (hx : 0 ≤ x) (hy : 0 ≤ y) (hc0 : 0 ≤ c) (hc : c ≤ 1) (hx2 : x < W64) (hy2 : y < W64) (w : World) :
    (callFunc 113 #[.int .u64 x, .int .u64 y, .int .u64 c]).run Tryz.prog w = .ok (.value (.tuple #[.int .u64 (if x < y + c then x - y - c + W64 else x - y - c), .int .u64 (if x < y + c then 1 else 0)])) w := by
  rw [W64_eq] at *
  obtain ⟨m, rfl⟩ := Int.eq_ofNat_of_zero_le hx
  obtain ⟨n, rfl⟩ := Int.eq_ofNat_of_zero_le hy
  obtain ⟨k, rfl⟩ := Int.eq_ofNat_of_zero_le hc0
  rw [run_callFunc_extern Tryz.func113 (by kernel_rfl) (by kernel_rfl) (by kernel_rfl) (e := sub64Entry) (by kernel_rfl), run_sub64 m n k (by omega) w]
  simp only [Result.andThen]
  by_cases h : m < n + k
  · have h' : (m : Int) < (n : Int) + (k : Int) := by omega
    have e1 : (((m + 18446744073709551616 - n - k) % 18446744073709551616 : Nat) : Int) = (m : Int) - (n : Int) - (k : Int) + 18446744073709551616 := by omega
    rw [if_pos h', if_pos h', if_pos h, e1]
    rfl
  · have h' : ¬ (m : Int) < (n : Int) + (k : Int) := by omega
    have e1 : (((m + 18446744073709551616 - n - k) % 18446744073709551616 : Nat) : Int) = (m : Int) - (n : Int) - (k : Int) := by omega
    rw [if_neg h', if_neg h', if_neg h, e1]
    rfl

/-- A number in two words. -/
theorem split64' (x : Int) : ∃ X hi lo : Int, X = x ∧ X = hi * W64 + lo ∧ 0 ≤ lo ∧ lo < W64 := by
  refine ⟨x, x / W64, x % W64, rfl, ?_, Int.emod_nonneg _ (by rw [W64_eq]; decide), Int.emod_lt_of_pos _ (by rw [W64_eq]; decide)⟩
  have := Int.emod_add_mul_ediv x W64
  rw [Int.mul_comm] at this
  omega
theorem fair64 {X Y A B C D den : Int} (h1 : Y ≤ X) (h2 : X < Y + den) (hd : den ≤ 1099511627776) (hX : X = A * W64 + B) (hY : Y = C * W64 + D) (b0 : 0 ≤ B) (b1 : B < W64) (d0 : 0 ≤ D) (d1 : D < W64) :
    (B < D ∧ A = C + 1 ∧ B - D + W64 < den ∧ 0 ≤ B - D + W64) ∨ (¬ B < D ∧ A = C ∧ B - D < den) := by
  rw [W64_eq] at *
  by_cases h : B < D
  · left; omega
  · right; omega

set_option maxRecDepth 100000 in
set_option maxHeartbeats 1600000 in
theorem fair_any (got given num den : Int) (w : World) (h : FairP got given num den) : Calls Tryz.prog 73 #[.int .i64 got, .int .i64 given, .agg #[.int .i64 num, .int .i64 den]] w (Ret (.bool true) w) := by
  obtain ⟨g1, g2, h1, h2, n1, n2, d1, d2, lo, hi⟩ := h
  obtain ⟨X, A, B, hXe, hXs, hX1, hX2⟩ := split64' (given * den)
  obtain ⟨Y, C, D, hYe, hYs, hY1, hY2⟩ := split64' (got * num)
  have hfs := fair64 (X := X) (Y := Y) (by omega) (by omega) d2 hXs hYs hX1 hX2 hY1 hY2
  have hA : 0 ≤ A ∧ A < W64 := by
    have : 0 ≤ given * den := Int.mul_nonneg (by omega) (by omega)
    have : given * den ≤ 1099511627776 * 1099511627776 := Int.mul_le_mul h2 d2 (by omega) (by omega)
    rw [W64_eq] at *
    omega
  have hC : 0 ≤ C ∧ C < W64 := by
    have : 0 ≤ got * num := Int.mul_nonneg (by omega) (by omega)
    have : got * num ≤ 1099511627776 * 1099511627776 := Int.mul_le_mul g2 n2 (by omega) (by omega)
    rw [W64_eq] at *
    omega
  have m1 := fun w => mul64_any given den A B w (by omega) (by rw [W64_eq]; omega) (by omega) (by rw [W64_eq]; omega) (hXe.symm.trans hXs) hX1 hX2
  have m2 := fun w => mul64_any got num C D w (by omega) (by rw [W64_eq]; omega) (by omega) (by rw [W64_eq]; omega) (hYe.symm.trans hYs) hY1 hY2
  have M2 := Lib.hid m2
  have e0 := ext_alloc w (.cells #[.int .i64 num, .int .i64 den] 30)
  have h0 := heap_alloc_top w (.cells #[.int .i64 num, .int .i64 den] 30)
  have c0 := cell_at (j := 0) h0 rfl
  have c1 := cell_at (j := 1) h0 rfl
  clear hXe hYe hXs hYs lo hi m2 X Y
  rcases hfs with ⟨f1, f2, f3, f4⟩ | ⟨f1, f2, f3⟩
  · have r1 := fun w => sub64_run B D 0 hX1 hY1 (by omega) (by omega) hX2 hY2 w
    rw [if_pos (show B < D + 0 by omega), if_pos (show B < D + 0 by omega)] at r1
    have r2 := fun w => sub64_run A C 1 hA.1 hC.1 (by omega) (by omega) hA.2 hC.2 w
    rw [if_neg (show ¬ A < C + 1 by omega), if_neg (show ¬ A < C + 1 by omega), show A - C - 1 = 0 by omega] at r2
    rw [show B - D - 0 + W64 = B - D + W64 by omega] at r1
    have hlt : decide (B - D + W64 < den) = true := by simpa using f3
    generalize B - D + W64 = LW at *
    have R1 := Lib.hid r1
    have R2 := Lib.hid r2
    clear f1 f2 r1 r2 hA hC hX1 hX2 hY1 hY2
    go_enter Tryz.func73, Tryz.ntmps73
    go_wp2_with fail
    refine (m1 _).mono ?_
    rintro e w2 ⟨rfl, e2⟩
    have h2' := e2.at h0
    have c0 := cell_at (j := 0) h2' rfl
    have c1 := cell_at (j := 1) h2' rfl
    go_wp2_with fail
    refine (M2.out _).mono ?_
    rintro e w3 ⟨rfl, e3⟩
    have h3' := e3.at h2'
    have c0 := cell_at (j := 0) h3' rfl
    have c1 := cell_at (j := 1) h3' rfl
    have r1 := R1.out
    have r2 := R2.out
    go_wp2
    go_ret
    exact ⟨by simp, Ext.trans e0 (Ext.trans e2 e3)⟩
  · have r1 := fun w => sub64_run B D 0 hX1 hY1 (by omega) (by omega) hX2 hY2 w
    rw [if_neg (show ¬ B < D + 0 by omega), if_neg (show ¬ B < D + 0 by omega)] at r1
    have r2 := fun w => sub64_run A C 0 hA.1 hC.1 (by omega) (by omega) hA.2 hC.2 w
    rw [if_neg (show ¬ A < C + 0 by omega), if_neg (show ¬ A < C + 0 by omega), show A - C - 0 = 0 by omega] at r2
    rw [show B - D - 0 = B - D by omega] at r1
    have hlt : decide (B - D < den) = true := by simpa using f3
    have hlo : 0 ≤ B - D := by omega
    generalize B - D = LW at *
    have R1 := Lib.hid r1
    have R2 := Lib.hid r2
    clear f1 f2 r1 r2 hA hC hX1 hX2 hY1 hY2
    go_enter Tryz.func73, Tryz.ntmps73
    go_wp2_with fail
    refine (m1 _).mono ?_
    rintro e w2 ⟨rfl, e2⟩
    have h2' := e2.at h0
    have c0 := cell_at (j := 0) h2' rfl
    have c1 := cell_at (j := 1) h2' rfl
    go_wp2_with fail
    refine (M2.out _).mono ?_
    rintro e w3 ⟨rfl, e3⟩
    have h3' := e3.at h2'
    have c0 := cell_at (j := 0) h3' rfl
    have c1 := cell_at (j := 1) h3' rfl
    have r1 := R1.out
    have r2 := R2.out
    go_wp2
    go_ret
    exact ⟨by simp, Ext.trans e0 (Ext.trans e2 e3)⟩
end Go.Proofs.YtahdgojcebajkaaGreat
