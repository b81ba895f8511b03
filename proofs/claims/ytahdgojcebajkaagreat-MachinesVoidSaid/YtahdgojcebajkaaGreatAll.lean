/- A region that draws its order and has no tail: all its operations are quiet, or named. Program independent. -/
import Derived.Test.YtahdgojcebajkaaGreatAgain
namespace Go.Rg
open Go.RowKit
section
variable {P : Program} {ops : Array Oper} {md : Region.Mode}
theorem wpX_first_all {w0 : World} {n i : Nat} {oi : Oper} {v : Value} {L : Array Bool → Act → World → Prop} (hi : ops[i]? = some oi) (hsel : ∀ (j : Nat) (o : Oper) cs b, ops[j]? = some o → o.op ≠ .select cs b)
    (hn : n = ops.size) (hin : i < n)
    (hdone : ∀ listed a w, L listed a w → ∀ j ∈ Region.ready md ops listed, n ≤ j) :
    ∀ (f : Nat) (listed : Array Bool) (a : Act) (w : World), Ext w0 w → HeadInv md ops n listed →
      (∀ j oj, ops[j]? = some oj → j ≠ i → listed.getD j true = false → (∀ e ∈ oj.after, Region.binds md e = true → e.on ≠ i) → oi.apart ops oj = true) →
      i ∈ Region.ready md ops listed → YieldsX P ops w0 oi v a →
      wpX P md ops w0 n L f (listed.setIfInBounds i true) (a.put oi.dst v) w → wpX P md ops w0 n L (f + 1) listed a w := by
  intro f
  induction f with
  | zero =>
    intro listed a w h0 inv _ hr hy H
    have hun := (mem_ready.1 hr).1
    refine ⟨fun h => (by rw [h] at hr; cases hr), fun j hj => ?_⟩
    have hjn : j < n := by
      rcases Nat.lt_or_ge j n with h | h
      · exact h
      · obtain ⟨_, oj, hoj, _⟩ := mem_ready.1 hj
        have := (Array.getElem?_eq_some_iff.1 hoj).1
        omega
    refine ⟨hjn, fun w' h0' hw' => ?_⟩
    by_cases hji : j = i
    · subst hji; exact hy.xOp hi h0' fun w'' hw'' => wpX_ext (Ext.trans hw' hw'') H
    · have := hdone _ _ _ (H w h0 (Ext.refl _)) j (ready_mono hj hji)
      omega
  | succ f ih =>
    intro listed a w h0 inv hfree hr hy H
    have hun := (mem_ready.1 hr).1
    refine ⟨fun h => (by rw [h] at hr; cases hr), fun j hj => ?_⟩
    have hjn : j < n := by
      rcases Nat.lt_or_ge j n with h | h
      · exact h
      · obtain ⟨_, oj, hoj, _⟩ := mem_ready.1 hj
        have := (Array.getElem?_eq_some_iff.1 hoj).1
        omega
    refine ⟨hjn, fun w' h0' hw' => ?_⟩
    by_cases hji : j = i
    · subst hji; exact hy.xOp hi h0' fun w'' hw'' => wpX_ext (Ext.trans hw' hw'') H
    · have h1 := (H.2 j (ready_mono hj hji)).2 w' h0' hw'
      obtain ⟨hjun, oj, hoj, hall⟩ := mem_ready.1 hj
      have hnot : ∀ e ∈ oj.after, Region.binds md e = true → e.on ≠ i := fun e he hb heq => by
        have h1 := hall e he hb
        rw [heq, getD_both hun] at h1
        cases h1
      have h2 := xOp_put hoj (hfree j oj hoj hji hjun hnot) (fun cs b => hsel i oi cs b hi) (fun cs b => hsel j oj cs b hoj) hy h1
      have hfree' : ∀ k ok, ops[k]? = some ok → k ≠ i → (listed.setIfInBounds j true).getD k true = false →
          (∀ e ∈ ok.after, Region.binds md e = true → e.on ≠ i) → oi.apart ops ok = true := fun k ok hk hki hun hno => by
        refine hfree k ok hk hki ?_ hno
        by_cases hjk : j = k
        · subst hjk; exact hjun
        · rw [getD_set_ne true hjk] at hun; exact hun
      refine xOp_mono h0' (fun a' w2 hx h3 => ih (listed.setIfInBounds j true) a' w2 hx (inv.set hj hjn) hfree' (ready_mono hr (Ne.symm hji)) h3.1 ?_) h2
      rw [Array.setIfInBounds_comm _ _ hji]
      exact h3.2

theorem wpX_heads_all (W : Waiter P) {w0 : World} {n e : Nat} {L : Array Bool → Act → World → Prop} {es : List Nat} (hsel : Region.noSelect ops = true) (hn : n = ops.size)
    (hdone : ∀ listed a w, L listed a w → ∀ j ∈ Region.ready md ops listed, n ≤ j) :
    ∀ (l : List Oper) (k : Nat) (listed : Array Bool) (a : Act) (w : World), (∀ j, j < l.length → l[j]? = ops[k + j]?) → k + l.length = n → HeadInv md ops n listed → Ext w0 w →
    headsOk md ops es l.length k listed = true →
    (∀ w1, Ext w0 w1 → wpQuiet P ops (Cls w1) (fun a' => wpX P md ops w0 n L e (listedBy es l.length k listed) a' w1) (heads es k l) a) →
    wpX P md ops w0 n L (headsNum es l.length k + e) listed a w
  | [], k, listed, a, w, _, _, _, h0, _, h => by
    have := h w h0
    simp only [heads, listedBy, headsNum, Nat.zero_add, List.length_nil] at this ⊢
    exact this
  | o :: l, k, listed, a, w, hl, hk, inv, h0, hB, h => by
    have ho : ops[k]? = some o := by simpa using (hl 0 (by simp)).symm
    have hl' : ∀ j, j < l.length → l[j]? = ops[k + 1 + j]? := fun j hj => by have := hl (j + 1) (by simp; omega); simpa [Nat.add_assoc, Nat.add_comm 1 j] using this
    have hk' : k + 1 + l.length = n := by simp only [List.length_cons] at hk; omega
    by_cases he : es.contains k = true
    · simp only [List.length_cons, headsOk, heads, listedBy, headsNum, he, if_true] at hB h ⊢
      exact wpX_heads_all W hsel hn hdone l (k + 1) listed a w hl' hk' inv h0 hB h
    · simp only [List.length_cons, headsOk, heads, listedBy, headsNum, he, if_false, Bool.and_eq_true, Bool.false_eq_true] at hB h ⊢
      obtain ⟨⟨hr, hf⟩, hB'⟩ := hB
      have hkn : k < n := by omega
      have hr' : k ∈ Region.ready md ops listed := by simpa using hr
      obtain ⟨v, hy, hK⟩ := yieldsX_next W h
      have := wpX_heads_all W hsel hn hdone l (k + 1) _ (a.put o.dst v) w hl' hk' (inv.set hr' hkn) h0 hB' hK
      rw [show headsNum es l.length (k + 1) + 1 + e = (headsNum es l.length (k + 1) + e) + 1 by omega]
      exact wpX_first_all ho (Region.noSelect_spec hsel) hn hkn hdone _ listed a w h0 inv (Region.free_spec ho hf) hr' hy this

def hatAllB (ops : Array Oper) (es : List Nat) : Bool :=
  Region.noSelect ops && headsOk .any ops es ops.size 0 (Array.replicate ops.size false) && decide (headsNum es ops.size 0 + es.length = ops.size)

theorem wpAny_all (W : Waiter P) {Q : Exit → Act → World → Prop} {a : Act} {w : World} {l : List Oper} (es : List Nat) (hB : hatAllB l.toArray es = true)
    (h : ∀ w1, Ext w w1 → wpQuiet P l.toArray (Cls w1) (fun a' => wpX P .any l.toArray w l.length (TailAt P l.toArray Q l.length) es.length (listedBy es l.length 0 (Array.replicate l.toArray.size false)) a' w1) (heads es 0 l) a) :
    wpAny P .any l.toArray Q l.toArray.size (Array.replicate l.toArray.size false) a { w with drawn := w.drawn + 1 } := by
  simp only [hatAllB, Bool.and_eq_true, decide_eq_true_eq] at hB
  obtain ⟨⟨hsel, hlex⟩, hnum⟩ := hB
  have hsz : l.toArray.size = l.length := by simp
  have inv0 : HeadInv .any l.toArray l.length (Array.replicate l.toArray.size false) :=
    ⟨by simp, fun j oj _ hl => (by rw [getD_replicate_false] at hl; cases hl), fun t ht hts => by rw [hsz] at hts; omega⟩
  rw [hsz] at hlex hnum
  have H := wpX_heads_all (md := .any) W (w0 := w) (L := TailAt P l.toArray Q l.length) (e := es.length) (es := es) hsel hsz.symm (fun listed a w hL j hj => by
      have := seqB_ready hL.1 j hj
      omega) l 0 (Array.replicate l.toArray.size false) a
    { w with drawn := w.drawn + 1 } (fun j hj => by simp) (by simp) inv0 ((Ext.refl w).drew) (by rw [← hsz] at hlex ⊢; exact hlex) h
  rw [hnum] at H
  have H2 := wpAny_of_wpX (Q := Q) (g := 0) (fun listed a' w' hL => by
    have hr := hL.1
    have hw := hL.2
    rw [hsz, Nat.sub_self] at hr
    simp only [Region.seqB, List.isEmpty_iff] at hr
    simp only [List.drop_length, wpList] at hw
    exact ⟨hr, hw⟩) _ _ _ _ ((Ext.refl w).drew) H
  rw [Nat.add_zero] at H2
  rw [hsz]
  rw [hsz] at H2
  exact H2

theorem wp_region_all (W : Waiter P) {id : Nat} {Q : Exit → Act → World → Prop} {a : Act} {w : World} {l : List Oper} (es : List Nat) (hm : P.follows .mixedOrders = true) (hB : hatAllB l.toArray es = true)
    (h : ∀ w1, Ext w w1 → wpQuiet P l.toArray (Cls w1) (fun a' => wpX P .any l.toArray w l.length (TailAt P l.toArray Q l.length) es.length (listedBy es l.length 0 (Array.replicate l.toArray.size false)) a' w1) (heads es 0 l) a) :
    (Code.region id l.toArray true).wp P Q a w :=
  wp_region_any hm (wpAny_all W es hB h)

/-- All has come up. -/
theorem wpX_done {Q : Exit → Act → World → Prop} {listed : Array Bool} {l : List Oper} {a : Act} {w0 w : World} (hB : Region.seqB .any l.toArray 0 l.length listed = true)
    (h : ∀ w', Ext w0 w' → Ext w w' → Q .normal a w') : wpX P .any l.toArray w0 l.length (TailAt P l.toArray Q l.length) 0 listed a w :=
  fun w' h0 hw' => ⟨by simpa using hB, by rw [List.drop_length]; exact h w' h0 hw'⟩
end
end Go.Rg
