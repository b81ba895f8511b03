/- As Rg, where an operation ahead of the tail may turn blocks that the quiet ones do not read (S): append in place. -/
import Derived.Test.YtahdgojcebajkaaGreatRg
namespace Go.Rg
open Go.RowKit
/-- Of what was there nothing has turned but the blocks of S. -/
structure Keep (S : List Nat) (w w' : World) : Prop where
  os : w'.os = w.os
  tape : w'.tape = w.tape
  output : w'.output = w.output
  size : w.heap.size ≤ w'.heap.size
  block : ∀ k, k < w.heap.size → k ∉ S → w'.heap[k]? = w.heap[k]?

theorem Keep.refl (S : List Nat) (w : World) : Keep S w w := ⟨rfl, rfl, rfl, Nat.le_refl _, fun _ _ _ => rfl⟩
theorem Keep.trans {S : List Nat} {a b c : World} (h : Keep S a b) (k : Keep S b c) : Keep S a c :=
  ⟨k.os.trans h.os, k.tape.trans h.tape, k.output.trans h.output, Nat.le_trans h.size k.size, fun i hi hn => (k.block i (Nat.lt_of_lt_of_le hi h.size) hn).trans (h.block i hi hn)⟩
theorem Keep.mono {S T : List Nat} {a b : World} (h : Keep S a b) (hs : ∀ x ∈ S, x ∈ T) : Keep T a b :=
  ⟨h.os, h.tape, h.output, h.size, fun i hi hn => h.block i hi (fun hx => hn (hs i hx))⟩
theorem Keep.of_ext {S : List Nat} {a b : World} (h : Ext a b) : Keep S a b := ⟨h.os, h.tape, h.output, h.size, fun _ hi _ => h.block hi⟩
theorem Keep.ext {a b : World} (h : Keep [] a b) : Ext a b := ⟨h.os, h.tape, h.output, h.size, fun i hi => h.block i hi (by simp)⟩
theorem Keep.at {S : List Nat} {a b : World} (h : Keep S a b) {k : Nat} {ob : Obj} (hk : a.heap[k]? = some ob) (hn : k ∉ S) : b.heap[k]? = some ob := (h.block k (lt_of_heap hk) hn).trans hk
theorem Keep.trans_fresh {S T : List Nat} {a b c : World} (h : Keep S a b) (k : Keep T b c) (hs : ∀ x ∈ T, x ∈ S ∨ a.heap.size ≤ x) : Keep S a c :=
  ⟨k.os.trans h.os, k.tape.trans h.tape, k.output.trans h.output, Nat.le_trans h.size k.size, fun i hi hn => (k.block i (Nat.lt_of_lt_of_le hi h.size) (fun hx => by
    rcases hs i hx with h1 | h1
    · exact hn h1
    · omega)).trans (h.block i hi hn)⟩

theorem Keep.setCell {S : List Nat} {a w : World} (h : Keep S a w) {p : Addr} (hp : p.block ∈ S ∨ a.heap.size ≤ p.block) (v : Value) : Keep S a (w.setCell p v) :=
  h.trans_fresh (T := [p.block]) ⟨rfl, rfl, rfl, by simp [World.setCell], fun k _ hn => Below.heap_setCell _ _ _ _ (by simpa using hn)⟩ (fun x hx => by
    have : x = p.block := by simpa using hx
    subst this
    exact hp)


/-- A world behind w, but for S. -/
structure KeepOf (S : List Nat) (w : World) where
  to : World
  h : Keep S w to
instance (S : List Nat) (w : World) : Inhabited (KeepOf S w) := ⟨⟨w, Keep.refl S w⟩⟩
abbrev ClsK (S : List Nat) (w1 : World) : World → Prop := fun w' => ∃ p : KeepOf S w1, w' = p.to

/-- Operations that enter no function. -/
def plainOp : Op → Bool
  | .move _ | .assign _ | .load .. | .fieldAddr .. | .indexAddr .. | .build .. | .binOp .. | .convert .. | .field .. | .extract .. | .nilCheck _ => true
  | _ => false

theorem run_value_not_enter {P : Program} (s : Sem Value) (w : World) (g : FuncId) (args : Array Value) (w' : World) : (do pure (Next.value (← s)) : Sem Next).run P w ≠ .ok (.enter g args) w' := by
  rw [Sem.run_bind]
  cases s.run P w with
  | ok u w2 => simp [Result.andThen]
  | halt x w2 => simp [Result.andThen]

theorem not_enter {P : Program} {ρ : Operand → Value} {o : Oper} (h : plainOp o.op = true) (w : World) (g : FuncId) (args : Array Value) (w' : World) : (execOp ρ o).run P w ≠ .ok (.enter g args) w' := by
  unfold execOp
  cases ho : o.op <;> rw [ho] at h <;> simp only [plainOp, Bool.false_eq_true] at h <;> simp only
  case move x => simp
  case assign x => simp
  case nilCheck x =>
    split
    · simp [runtimePanic]
    · simp [runtimePanic]
    · simp [runtimePanic]
    · split
      · simp [runtimePanic]
      · rename_i t w2 _
        intro hh
        rw [Sem.run_bind] at hh
        generalize (program : Sem Program).run P w = r0 at hh
        cases r0 with
        | halt x w3 => simp [Result.andThen] at hh
        | ok u w3 =>
          simp only [Result.andThen] at hh
          rw [Sem.run_bind] at hh
          generalize (Sem.run P _ w3 : Result (Option Bool)) = r1 at hh
          cases r1 with
          | halt x w4 => simp [Result.andThen] at hh
          | ok u2 w4 =>
            simp only [Result.andThen] at hh
            split at hh
            · simp [Result.andThen, unsupported] at hh
            · simp at hh
      · simp
    · simp
  all_goals exact run_value_not_enter _ w g args w'
end Go.Rg
namespace Go.RgK
open Go.RowKit Go.Rg
section
variable {S : List Nat} {P : Program} {ops : Array Oper} {md : Region.Mode}
def xOp (S : List Nat) (P : Program) (ops : Array Oper) (w0 : World) (i : Nat) (K : Act → World → Prop) (a : Act) (w : World) : Prop :=
  match ops[i]? with
  | none => K a w
  | some o => if Region.wanted o (yielded ops a.tmps) then xRun P o a w (fun v w'' => Keep S w0 w'' ∧ K (a.put o.dst v) w'') else K (a.put o.dst undef) w

theorem xUpon_mono {R R' : Value → World → Prop} (h : ∀ v w, R v w → R' v w) {r : Result Next} (hr : xUpon P R r) : xUpon P R' r := by
  cases r with
  | ok n w' =>
    cases n <;> simp only [xUpon] at hr ⊢
    case value u => exact h _ _ hr
    case skip => exact h _ _ hr
    case enter f args => exact hr.mono fun e w'' ⟨v, he, hv⟩ => ⟨v, he, h _ _ hv⟩
  | halt x w' => simp only [xUpon] at hr

theorem xOp_mono {w0 : World} {i : Nat} {K K' : Act → World → Prop} {a : Act} {w : World} (h0 : Keep S w0 w) (h : ∀ a' w', Keep S w0 w' → K a' w' → K' a' w') (hh : xOp S P ops w0 i K a w) : xOp S P ops w0 i K' a w := by
  unfold xOp at *
  split
  · exact h _ _ h0 (by simpa [*] using hh)
  · rename_i o ho
    simp only [ho] at hh
    split
    · rename_i hw
      simp only [hw, if_true] at hh
      exact xUpon_mono (fun v w'' ⟨h1, h2⟩ => ⟨h1, h _ _ h1 h2⟩) hh
    · rename_i hw
      simp only [hw] at hh
      exact h _ _ h0 hh

theorem wpOp_of_xOp {w0 : World} {i : Nat} {K : Act → World → Prop} {Q : Exit → Act → World → Prop} {a : Act} {w : World} (hh : xOp S P ops w0 i K a w) : wpOp P ops Q i K a w := by
  unfold xOp at hh
  unfold wpOp
  split
  · rename_i ho; simpa [ho] using hh
  · rename_i o ho
    simp only [ho] at hh
    split
    · rename_i hw
      simp only [hw, if_true] at hh
      refine .inl ?_
      unfold Oper.wp
      unfold xRun at hh
      generalize (execOp a.eval o).run P w = r at *
      cases r with
      | ok n w' =>
        cases n <;> simp only [xUpon] at hh <;> simp only [Oper.upon]
        case value u => exact hh.2
        case skip => exact hh.2
        case enter f args => exact hh.mono fun e w'' ⟨v, he, hv⟩ => by subst he; exact hv.2
      | halt x w' => simp only [xUpon] at hh
    · rename_i hw
      simp only [hw] at hh
      exact hh

/-- Whatever order is picked, of the operations ahead of the tail; between two of them the world may have been extended. -/
def wpX (S : List Nat) (P : Program) (md : Region.Mode) (ops : Array Oper) (w0 : World) (n : Nat) (L : Array Bool → Act → World → Prop) : Nat → Array Bool → Act → World → Prop
  | 0, listed, a, w => ∀ w', Keep S w0 w' → Ext w w' → L listed a w'
  | f + 1, listed, a, w =>
    Region.ready md ops listed ≠ [] ∧ ∀ i ∈ Region.ready md ops listed, i < n ∧ ∀ w', Keep S w0 w' → Ext w w' → xOp S P ops w0 i (wpX S P md ops w0 n L f (listed.setIfInBounds i true)) a w'

theorem wpX_ext {w0 : World} {n : Nat} {L : Array Bool → Act → World → Prop} : ∀ {f : Nat} {listed : Array Bool} {a : Act} {w w1 : World}, Ext w w1 → wpX S P md ops w0 n L f listed a w → wpX S P md ops w0 n L f listed a w1
  | 0, _, _, _, _, h, H => fun w' h0 h' => H w' h0 (Ext.trans h h')
  | _ + 1, _, _, _, _, h, H => ⟨H.1, fun i hi => ⟨(H.2 i hi).1, fun w' h0 h' => (H.2 i hi).2 w' h0 (Ext.trans h h')⟩⟩

theorem wpAny_of_wpX {w0 : World} {n g : Nat} {L : Array Bool → Act → World → Prop} {Q : Exit → Act → World → Prop} (hL : ∀ listed a w, L listed a w → wpAny P md ops Q g listed a w) :
    ∀ (f : Nat) (listed : Array Bool) (a : Act) (w : World), Keep S w0 w → wpX S P md ops w0 n L f listed a w → wpAny P md ops Q (f + g) listed a w
  | 0, listed, a, w, h0, h => by rw [Nat.zero_add]; exact hL _ _ _ (h w h0 (Ext.refl _))
  | f + 1, listed, a, w, h0, h => by
    rw [show f + 1 + g = (f + g) + 1 by omega]
    exact ⟨fun e => absurd e h.1, fun i hi => wpOp_mono (fun a' w' ⟨h1, h2⟩ => wpAny_of_wpX hL f _ a' w' h1 h2)
      (wpOp_of_xOp (xOp_mono (K' := fun a' w' => Keep S w0 w' ∧ wpX S P md ops w0 n L f (listed.setIfInBounds i true) a' w') h0 (fun _ _ h1 h2 => ⟨h1, h2⟩) ((h.2 i hi).2 w h0 (Ext.refl _))))⟩

/-- In state a, in every world behind w0, operation o yields v and turns nothing. -/
def YieldsX (S : List Nat) (P : Program) (ops : Array Oper) (w0 : World) (o : Oper) (v : Value) (a : Act) : Prop :=
  (Region.wanted o (yielded ops a.tmps) = true ∧ ∀ w', Keep S w0 w' → xRun P o a w' (fun u w'' => u = v ∧ Ext w' w'')) ∨
  (Region.wanted o (yielded ops a.tmps) = false ∧ v = undef)

theorem YieldsX.of_same {w0 : World} {o : Oper} {v : Value} {a a' : Act} (hy : YieldsX S P ops w0 o v a) (he : execOp a'.eval o = execOp a.eval o)
    (hw : Region.wanted o (yielded ops a'.tmps) = Region.wanted o (yielded ops a.tmps)) : YieldsX S P ops w0 o v a' := by
  unfold YieldsX xRun at *
  rw [he, hw]
  exact hy

theorem YieldsX.xOp {w0 : World} {i : Nat} {o : Oper} {v : Value} {a : Act} {w : World} (hi : ops[i]? = some o) (hy : YieldsX S P ops w0 o v a) (h0 : Keep S w0 w) {K : Act → World → Prop}
    (h : ∀ w', Ext w w' → K (a.put o.dst v) w') : xOp S P ops w0 i K a w := by
  unfold RgK.xOp
  simp only [hi]
  rcases hy with ⟨hw, hv⟩ | ⟨hw, rfl⟩
  · simp only [hw, if_true]
    exact xUpon_mono (fun u w'' ⟨e, hx⟩ => ⟨h0.trans (Keep.of_ext hx), by subst e; exact h _ hx⟩) (hv w h0)
  · simp only [hw, Bool.false_eq_true, if_false]
    exact h _ (Ext.refl _)

/-- oj, apart from oi: whether oi's value is already in its temporary makes no difference. -/
theorem xOp_put {w0 : World} {j : Nat} {oi oj : Oper} {v : Value} (hj : ops[j]? = some oj) (hap : oi.apart ops oj = true)
    (hsi : ∀ cs b, oi.op ≠ .select cs b) (hsj : ∀ cs b, oj.op ≠ .select cs b) {K : Act → World → Prop} {a : Act} {w : World}
    (hy : YieldsX S P ops w0 oi v a) (h : xOp S P ops w0 j K (a.put oi.dst v) w) :
    xOp S P ops w0 j (fun a' w' => YieldsX S P ops w0 oi v a' ∧ K (a'.put oi.dst v) w') a w := by
  obtain ⟨h1, h2, h3⟩ := Oper.apart_spec hap
  have keep : ∀ (a : Act), YieldsX S P ops w0 oi v a → ∀ u, YieldsX S P ops w0 oi v (a.put oj.dst u) := fun a hy u =>
    hy.of_same (execOp_put oi hsi a oj.dst u h3) (wanted_put oi a oj.dst u h3)
  unfold xOp at *
  simp only [hj] at *
  rw [wanted_put oj a oi.dst v h1] at h
  split
  · rename_i hw
    simp only [hw, if_true] at h
    unfold xRun at *
    rw [execOp_put oj hsj a oi.dst v h1] at h
    exact xUpon_mono (fun u w'' ⟨hx, hk⟩ => ⟨hx, keep a hy u, by rw [← Act.put_comm a v u h2]; exact hk⟩) h
  · rename_i hw
    simp only [hw] at h
    exact ⟨keep a hy _, by rw [← Act.put_comm a v undef h2]; exact h⟩

theorem wpX_first {w0 : World} {n i : Nat} {oi : Oper} {v : Value} {L : Array Bool → Act → World → Prop} (hi : ops[i]? = some oi) (hsel : ∀ (j : Nat) (o : Oper) cs b, ops[j]? = some o → o.op ≠ .select cs b)
    (hs : Region.sinkB md ops n = true) (hc : Region.chainB md ops n = true) (hn : n < ops.size) (hin : i < n)
    (hdone : ∀ listed a w, L listed a w → ∀ j ∈ Region.ready md ops listed, n ≤ j) :
    ∀ (f : Nat) (listed : Array Bool) (a : Act) (w : World), Keep S w0 w → HeadInv md ops n listed →
      (∀ j oj, ops[j]? = some oj → j ≠ i → listed.getD j true = false → (∀ e ∈ oj.after, Region.binds md e = true → e.on ≠ i) → oi.apart ops oj = true) →
      i ∈ Region.ready md ops listed → YieldsX S P ops w0 oi v a →
      wpX S P md ops w0 n L f (listed.setIfInBounds i true) (a.put oi.dst v) w → wpX S P md ops w0 n L (f + 1) listed a w := by
  intro f
  induction f with
  | zero =>
    intro listed a w h0 inv _ hr hy H
    have hun := (mem_ready.1 hr).1
    refine ⟨fun h => (by rw [h] at hr; cases hr), fun j hj => ?_⟩
    have hjn : j < n := by
      rcases Nat.lt_or_ge j n with h | h
      · exact h
      · exact absurd hj (tail_waits hs hc hn inv _ i rfl hin hun j h)
    refine ⟨hjn, fun w' h0' hw' => ?_⟩
    by_cases hji : j = i
    · subst hji; exact hy.xOp hi h0' fun w'' hw'' => wpX_ext (Ext.trans hw' hw'') H
    · have := hdone _ _ _ (H w h0 (Ext.refl _)) j (ready_mono hj hji)
      omega
  | succ f ih =>
    intro listed a w h0 inv hfree hr hy H
    have hun := (mem_ready.1 hr).1
    refine ⟨fun h => (by rw [h] at hr; cases hr), fun j hj => ?_⟩
    have hjn : j < n := by
      rcases Nat.lt_or_ge j n with h | h
      · exact h
      · exact absurd hj (tail_waits hs hc hn inv _ i rfl hin hun j h)
    refine ⟨hjn, fun w' h0' hw' => ?_⟩
    by_cases hji : j = i
    · subst hji; exact hy.xOp hi h0' fun w'' hw'' => wpX_ext (Ext.trans hw' hw'') H
    · have h1 := (H.2 j (ready_mono hj hji)).2 w' h0' hw'
      obtain ⟨hjun, oj, hoj, hall⟩ := mem_ready.1 hj
      have hnot : ∀ e ∈ oj.after, Region.binds md e = true → e.on ≠ i := fun e he hb heq => by
        have h1 := hall e he hb
        rw [heq, getD_both hun] at h1
        cases h1
      have h2 := xOp_put hoj (hfree j oj hoj hji hjun hnot) (fun cs b => hsel i oi cs b hi) (fun cs b => hsel j oj cs b hoj) hy h1
      have hfree' : ∀ k ok, ops[k]? = some ok → k ≠ i → (listed.setIfInBounds j true).getD k true = false →
          (∀ e ∈ ok.after, Region.binds md e = true → e.on ≠ i) → oi.apart ops ok = true := fun k ok hk hki hun hno => by
        refine hfree k ok hk hki ?_ hno
        by_cases hjk : j = k
        · subst hjk; exact hjun
        · rw [getD_set_ne true hjk] at hun; exact hun
      refine xOp_mono h0' (fun a' w2 hx h3 => ih (listed.setIfInBounds j true) a' w2 hx (inv.set hj hjn) hfree' (ready_mono hr (Ne.symm hji)) h3.1 ?_) h2
      rw [Array.setIfInBounds_comm _ _ hji]
      exact h3.2

theorem yieldsX_next (W : Waiter P) {w0 : World} {o : Oper} {l : List Oper} {a : Act} {K : World → Act → Prop} (hp : plainOp o.op = true)
    (h : ∀ w1, Keep S w0 w1 → wpQuiet P ops (ClsK S w1) (K w1) (o :: l) a) : ∃ v, YieldsX S P ops w0 o v a ∧ ∀ w1, Keep S w0 w1 → wpQuiet P ops (ClsK S w1) (K w1) l (a.put o.dst v) := by
  by_cases hw : Region.wanted o (yielded ops a.tmps) = true
  · have h' : ∀ w1, Keep S w0 w1 → o.quiet P a (ClsK S w1) (wpQuiet P ops (ClsK S w1) (K w1) l) := fun w1 hw1 => by
      have := h w1 hw1
      unfold wpQuiet at this
      simpa only [hw, if_true] using this
    obtain ⟨v0, hv0, _⟩ := h' w0 (Keep.refl S _)
    have hagree : ∀ w1, Keep S w0 w1 → o.quietAt P a (ClsK S w1) w1 v0 ∧ wpQuiet P ops (ClsK S w1) (K w1) l (a.put o.dst v0) := fun w1 hw1 => by
      obtain ⟨v1, hv1, hk⟩ := h' w1 hw1
      have q1 := hv1 w1 ⟨⟨w1, Keep.refl S _⟩, rfl⟩
      have := quietAt_agree W (hv0 w1 ⟨⟨w1, hw1⟩, rfl⟩) q1
      subst this
      exact ⟨q1, hk⟩
    refine ⟨v0, .inl ⟨hw, fun w' hw' => ?_⟩, fun w1 hw1 => (hagree w1 hw1).2⟩
    have q1 := (hagree w' hw').1
    unfold Oper.quietAt at q1
    unfold xRun
    generalize hr : (execOp a.eval o).run P w' = r at *
    cases r with
    | ok n w2 =>
      cases n <;> simp only [Oper.quietUpon] at q1 <;> simp only [xUpon]
      case value u => obtain ⟨rfl, rfl⟩ := q1; exact ⟨rfl, Ext.refl _⟩
      case skip => obtain ⟨rfl, rfl⟩ := q1; exact ⟨rfl, Ext.refl _⟩
      case enter f args => exact absurd hr (not_enter hp _ _ _ _)
    | halt x w2 => simp only [Oper.quietUpon] at q1
  · refine ⟨undef, .inr ⟨by simpa using hw, rfl⟩, fun w1 hw1 => ?_⟩
    have := h w1 hw1
    unfold wpQuiet at this
    rwa [if_neg hw] at this

theorem wpX_heads (W : Waiter P) {w0 : World} {n e : Nat} {L : Array Bool → Act → World → Prop} {es : List Nat} (hsel : Region.noSelect ops = true) (hs : Region.sinkB md ops n = true) (hc : Region.chainB md ops n = true) (hn : n < ops.size)
    (hdone : ∀ listed a w, L listed a w → ∀ j ∈ Region.ready md ops listed, n ≤ j) :
    ∀ (l : List Oper) (k : Nat) (listed : Array Bool) (a : Act) (w : World), (∀ j, j < l.length → l[j]? = ops[k + j]?) → k + l.length = n → HeadInv md ops n listed → Keep S w0 w → Ext w0 w →
    headsOk md ops es l.length k listed = true → (heads es k l).all (fun o => plainOp o.op) = true →
    (∀ w1, Keep S w0 w1 → wpQuiet P ops (ClsK S w1) (fun a' => Ext w0 w1 → wpX S P md ops w0 n L e (listedBy es l.length k listed) a' w1) (heads es k l) a) →
    wpX S P md ops w0 n L (headsNum es l.length k + e) listed a w
  | [], k, listed, a, w, _, _, _, h0, hx, _, _, h => by
    have := h w h0
    simp only [heads, listedBy, headsNum, Nat.zero_add, List.length_nil] at this ⊢
    exact this hx
  | o :: l, k, listed, a, w, hl, hk, inv, h0, hx, hB, hpl, h => by
    have ho : ops[k]? = some o := by simpa using (hl 0 (by simp)).symm
    have hl' : ∀ j, j < l.length → l[j]? = ops[k + 1 + j]? := fun j hj => by have := hl (j + 1) (by simp; omega); simpa [Nat.add_assoc, Nat.add_comm 1 j] using this
    have hk' : k + 1 + l.length = n := by simp only [List.length_cons] at hk; omega
    by_cases he : es.contains k = true
    · simp only [List.length_cons, headsOk, heads, listedBy, headsNum, he, if_true] at hB hpl h ⊢
      exact wpX_heads W hsel hs hc hn hdone l (k + 1) listed a w hl' hk' inv h0 hx hB hpl h
    · simp only [List.length_cons, headsOk, heads, listedBy, headsNum, he, if_false, Bool.and_eq_true, Bool.false_eq_true, List.all_cons] at hB hpl h ⊢
      obtain ⟨⟨hr, hf⟩, hB'⟩ := hB
      have hkn : k < n := by omega
      have hr' : k ∈ Region.ready md ops listed := by simpa using hr
      obtain ⟨v, hy, hK⟩ := yieldsX_next W hpl.1 h
      have := wpX_heads W hsel hs hc hn hdone l (k + 1) _ (a.put o.dst v) w hl' hk' (inv.set hr' hkn) h0 hx hB' hpl.2 hK
      rw [show headsNum es l.length (k + 1) + 1 + e = (headsNum es l.length (k + 1) + e) + 1 by omega]
      exact wpX_first ho (Region.noSelect_spec hsel) hs hc hn hkn hdone _ listed a w h0 inv (Region.free_spec ho hf) hr' hy this

theorem wpAny_hat (S : List Nat) (W : Waiter P) {Q : Exit → Act → World → Prop} {a : Act} {w : World} {l : List Oper} (n : Nat) (es : List Nat) (hB : hatB l.toArray n es = true) (hpl : (heads es 0 (l.take n)).all (fun o => plainOp o.op) = true)
    (h : ∀ w1, Keep S w w1 → wpQuiet P l.toArray (ClsK S w1) (fun a' => Ext w w1 → wpX S P .any l.toArray w n (TailAt P l.toArray Q n) es.length (listedBy es n 0 (Array.replicate l.toArray.size false)) a' w1) (heads es 0 (l.take n)) a) :
    wpAny P .any l.toArray Q l.toArray.size (Array.replicate l.toArray.size false) a { w with drawn := w.drawn + 1 } := by
  simp only [hatB, Bool.and_eq_true, decide_eq_true_eq] at hB
  obtain ⟨⟨⟨⟨⟨hsel, hn⟩, hs⟩, hc⟩, hlex⟩, hnum⟩ := hB
  have hn' : n < l.length := by simpa using hn
  have htl : (l.take n).length = n := by simp; omega
  have inv0 : HeadInv .any l.toArray n (Array.replicate l.toArray.size false) :=
    ⟨by simp, fun j oj _ hl => (by rw [getD_replicate_false] at hl; cases hl), fun t _ ht => getD_in (by simpa using ht) (getD_replicate_false _ _)⟩
  have H := wpX_heads (S := S) (md := .any) W (w0 := w) (L := TailAt P l.toArray Q n) (e := es.length) (es := es) hsel hs hc hn (fun listed a w hL => seqB_ready hL.1) (l.take n) 0 (Array.replicate l.toArray.size false) a
    { w with drawn := w.drawn + 1 } (fun j hj => by
      have hj' : j < n := by rw [htl] at hj; exact hj
      simp [hj']) (by simpa using htl) inv0 (Keep.of_ext ((Ext.refl w).drew)) ((Ext.refl w).drew) (by rw [htl]; exact hlex) hpl (by rw [htl]; exact h)
  rw [htl, hnum] at H
  have H2 := wpAny_of_wpX (Q := Q) (g := l.toArray.size - n) (fun listed a' w' hL => by
    have := wpAny_of_seq (md := .any) (ops := l.toArray) (Q' := Q) (l.drop n) n listed a' w' (fun j => by simp [List.getElem?_drop]) (by rw [show (l.drop n).length = l.toArray.size - n by simp]; exact hL.1) (by simpa using hL.2)
    rwa [show (l.drop n).length = l.toArray.size - n by simp] at this) _ _ _ _ (Keep.of_ext ((Ext.refl w).drew)) H
  rw [show n + (l.toArray.size - n) = l.toArray.size by omega] at H2
  exact H2

theorem wp_region_hat (S : List Nat) (W : Waiter P) {id : Nat} {Q : Exit → Act → World → Prop} {a : Act} {w : World} {l : List Oper} (n : Nat) (es : List Nat) (hm : P.follows .mixedOrders = true) (hB : hatB l.toArray n es = true) (hpl : (heads es 0 (l.take n)).all (fun o => plainOp o.op) = true)
    (h : ∀ w1, Keep S w w1 → wpQuiet P l.toArray (ClsK S w1) (fun a' => Ext w w1 → wpX S P .any l.toArray w n (TailAt P l.toArray Q n) es.length (listedBy es n 0 (Array.replicate l.toArray.size false)) a' w1) (heads es 0 (l.take n)) a) :
    (Code.region id l.toArray true).wp P Q a w :=
  wp_region_any hm (wpAny_hat S W n es hB hpl h)

/-- Nothing is named: the tail stands next. -/
theorem wpX_tail {n : Nat} {Q : Exit → Act → World → Prop} {listed : Array Bool} {l : List Oper} {a : Act} {w0 w : World} (hB : Region.seqB .any l.toArray (l.toArray.size - n) n listed = true)
    (h : ∀ w', Keep S w0 w' → Ext w w' → wpList P l.toArray Q (l.drop n) a w') : wpX S P .any l.toArray w0 n (TailAt P l.toArray Q n) 0 listed a w :=
  fun w' h0 hw' => ⟨hB, by simpa using h w' h0 hw'⟩

/-- One operation stands next, and it alone. -/
theorem wpX_one {n f : Nat} {L : Array Bool → Act → World → Prop} {listed : Array Bool} {a : Act} {w0 w : World} (i : Nat) (o : Oper) (hr : Region.ready md ops listed = [i]) (hin : i < n) (ho : ops[i]? = some o)
    (hw : Region.wanted o (yielded ops a.tmps) = true) (h : ∀ w', Keep S w0 w' → Ext w w' → xRun P o a w' (fun v w'' => Keep S w0 w'' ∧ wpX S P md ops w0 n L f (listed.setIfInBounds i true) (a.put o.dst v) w'')) : wpX S P md ops w0 n L (f + 1) listed a w := by
  refine ⟨by rw [hr]; simp, fun j hj => ?_⟩
  rw [hr] at hj
  have : j = i := by simpa using hj
  subst this
  exact ⟨hin, fun w' h0 hw' => by unfold xOp; simp only [ho, hw, if_true]; exact h w' h0 hw'⟩


end
end Go.RgK
