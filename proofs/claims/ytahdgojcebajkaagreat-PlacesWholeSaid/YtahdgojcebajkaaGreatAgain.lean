/- A region that draws its order, where quiet operations come behind those that make or turn memory: a second quiet stretch. Program independent. -/
import Derived.Test.YtahdgojcebajkaaGreatGen
namespace Go.Rg
open Go.RowKit

def headInvB (md : Region.Mode) (ops : Array Oper) (n : Nat) (listed : Array Bool) : Bool :=
  decide (listed.size = ops.size) && (List.range ops.size).all (fun j => !(listed.getD j false) || (match ops[j]? with | some o => o.after.toList.all (fun e => !(Region.binds md e) || listed.getD e.on false) | none => true)) &&
    (List.range ops.size).all (fun t => decide (t < n) || !(listed.getD t true))

theorem headInv_of {md : Region.Mode} {ops : Array Oper} {n : Nat} {listed : Array Bool} (h : headInvB md ops n listed = true) : HeadInv md ops n listed := by
  simp only [headInvB, Bool.and_eq_true, decide_eq_true_eq, List.all_eq_true, List.mem_range] at h
  obtain ⟨⟨h1, h2⟩, h3⟩ := h
  refine ⟨h1, fun j oj hj hl e he hb => ?_, fun t ht hts => ?_⟩
  · have hjs : j < ops.size := (Array.getElem?_eq_some_iff.1 hj).1
    have := h2 j hjs
    rw [hl, hj] at this
    simp only [Bool.not_true, Bool.false_or, List.all_eq_true] at this
    have := this e (by simpa using he)
    rw [hb] at this
    simpa using this
  · have := h3 t hts
    simp only [Bool.or_eq_true, decide_eq_true_eq, Bool.not_eq_true'] at this
    rcases this with h | h
    · omega
    · exact h

def againB (ops : Array Oper) (n k f : Nat) (es : List Nat) (listed : Array Bool) : Bool :=
  Region.noSelect ops && decide (n < ops.size) && decide (k ≤ n) && Region.sinkB .any ops n && Region.chainB .any ops n && headInvB .any ops n listed && headsOk .any ops es (n - k) k listed && decide (headsNum es (n - k) k + es.length = f)

section
variable {P : Program} {ops : Array Oper} {md : Region.Mode}
theorem wpX_rebase {w0 w : World} {n : Nat} {L : Array Bool → Act → World → Prop} (h0 : Ext w0 w) : ∀ (f : Nat) (listed : Array Bool) (a : Act) (v : World), Ext w v → wpX P md ops w n L f listed a v → wpX P md ops w0 n L f listed a v
  | 0, _, _, _, hv, H => fun w' _ hw' => H w' (Ext.trans hv hw') hw'
  | f + 1, listed, _, _, hv, H => ⟨H.1, fun i hi => ⟨(H.2 i hi).1, fun w' _ hw' => by
      have h1 := (H.2 i hi).2 w' (Ext.trans hv hw') hw'
      have hr := fun a' w'' (hx : Ext w w'') (hk : wpX P md ops w n L f (listed.setIfInBounds i true) a' w'') => wpX_rebase h0 f _ a' w'' hx hk
      unfold xOp at *
      split
      · rename_i ho
        simp only [ho] at h1
        exact hr _ _ (Ext.trans hv hw') h1
      · rename_i o ho
        simp only [ho] at h1
        split
        · rename_i hwa
          simp only [hwa, if_true] at h1
          exact xUpon_mono (fun u w'' ⟨hx, hk⟩ => ⟨Ext.trans h0 hx, hr _ _ hx hk⟩) h1
        · rename_i hwa
          simp only [hwa] at h1
          exact hr _ _ (Ext.trans hv hw') h1⟩⟩

theorem wpX_again (W : Waiter P) {w0 w : World} {n f : Nat} {Q : Exit → Act → World → Prop} {l0 : List Oper} {a : Act} {listed : Array Bool} (k : Nat) (es : List Nat) (hB : againB l0.toArray n k f es listed = true) (h0 : Ext w0 w)
    (h : ∀ w1, Ext w w1 → wpQuiet P l0.toArray (Cls w1) (fun a' => wpX P .any l0.toArray w n (TailAt P l0.toArray Q n) es.length (listedBy es (n - k) k listed) a' w1) (heads es k ((l0.take n).drop k)) a) :
    wpX P .any l0.toArray w0 n (TailAt P l0.toArray Q n) f listed a w := by
  simp only [againB, Bool.and_eq_true, decide_eq_true_eq] at hB
  obtain ⟨⟨⟨⟨⟨⟨⟨hsel, hn⟩, hkn⟩, hs⟩, hc⟩, hinv⟩, hok⟩, hf⟩ := hB
  have hn' : n < l0.length := by simpa using hn
  have hlen : ((l0.take n).drop k).length = n - k := by simp; omega
  have H := wpX_heads (md := .any) W (w0 := w) (L := TailAt P l0.toArray Q n) (e := es.length) (es := es) hsel hs hc hn (fun listed a w hL => seqB_ready hL.1) ((l0.take n).drop k) k listed a w (fun j hj => by
    rw [hlen] at hj
    simp [List.getElem?_drop, List.getElem?_take]
    omega) (by rw [hlen]; omega) (headInv_of hinv) (Ext.refl w) (by rw [hlen]; exact hok) (by rw [hlen]; exact h)
  rw [hlen, hf] at H
  exact wpX_rebase h0 f listed a w (Ext.refl w) H
end
end Go.Rg

namespace Go.RgK
open Go.RowKit Go.Rg
section
variable {S : List Nat} {P : Program} {ops : Array Oper} {md : Region.Mode}
theorem wpX_rebase {w0 w : World} {n : Nat} {L : Array Bool → Act → World → Prop} (h0 : Keep S w0 w) : ∀ (f : Nat) (listed : Array Bool) (a : Act) (v : World), Keep S w v → wpX S P md ops w n L f listed a v → wpX S P md ops w0 n L f listed a v
  | 0, _, _, _, hv, H => fun w' _ hw' => H w' (hv.trans (Keep.of_ext hw')) hw'
  | f + 1, listed, _, _, hv, H => ⟨H.1, fun i hi => ⟨(H.2 i hi).1, fun w' _ hw' => by
      have h1 := (H.2 i hi).2 w' (hv.trans (Keep.of_ext hw')) hw'
      have hr := fun a' w'' (hx : Keep S w w'') (hk : wpX S P md ops w n L f (listed.setIfInBounds i true) a' w'') => wpX_rebase h0 f _ a' w'' hx hk
      unfold xOp at *
      split
      · rename_i ho
        simp only [ho] at h1
        exact hr _ _ (hv.trans (Keep.of_ext hw')) h1
      · rename_i o ho
        simp only [ho] at h1
        split
        · rename_i hwa
          simp only [hwa, if_true] at h1
          exact xUpon_mono (fun u w'' ⟨hx, hk⟩ => ⟨h0.trans hx, hr _ _ hx hk⟩) h1
        · rename_i hwa
          simp only [hwa] at h1
          exact hr _ _ (hv.trans (Keep.of_ext hw')) h1⟩⟩

theorem wpX_again (W : Waiter P) {w0 w : World} {n f : Nat} {Q : Exit → Act → World → Prop} {l0 : List Oper} {a : Act} {listed : Array Bool} (k : Nat) (es : List Nat) (hB : againB l0.toArray n k f es listed = true) (hpl : (heads es k ((l0.take n).drop k)).all (fun o => plainOp o.op) = true) (h0 : Keep S w0 w)
    (h : ∀ w1, Keep S w w1 → wpQuiet P l0.toArray (ClsK S w1) (fun a' => Ext w w1 → wpX S P .any l0.toArray w n (TailAt P l0.toArray Q n) es.length (listedBy es (n - k) k listed) a' w1) (heads es k ((l0.take n).drop k)) a) :
    wpX S P .any l0.toArray w0 n (TailAt P l0.toArray Q n) f listed a w := by
  simp only [againB, Bool.and_eq_true, decide_eq_true_eq] at hB
  obtain ⟨⟨⟨⟨⟨⟨⟨hsel, hn⟩, hkn⟩, hs⟩, hc⟩, hinv⟩, hok⟩, hf⟩ := hB
  have hn' : n < l0.length := by simpa using hn
  have hlen : ((l0.take n).drop k).length = n - k := by simp; omega
  have H := wpX_heads (S := S) (md := .any) W (w0 := w) (L := TailAt P l0.toArray Q n) (e := es.length) (es := es) hsel hs hc hn (fun listed a w hL => seqB_ready hL.1) ((l0.take n).drop k) k listed a w (fun j hj => by
    rw [hlen] at hj
    simp [List.getElem?_drop, List.getElem?_take]
    omega) (by rw [hlen]; omega) (headInv_of hinv) (Keep.refl S w) (Ext.refl w) (by rw [hlen]; exact hok) hpl (by rw [hlen]; exact h)
  rw [hlen, hf] at H
  exact wpX_rebase h0 f listed a w (Keep.refl S w) H
end
end Go.RgK
