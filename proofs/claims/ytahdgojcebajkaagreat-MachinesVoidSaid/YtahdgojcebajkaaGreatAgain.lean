/- A region that draws its order, where quiet operations come behind those that make or turn memory: a second quiet stretch. Program independent. -/
import Derived.Test.YtahdgojcebajkaaGreatGen
namespace Go.Rg
open Go.RowKit

def headInvB (md : Region.Mode) (ops : Array Oper) (n : Nat) (listed : Array Bool) : Bool :=
  decide (listed.size = ops.size) && (List.range ops.size).all (fun j => !(listed.getD j false) || (match ops[j]? with | some o => o.after.toList.all (fun e => !(Region.binds md e) || listed.getD e.on false) | none => true)) &&
    (List.range ops.size).all (fun t => decide (t < n) || !(listed.getD t true))

theorem headInv_of {md : Region.Mode} {ops : Array Oper} {n : Nat} {listed : Array Bool} (h : headInvB md ops n listed = true) : HeadInv md ops n listed := by
  simp only [headInvB, Bool.and_eq_true, decide_eq_true_eq, List.all_eq_true, List.mem_range] at h
  obtain ⟨⟨h1, h2⟩, h3⟩ := h
  refine ⟨h1, fun j oj hj hl e he hb => ?_, fun t ht hts => ?_⟩
  · have hjs : j < ops.size := (Array.getElem?_eq_some_iff.1 hj).1
    have := h2 j hjs
    rw [hl, hj] at this
    simp only [Bool.not_true, Bool.false_or, List.all_eq_true] at this
    have := this e (by simpa using he)
    rw [hb] at this
    simpa using this
  · have := h3 t hts
    simp only [Bool.or_eq_true, decide_eq_true_eq, Bool.not_eq_true'] at this
    rcases this with h | h
    · omega
    · exact h

section
variable {P : Program} {ops : Array Oper} {md : Region.Mode}
theorem wpX_rebase {w0 w : World} {n : Nat} {L : Array Bool → Act → World → Prop} (h0 : Ext w0 w) : ∀ (f : Nat) (listed : Array Bool) (a : Act) (v : World), Ext w v → wpX P md ops w n L f listed a v → wpX P md ops w0 n L f listed a v
  | 0, _, _, _, hv, H => fun w' _ hw' => H w' (Ext.trans hv hw') hw'
  | f + 1, listed, _, _, hv, H => ⟨H.1, fun i hi => ⟨(H.2 i hi).1, fun w' _ hw' => by
      have h1 := (H.2 i hi).2 w' (Ext.trans hv hw') hw'
      have hr := fun a' w'' (hx : Ext w w'') (hk : wpX P md ops w n L f (listed.setIfInBounds i true) a' w'') => wpX_rebase h0 f _ a' w'' hx hk
      unfold xOp at *
      split
      · rename_i ho
        simp only [ho] at h1
        exact hr _ _ (Ext.trans hv hw') h1
      · rename_i o ho
        simp only [ho] at h1
        split
        · rename_i hwa
          simp only [hwa, if_true] at h1
          exact xUpon_mono (fun u w'' ⟨hx, hk⟩ => ⟨Ext.trans h0 hx, hr _ _ hx hk⟩) h1
        · rename_i hwa
          simp only [hwa] at h1
          exact hr _ _ (Ext.trans hv hw') h1⟩⟩

end
end Go.Rg

namespace Go.RgK
open Go.RowKit Go.Rg
section
variable {S : List Nat} {P : Program} {ops : Array Oper} {md : Region.Mode}
theorem wpX_rebase {w0 w : World} {n : Nat} {L : Array Bool → Act → World → Prop} (h0 : Keep S w0 w) : ∀ (f : Nat) (listed : Array Bool) (a : Act) (v : World), Keep S w v → wpX S P md ops w n L f listed a v → wpX S P md ops w0 n L f listed a v
  | 0, _, _, _, hv, H => fun w' _ hw' => H w' (hv.trans (Keep.of_ext hw')) hw'
  | f + 1, listed, _, _, hv, H => ⟨H.1, fun i hi => ⟨(H.2 i hi).1, fun w' _ hw' => by
      have h1 := (H.2 i hi).2 w' (hv.trans (Keep.of_ext hw')) hw'
      have hr := fun a' w'' (hx : Keep S w w'') (hk : wpX S P md ops w n L f (listed.setIfInBounds i true) a' w'') => wpX_rebase h0 f _ a' w'' hx hk
      unfold xOp at *
      split
      · rename_i ho
        simp only [ho] at h1
        exact hr _ _ (hv.trans (Keep.of_ext hw')) h1
      · rename_i o ho
        simp only [ho] at h1
        split
        · rename_i hwa
          simp only [hwa, if_true] at h1
          exact xUpon_mono (fun u w'' ⟨hx, hk⟩ => ⟨h0.trans hx, hr _ _ hx hk⟩) h1
        · rename_i hwa
          simp only [hwa] at h1
          exact hr _ _ (hv.trans (Keep.of_ext hw')) h1⟩⟩

end
end Go.RgK
