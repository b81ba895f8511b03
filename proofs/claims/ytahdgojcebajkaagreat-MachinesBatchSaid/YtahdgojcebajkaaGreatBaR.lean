/- MachinesBatch's row: whatever commands came and whatever command comes, the answer is true. -/
import Derived.Test.YtahdgojcebajkaaGreatBatch
import Derived.Test.YtahdgojcebajkaaGreatRows
import Derived.ProofKit
import Derived.Lib.SmallJoins
import Derived.OpenShut
namespace Go.Proofs.YtahdgojcebajkaaGreat
open Go.Joins Go.Deep Go.WideElems Go.Maps Go.ChangeShapes Go.WideShapes Go.ChangeAt Go.RowKit Go.Rg Go.BigFrame
theorem Zgt : laidOutB Tryz.prog = true := by kernel_rfl
theorem ownK14 : ownKnob Tryz.prog.godebug = none := by kernel_rfl
set_option maxRecDepth 100000 in
theorem Zbb (os : Os) (started : os.Started) (H : Type) (enc : TypeId × Value -> H) :
 ReturnsInHanded {} Tryz.checked os 7 .any (Rows.machinesBatchSpec.pre6 enc Tryz.prog Tryz.f7 Rows.machinesBatchRow.domain false) (Rows.machinesBatchSpec.post enc Tryz.prog Tryz.f7 false true false false) := by
 refine returnsInHanded_of_change (C := Tryz.checked) ownK14 started (by kernel_rfl) Tryz.func7
  (ChangeSpec.witness6 (enc := enc) (C := Tryz.checked) false ⟨#[], #[.slice none 0 0, .agg #[.slice none 0 0]], []⟩ 8 (by kernel_rfl) (by kernel_rfl) (by kernel_rfl) (by kernel_rfl)) ?_
 intro W base args ds gs before hval0 hW hcnd _
 have hval : ∀ (j : Nat) t v, Tryz.f7.params[j]? = some t -> args[j]? = some v -> Value.okWide Tryz.prog W .any base t v := hval0
 have hW' := hW
 obtain ⟨p, q, hA0, hV, rfl, hfz, hnd⟩ := hW
 have hA : DataW.TrodAll enc Tryz.prog W 0 (fun _ => true) true Tryz.f7.params.toList args.toList ds p := hA0
 rw [Tryz.params7] at hA hval
 obtain ⟨v0, v1, d0, d1, p0, p1, rfl, rfl, rfl, h0, h1⟩ := trodAll_two hA
 obtain ⟨rfl, rfl⟩ := trodVars_none hV
 obtain ⟨l, ha, hla⟩ := open_cmds (hval 0 92 v0 rfl rfl) h0
 obtain ⟨c, rfl, hc⟩ := open_cmd (hval 1 76 v1 rfl rfl) h1
 clear hA0 hval0
 simp only [List.append_nil] at hW'
 have hlt : ∀ x ∈ p0 ++ p1, x.block < W.heap.size := fun x hx => by simpa using hW'.lt x hx
 refine (Zmm v0 l c W ha hla hc).mono fun e W' ⟨he, hw⟩ => ?_
 subst he
 have bel : Below W.heap.size W W' := hw
 exact ⟨_, rfl, _, _, _, [], p0 ++ p1, [], hW', trodAll_mk1 (shut_bool Tryz.underlying4 true), trodAll_mk2 (Below.trod Zgt (by kernel_rfl) (of_decide_eq_true (by kernel_rfl)) h0 bel (fun x hx => hlt x (by simp [hx]))) (Below.trod Zgt (by kernel_rfl) (of_decide_eq_true (by kernel_rfl)) h1 bel (fun x hx => hlt x (by simp [hx]))), rfl, bel.frame _, fun h => by cases h⟩
theorem machinesBatch_k1 : Tryz.prog.funcNamed Rows.machinesBatchRow.func = some 7 := by kernel_rfl
theorem machinesBatch_k2 : joinedFacts Tryz.prog 7 Tryz.f7 Rows.machinesBatchSpec Rows.machinesBatchRow = true := by kernel_rfl
theorem machinesBatch_k3 : Tryz.f7.isInstance Tryz.prog Rows.machinesBatchRow.origin Rows.machinesBatchRow.targs := of_decide_eq_true (by kernel_rfl)
theorem machinesBatch_k4 : Tryz.f7.isWrapper Tryz.prog Rows.machinesBatchRow.wrapper Rows.machinesBatchRow.mainSum := by unfold Func.isWrapper; first | (rw [if_pos (by decide +kernel)]; kernel_rfl) | (rw [if_neg (by decide +kernel)]; exact ⟨rfl, rfl⟩)
/-- MachinesBatch, whatever the commands: true. -/
theorem machinesBatch_holds : Rows.MachinesBatchSaid :=
 OpenClaim.holds_of_wide 7 Tryz.f7 rfl rfl rfl rfl rfl rfl rfl ⟨rfl, rfl, rfl, rfl, rfl⟩ rfl rfl rfl rfl rfl machinesBatch_k1 Tryz.func7 machinesBatch_k2 machinesBatch_k3 machinesBatch_k4
  (fun os started H enc _ => Zbb os started H enc)
#print axioms machinesBatch_holds
end Go.Proofs.YtahdgojcebajkaaGreat
