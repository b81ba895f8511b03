/- MachinesTold's row: whatever commands came ahead and come behind, the answer is true. -/
import Derived.Test.YtahdgojcebajkaaGreatTold
import Derived.Test.YtahdgojcebajkaaGreatRows
import Derived.ProofKit
import Derived.Lib.SmallJoins
import Derived.OpenShut
namespace Go.Proofs.YtahdgojcebajkaaGreat
open Go.Joins Go.Deep Go.WideElems Go.Maps Go.ChangeShapes Go.WideShapes Go.ChangeAt Go.RowKit Go.Rg Go.BigFrame
theorem Zid : laidOutB Tryz.prog = true := by kernel_rfl
theorem ownK14 : ownKnob Tryz.prog.godebug = none := by kernel_rfl
set_option maxRecDepth 100000 in
theorem Zdg (os : Os) (started : os.Started) (H : Type) (enc : TypeId × Value -> H) :
 ReturnsInHanded {} Tryz.checked os 9 .any (Rows.machinesToldSpec.pre6 enc Tryz.prog Tryz.f9 Rows.machinesToldRow.domain false) (Rows.machinesToldSpec.post enc Tryz.prog Tryz.f9 false true false false) := by
 refine returnsInHanded_of_change (C := Tryz.checked) ownK14 started (by kernel_rfl) Tryz.func9
  (ChangeSpec.witness6 (enc := enc) (C := Tryz.checked) false ⟨#[], #[.slice none 0 0, .slice none 0 0], []⟩ 8 (by kernel_rfl) (by kernel_rfl) (by kernel_rfl) (by kernel_rfl)) ?_
 intro W base args ds gs before hval0 hW hcnd _
 have hval : ∀ (j : Nat) t v, Tryz.f9.params[j]? = some t -> args[j]? = some v -> Value.okWide Tryz.prog W .any base t v := hval0
 have hW' := hW
 obtain ⟨p, q, hA0, hV, rfl, hfz, hnd⟩ := hW
 have hA : DataW.TrodAll enc Tryz.prog W 0 (fun _ => true) true Tryz.f9.params.toList args.toList ds p := hA0
 rw [Tryz.params9] at hA hval
 obtain ⟨v0, v1, d0, d1, p0, p1, rfl, rfl, rfl, h0, h1⟩ := trodAll_two hA
 obtain ⟨rfl, rfl⟩ := trodVars_none hV
 obtain ⟨l, ha, hla⟩ := Zjs (hval 0 92 v0 rfl rfl) h0
 obtain ⟨more, hb, hlb⟩ := Zjs (hval 1 92 v1 rfl rfl) h1
 clear hA0 hval0
 simp only [List.append_nil] at hW'
 have hlt : ∀ x ∈ p0 ++ p1, x.block < W.heap.size := fun x hx => by simpa using hW'.lt x hx
 refine (mtold_any v0 v1 l more W ha hla hb hlb).mono fun e W' ⟨he, hw⟩ => ?_
 subst he
 have bel : Below W.heap.size W W' := hw
 exact ⟨_, rfl, _, _, _, [], p0 ++ p1, [], hW', trodAll_mk1 (shut_bool Tryz.underlying4 true), trodAll_mk2 (Below.trod Zid (by kernel_rfl) (of_decide_eq_true (by kernel_rfl)) h0 bel (fun x hx => hlt x (by simp [hx]))) (Below.trod Zid (by kernel_rfl) (of_decide_eq_true (by kernel_rfl)) h1 bel (fun x hx => hlt x (by simp [hx]))), rfl, bel.frame _, fun h => by cases h⟩
theorem Zg0 : Tryz.prog.funcNamed Rows.machinesToldRow.func = some 9 := by kernel_rfl
theorem Zgz : joinedFacts Tryz.prog 9 Tryz.f9 Rows.machinesToldSpec Rows.machinesToldRow = true := by kernel_rfl
theorem Zgy : Tryz.f9.isInstance Tryz.prog Rows.machinesToldRow.origin Rows.machinesToldRow.targs := of_decide_eq_true (by kernel_rfl)
theorem Zgx : Tryz.f9.isWrapper Tryz.prog Rows.machinesToldRow.wrapper Rows.machinesToldRow.mainSum := by unfold Func.isWrapper; first | (rw [if_pos (by decide +kernel)]; kernel_rfl) | (rw [if_neg (by decide +kernel)]; exact ⟨rfl, rfl⟩)
theorem machinesTold_holds : Rows.MachinesToldSaid :=
 OpenClaim.holds_of_wide 9 Tryz.f9 rfl rfl rfl rfl rfl rfl rfl ⟨rfl, rfl, rfl, rfl, rfl⟩ rfl rfl rfl rfl rfl Zg0 Tryz.func9 Zgz Zgy Zgx
  (fun os started H enc _ => Zdg os started H enc)
#print axioms machinesTold_holds
end Go.Proofs.YtahdgojcebajkaaGreat
