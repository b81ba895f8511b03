/- PlacesVoid's row: whatever the offer, the answer is true. -/
import Derived.Test.YtjddfopebpmaeaaGreatRows
import Derived.Test.YtjddfopebpmaeaaGreatPVoid
import Derived.ProofKit
import Derived.Lib.SmallJoins
import Derived.OpenShut
namespace Go.Proofs.YtjddfopebpmaeaaGreat
open Go.Joins Go.Deep Go.WideElems Go.Maps Go.ChangeShapes Go.WideShapes Go.ChangeAt Go.RowKit Go.Rg Go.BigFrame

theorem laidOutK : laidOutB Tryz.prog = true := by kernel_rfl
theorem ownK : ownKnob Tryz.prog.godebug = none := by kernel_rfl

section
variable {H : Type} {enc : TypeId × Value → H} {P : Program} {w : World} {base : Nat} {spare : Nat → Bool} {held : Bool}
theorem fld_at {t : TypeId} {fs : Array Field} {fuel : Nat} {cs : List Value} {x : DataW H × List MemPlace} (ht : P.underlying t = some (.struct fs)) (h : DataW.trod enc P w base spare held fuel t cs = some x) (i off k : Nat) (u : TypeId)
    (hf : (fs[i]?).map (fun f => (f.type, f.offset)) = some (u, off)) (hc : P.cellsOf u = k) : ∃ n y, DataW.trod enc P w base spare held n u ((cs.drop off).take k) = some y := by
  obtain ⟨xs, n, _, _, _, hlen, hfs⟩ := DataW.trod_struct ht h
  rw [Option.map_eq_some_iff] at hf
  obtain ⟨f, hf, e⟩ := hf
  simp only [Prod.mk.injEq] at e
  obtain ⟨e1, e2⟩ := e
  subst e1 e2 hc
  have hi : i < fs.size := (Array.getElem?_eq_some_iff.1 hf).1
  exact ⟨n, _, (hfs i f hf).trans (List.getElem?_eq_getElem (by omega))⟩
end

theorem list7 {α : Type} {cs : List α} (h : cs.length = 7) : ∃ c0 c1 c2 c3 c4 c5 c6, cs = [c0, c1, c2, c3, c4, c5, c6] := by
  match cs, h with
  | [c0, c1, c2, c3, c4, c5, c6], _ => exact ⟨c0, c1, c2, c3, c4, c5, c6, rfl⟩

section
variable {H : Type} {enc : TypeId × Value → H} {w : World} {base : Nat} {spare : Nat → Bool} {held : Bool}
theorem one_int {k : IntKind} {t : TypeId} {n : Nat} {v : Value} {y : DataW H × List MemPlace} (ht : Tryz.prog.underlying t = some (.int k)) (h : DataW.trod enc Tryz.prog w base spare held n t [v] = some y) : ∃ i, v = .int k i ∧ (Lit.int k i).wf = true := by
  obtain ⟨i, e, _, hw⟩ := DataW.trod_int ht h
  cases e
  exact ⟨i, rfl, hw⟩

set_option maxRecDepth 100000 in
theorem open_off {fuel : Nat} {cs : List Value} {x : DataW H × List MemPlace} (h : DataW.trod enc Tryz.prog w base spare held fuel 60 cs = some x) : ∃ a : Off, cs = a.cells ∧ a.left ≤ 9223372036854775807 ∧ a.num ≤ 9223372036854775807 ∧ a.den ≤ 9223372036854775807 := by
  have hu := Tryz.underlying60
  have hl := (DataW.trod_struct hu h).choose_spec.choose_spec.2.2.1
  obtain ⟨c0, c1, c2, c3, c4, c5, c6, rfl⟩ := list7 (hl.trans (by kernel_rfl))
  obtain ⟨_, _, h0⟩ := fld_at hu h 0 0 1 _ rfl (by kernel_rfl)
  obtain ⟨_, _, h1⟩ := fld_at hu h 1 1 1 _ rfl (by kernel_rfl)
  obtain ⟨_, _, h2⟩ := fld_at hu h 2 2 1 _ rfl (by kernel_rfl)
  obtain ⟨_, _, h3⟩ := fld_at hu h 3 3 1 _ rfl (by kernel_rfl)
  obtain ⟨_, _, h4⟩ := fld_at hu h 4 4 1 _ rfl (by kernel_rfl)
  obtain ⟨_, _, hr⟩ := fld_at hu h 5 5 2 _ rfl (by kernel_rfl)
  have hv := Tryz.underlying58
  obtain ⟨_, _, h5⟩ := fld_at hv hr 0 0 1 _ rfl (by kernel_rfl)
  obtain ⟨_, _, h6⟩ := fld_at hv hr 1 1 1 _ rfl (by kernel_rfl)
  simp only [List.drop_succ_cons, List.drop_zero, List.take_succ_cons, List.take_zero] at h0 h1 h2 h3 h4 h5 h6
  obtain ⟨x0, rfl, w0⟩ := one_int Tryz.underlying42 h0
  obtain ⟨x1, rfl, _⟩ := one_int Tryz.underlying43 h1
  obtain ⟨x2, rfl, _⟩ := one_int Tryz.underlying56 h2
  obtain ⟨x3, rfl, _⟩ := one_int Tryz.underlying56 h3
  obtain ⟨x4, rfl, w4⟩ := one_int Tryz.underlying2 h4
  obtain ⟨x5, rfl, w5⟩ := one_int Tryz.underlying2 h5
  obtain ⟨x6, rfl, w6⟩ := one_int Tryz.underlying2 h6
  exact ⟨⟨x0, x1, x2, x3, x4, x5, x6⟩, rfl, (bounds_i64 w4).2, (bounds_i64 w5).2, (bounds_i64 w6).2⟩

set_option maxRecDepth 100000 in
/-- An offer, opened. -/
theorem open_offer {b0 : Nat} {r : Reach} {v : Value} {d : DataW H} {p : List MemPlace} (hv : Value.okWide Tryz.prog w r b0 60 v) (h : DataW.Trod enc Tryz.prog w base spare held 60 v d p) :
    ∃ a : Off, v = a.agg ∧ a.left ≤ 9223372036854775807 ∧ a.num ≤ 9223372036854775807 ∧ a.den ≤ 9223372036854775807 := by
  obtain ⟨cs, rfl, hsz⟩ := okWide_struct Tryz.underlying60 hv
  obtain ⟨fuel, hf⟩ := h
  obtain ⟨a, ha, hb⟩ := open_off hf
  refine ⟨a, ?_, hb⟩
  obtain ⟨l⟩ := cs
  simp only [Value.cells] at ha
  have : l = a.cells := by simpa using ha
  subst this
  rfl
end

set_option maxRecDepth 100000 in
theorem placesVoid_lifted (os : Os) (started : os.Started) (H : Type) (enc : TypeId × Value → H) :
    ReturnsInHanded {} Tryz.checked os 5 .any (Rows.placesVoidSpec.pre6 enc Tryz.prog Tryz.f5 Rows.placesVoidRow.domain false) (Rows.placesVoidSpec.post enc Tryz.prog Tryz.f5 false true false false) := by
  refine returnsInHanded_of_change (C := Tryz.checked) ownK started (by kernel_rfl) Tryz.func5
    (ChangeSpec.witness6 (enc := enc) (C := Tryz.checked) false ⟨#[], #[.agg #[.int .u64 0, .int .u8 0, .int .u8 0, .int .u8 0, .int .i64 0, .int .i64 0, .int .i64 0]], []⟩ 8 (by kernel_rfl) (by kernel_rfl) (by kernel_rfl) (by kernel_rfl)) ?_
  intro W base args ds gs before hval0 hW hcnd _
  have hval : ∀ (j : Nat) t v, Tryz.f5.params[j]? = some t → args[j]? = some v → Value.okWide Tryz.prog W .any base t v := hval0
  have hW' := hW
  obtain ⟨p, q, hA0, hV, rfl, hfz, hnd⟩ := hW
  have hA : DataW.TrodAll enc Tryz.prog W 0 (fun _ => true) true Tryz.f5.params.toList args.toList ds p := hA0
  rw [Tryz.params5] at hA hval
  obtain ⟨v0, d0, rfl, rfl, h0⟩ := trodAll_one hA
  obtain ⟨rfl, rfl⟩ := trodVars_none hV
  obtain ⟨a, rfl, _, _, _⟩ := open_offer (hval 0 60 v0 rfl rfl) h0
  clear hA0 hval0
  simp only [List.append_nil] at hW'
  have hlt : ∀ x ∈ p, x.block < W.heap.size := fun x hx => by simpa using hW'.lt x hx
  refine (pvoid_any a.seq a.owner a.sell a.buy a.left a.num a.den W).mono fun e W' ⟨he, hw⟩ => ?_
  subst he
  have bel : Below W.heap.size W W' := hw
  exact ⟨_, rfl, _, _, _, [], p, [], hW', trodAll_mk1 (shut_bool Tryz.underlying4 true), trodAll_mk1 (Below.trod laidOutK (by kernel_rfl) (of_decide_eq_true (by kernel_rfl)) h0 bel hlt), rfl, bel.frame _, fun h => by cases h⟩

/-- PlacesVoid, whatever the offer: true. -/
theorem placesVoid_holds : Rows.PlacesVoidSaid :=
  OpenClaim.holds_of_wide 5 Tryz.f5 rfl rfl rfl rfl rfl rfl rfl ⟨rfl, rfl, rfl, rfl, rfl⟩ rfl rfl rfl rfl rfl (by kernel_rfl) Tryz.func5 (by kernel_rfl)
    (of_decide_eq_true (by kernel_rfl)) (by unfold Func.isWrapper; first | (rw [if_pos (by decide +kernel)]; kernel_rfl) | (rw [if_neg (by decide +kernel)]; exact ⟨rfl, rfl⟩))
    (fun os started H enc _ => placesVoid_lifted os started H enc)

#print axioms placesVoid_holds

end Go.Proofs.YtjddfopebpmaeaaGreat
