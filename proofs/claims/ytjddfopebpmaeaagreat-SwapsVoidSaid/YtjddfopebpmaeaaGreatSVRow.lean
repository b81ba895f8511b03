/- SwapsVoid's row: whatever the ask, the answer is true. -/
import Derived.Test.YtjddfopebpmaeaaGreatRows
import Derived.Test.YtjddfopebpmaeaaGreatSVoid
import Derived.Test.YtjddfopebpmaeaaGreatOpen
namespace Go.Proofs.YtjddfopebpmaeaaGreat
open Go.Joins Go.Deep Go.WideElems Go.Maps Go.ChangeShapes Go.WideShapes Go.ChangeAt Go.RowKit Go.Rg Go.BigFrame

set_option maxRecDepth 100000 in
/-- An ask for a swap, opened. -/
theorem open_ask11 {H : Type} {enc : TypeId × Value → H} {W : World} {base b0 : Nat} {spare : Nat → Bool} {held : Bool} {r : Reach} {v : Value} {d : DataW H} {p : List MemPlace}
    (hv : Value.okWide Tryz.prog W r b0 85 v) (h : DataW.Trod enc Tryz.prog W base spare held 85 v d p) :
    ∃ (fr to get give n most : Int), v = .agg #[.int .u8 fr, .int .u8 to, .int .u8 get, .int .u8 give, .int .i64 n, .int .i64 most] ∧
      (Lit.int .u8 fr).wf = true ∧ (Lit.int .u8 to).wf = true ∧ (Lit.int .u8 get).wf = true ∧ (Lit.int .u8 give).wf = true ∧ (Lit.int .i64 n).wf = true ∧ (Lit.int .i64 most).wf = true := by
  obtain ⟨c0, c1, c2, c3, c4, c5, y0, y1, y2, y3, y4, y5, m, rfl, k0, k1, k2, k3, k4, k5⟩ := open_agg6 Tryz.underlying85 (by kernel_rfl) (by kernel_rfl) hv h
  obtain ⟨a0, e0, _, w0⟩ := DataW.trod_int Tryz.underlying43 k0
  obtain ⟨a1, e1, _, w1⟩ := DataW.trod_int Tryz.underlying43 k1
  obtain ⟨a2, e2, _, w2⟩ := DataW.trod_int Tryz.underlying56 k2
  obtain ⟨a3, e3, _, w3⟩ := DataW.trod_int Tryz.underlying56 k3
  obtain ⟨a4, e4, _, w4⟩ := DataW.trod_int Tryz.underlying2 k4
  obtain ⟨a5, e5, _, w5⟩ := DataW.trod_int Tryz.underlying2 k5
  refine ⟨a0, a1, a2, a3, a4, a5, ?_, w0, w1, w2, w3, w4, w5⟩
  cases e0; cases e1; cases e2; cases e3; cases e4; cases e5
  rfl

set_option maxRecDepth 100000 in
theorem swapsVoid_lifted (os : Os) (started : os.Started) (H : Type) (enc : TypeId × Value → H) :
    ReturnsInHanded {} Tryz.checked os 6 .any (Rows.swapsVoidSpec.pre6 enc Tryz.prog Tryz.f6 Rows.swapsVoidRow.domain false) (Rows.swapsVoidSpec.post enc Tryz.prog Tryz.f6 false true false false) := by
  refine returnsInHanded_of_change (C := Tryz.checked) ownK started (by kernel_rfl) Tryz.func6
    (ChangeSpec.witness6 (enc := enc) (C := Tryz.checked) false ⟨#[], #[.agg #[.int .u8 0, .int .u8 0, .int .u8 0, .int .u8 0, .int .i64 0, .int .i64 0]], []⟩ 8 (by kernel_rfl) (by kernel_rfl) (by kernel_rfl) (by kernel_rfl)) ?_
  intro W base args ds gs before hval0 hW hcnd _
  have hval : ∀ (j : Nat) t v, Tryz.f6.params[j]? = some t → args[j]? = some v → Value.okWide Tryz.prog W .any base t v := hval0
  have hW' := hW
  obtain ⟨p, q, hA0, hV, rfl, hfz, hnd⟩ := hW
  have hA : DataW.TrodAll enc Tryz.prog W 0 (fun _ => true) true Tryz.f6.params.toList args.toList ds p := hA0
  rw [Tryz.params6] at hA hval
  obtain ⟨v0, d0, rfl, rfl, h0⟩ := trodAll_one hA
  obtain ⟨rfl, rfl⟩ := trodVars_none hV
  obtain ⟨fr, to, get, give, n, most, rfl, _⟩ := open_ask11 (hval 0 85 v0 rfl rfl) h0
  clear hA0 hval0
  simp only [List.append_nil] at hW'
  have hlt : ∀ x ∈ p, x.block < W.heap.size := fun x hx => by simpa using hW'.lt x hx
  refine (svoid_any fr to get give n most W).mono fun e W' ⟨he, hw⟩ => ?_
  subst he
  have bel : Below W.heap.size W W' := hw
  exact ⟨_, rfl, _, _, _, [], p, [], hW', trodAll_mk1 (shut_bool Tryz.underlying4 true), trodAll_mk1 (Below.trod laidOutK (by kernel_rfl) (of_decide_eq_true (by kernel_rfl)) h0 bel hlt), rfl, bel.frame _, fun h => by cases h⟩

/-- SwapsVoid, whatever the ask: true. -/
theorem swapsVoid_holds : Rows.SwapsVoidSaid :=
  OpenClaim.holds_of_wide 6 Tryz.f6 rfl rfl rfl rfl rfl rfl rfl ⟨rfl, rfl, rfl, rfl, rfl⟩ rfl rfl rfl rfl rfl (by kernel_rfl) Tryz.func6 (by kernel_rfl)
    (of_decide_eq_true (by kernel_rfl)) (by unfold Func.isWrapper; first | (rw [if_pos (by decide +kernel)]; kernel_rfl) | (rw [if_neg (by decide +kernel)]; exact ⟨rfl, rfl⟩))
    (fun os started H enc _ => swapsVoid_lifted os started H enc)

#print axioms swapsVoid_holds

end Go.Proofs.YtjddfopebpmaeaaGreat
