/- Openers: what comes in (worlds, asks, slices of acts and of offers), as the walks want it. -/
import Derived.Test.YtjddfopebpmaeaaGreatMade
import Derived.ProofKit
import Derived.Lib.SmallJoins
import Derived.OpenShut
namespace Go.Proofs.YtjddfopebpmaeaaGreat
open Go.Joins Go.Deep Go.WideElems Go.Maps Go.ChangeShapes Go.WideShapes Go.ChangeAt Go.RowKit Go.Rg Go.BigFrame

theorem laidOutK : laidOutB Tryz.prog = true := by kernel_rfl
theorem ownK : ownKnob Tryz.prog.godebug = none := by kernel_rfl

/-- What was below the old heap's end stands. -/
theorem below_of_ext {W W' : World} (h : Ext W W') : Below W.heap.size W W' := h

theorem array6 {α : Type} {cs : Array α} (h : cs.size = 6) : ∃ c0 c1 c2 c3 c4 c5, cs = #[c0, c1, c2, c3, c4, c5] := by
  obtain ⟨l⟩ := cs
  match l, h with
  | [c0, c1, c2, c3, c4, c5], _ => exact ⟨c0, c1, c2, c3, c4, c5, rfl⟩

section
variable {H : Type} {enc : TypeId × Value → H} {P : Program} {w : World} {base : Nat} {spare : Nat → Bool} {held : Bool}
theorem trod_struct6 {t : TypeId} {f0 f1 f2 f3 f4 f5 : Field} {fuel : Nat} {cs : List Value} {x : DataW H × List MemPlace} (ht : P.underlying t = some (.struct #[f0, f1, f2, f3, f4, f5])) (h : DataW.trod enc P w base spare held fuel t cs = some x) :
    ∃ y0 y1 y2 y3 y4 y5 n, DataW.trod enc P w base spare held n f0.type ((cs.drop f0.offset).take (P.cellsOf f0.type)) = some y0 ∧
      DataW.trod enc P w base spare held n f1.type ((cs.drop f1.offset).take (P.cellsOf f1.type)) = some y1 ∧ DataW.trod enc P w base spare held n f2.type ((cs.drop f2.offset).take (P.cellsOf f2.type)) = some y2 ∧
      DataW.trod enc P w base spare held n f3.type ((cs.drop f3.offset).take (P.cellsOf f3.type)) = some y3 ∧ DataW.trod enc P w base spare held n f4.type ((cs.drop f4.offset).take (P.cellsOf f4.type)) = some y4 ∧
      DataW.trod enc P w base spare held n f5.type ((cs.drop f5.offset).take (P.cellsOf f5.type)) = some y5 := by
  obtain ⟨xs, n, _, rfl, hl, hlen, hf⟩ := DataW.trod_struct ht h
  match xs, hlen with
  | [y0, y1, y2, y3, y4, y5], _ => exact ⟨y0, y1, y2, y3, y4, y5, n, by simpa using hf 0 f0 rfl, by simpa using hf 1 f1 rfl, by simpa using hf 2 f2 rfl, by simpa using hf 3 f3 rfl, by simpa using hf 4 f4 rfl, by simpa using hf 5 f5 rfl⟩
theorem open_agg6 {r : Reach} {b0 : Nat} {t : TypeId} {f0 f1 f2 f3 f4 f5 : Field} {v : Value} {d : DataW H} {p : List MemPlace} (hs : P.underlying t = some (.struct #[f0, f1, f2, f3, f4, f5])) (hone : oneCellFields P #[f0, f1, f2, f3, f4, f5] = true) (hC : P.cellsOf t = 6)
    (hv : Value.okWide P w r b0 t v) (h : DataW.Trod enc P w base spare held t v d p) :
    ∃ (v0 v1 v2 v3 v4 v5 : Value) (y0 y1 y2 y3 y4 y5 : DataW H × List MemPlace) (n : Nat), v = .agg #[v0, v1, v2, v3, v4, v5] ∧
      DataW.trod enc P w base spare held n f0.type [v0] = some y0 ∧ DataW.trod enc P w base spare held n f1.type [v1] = some y1 ∧ DataW.trod enc P w base spare held n f2.type [v2] = some y2 ∧ DataW.trod enc P w base spare held n f3.type [v3] = some y3 ∧
      DataW.trod enc P w base spare held n f4.type [v4] = some y4 ∧ DataW.trod enc P w base spare held n f5.type [v5] = some y5 := by
  obtain ⟨cs, rfl, hsz⟩ := okWide_struct hs hv
  obtain ⟨c0, c1, c2, c3, c4, c5, rfl⟩ := array6 (hsz.trans hC)
  obtain ⟨fuel, hf⟩ := h
  obtain ⟨y0, y1, y2, y3, y4, y5, n, h0, h1, h2, h3, h4, h5⟩ := trod_struct6 hs hf
  obtain ⟨o0, k0⟩ := hone_of hone 0 f0 rfl
  obtain ⟨o1, k1⟩ := hone_of hone 1 f1 rfl
  obtain ⟨o2, k2⟩ := hone_of hone 2 f2 rfl
  obtain ⟨o3, k3⟩ := hone_of hone 3 f3 rfl
  obtain ⟨o4, k4⟩ := hone_of hone 4 f4 rfl
  obtain ⟨o5, k5⟩ := hone_of hone 5 f5 rfl
  exact ⟨c0, c1, c2, c3, c4, c5, y0, y1, y2, y3, y4, y5, n, rfl, by simpa [Value.cells, o0, k0] using h0, by simpa [Value.cells, o1, k1] using h1, by simpa [Value.cells, o2, k2] using h2, by simpa [Value.cells, o3, k3] using h3, by simpa [Value.cells, o4, k4] using h4, by simpa [Value.cells, o5, k5] using h5⟩
end

set_option maxRecDepth 100000 in
/-- An ask, opened. -/
theorem open_ask {H : Type} {enc : TypeId × Value → H} {W : World} {base b0 : Nat} {spare : Nat → Bool} {held : Bool} {r : Reach} {v : Value} {d : DataW H} {p : List MemPlace}
    (hv : Value.okWide Tryz.prog W r b0 45 v) (h : DataW.Trod enc Tryz.prog W base spare held 45 v d p) :
    ∃ (seq taker to n most : Int) (full : Bool), v = .agg #[.int .u64 seq, .int .u8 taker, .int .u8 to, .int .i64 n, .int .i64 most, .bool full] ∧
      (Lit.int .u64 seq).wf = true ∧ (Lit.int .u8 taker).wf = true ∧ (Lit.int .u8 to).wf = true ∧ (Lit.int .i64 n).wf = true ∧ (Lit.int .i64 most).wf = true := by
  obtain ⟨c0, c1, c2, c3, c4, c5, y0, y1, y2, y3, y4, y5, m, rfl, k0, k1, k2, k3, k4, k5⟩ := open_agg6 Tryz.underlying45 (by kernel_rfl) (by kernel_rfl) hv h
  obtain ⟨a0, e0, _, w0⟩ := DataW.trod_int Tryz.underlying42 k0
  obtain ⟨a1, e1, _, w1⟩ := DataW.trod_int Tryz.underlying43 k1
  obtain ⟨a2, e2, _, w2⟩ := DataW.trod_int Tryz.underlying43 k2
  obtain ⟨a3, e3, _, w3⟩ := DataW.trod_int Tryz.underlying2 k3
  obtain ⟨a4, e4, _, w4⟩ := DataW.trod_int Tryz.underlying2 k4
  obtain ⟨a5, e5, _⟩ := DataW.trod_bool Tryz.underlying4 k5
  refine ⟨a0, a1, a2, a3, a4, a5, ?_, w0, w1, w2, w3, w4⟩
  cases e0; cases e1; cases e2; cases e3; cases e4; cases e5
  rfl


/-! ### Slices of structs that came in -/
theorem flat_at {α : Type} (f : α → List Value) (size : Nat) (hs : ∀ x, (f x).length = size) (l : List α) (k j : Nat) (hk : k < l.length) (hj : j < size) : (l.flatMap f)[k * size + j]? = (f (l[k]'hk))[j]? := by
  induction l generalizing k with
  | nil => simp at hk
  | cons o l ih =>
    cases k with
    | zero =>
      simp only [List.flatMap_cons, Nat.zero_mul, Nat.zero_add, List.getElem_cons_zero]
      rw [List.getElem?_append_left (by rw [hs]; exact hj)]
    | succ k =>
      have h2 : (k + 1) * size = k * size + size := Nat.succ_mul k size
      simp only [List.flatMap_cons, List.getElem_cons_succ]
      rw [List.getElem?_append_right (by rw [hs]; omega), hs, show (k + 1) * size + j - size = k * size + j by omega]
      exact ih k (by simpa using hk)
theorem flat_len {α : Type} (f : α → List Value) (size : Nat) (hs : ∀ x, (f x).length = size) (l : List α) : (l.flatMap f).length = l.length * size := by
  induction l with
  | nil => simp
  | cons o l ih => rw [List.flatMap_cons, List.length_append, ih, hs, List.length_cons, Nat.succ_mul, Nat.add_comm]

theorem addr_at {a : Addr} (h : a.spot = none) (i : Nat) : a.add i = ⟨a.block, a.off + i, none⟩ := by
  unfold Addr.add
  split
  · rename_i hi
    subst hi
    obtain ⟨b, o, s⟩ := a
    simp only at h
    subst h
    rfl
  · rfl

theorem exists_list {α : Type} (q : Nat → α → Prop) : ∀ n : Nat, (∀ i, i < n → ∃ x, q i x) → ∃ l : List α, l.length = n ∧ ∀ i (hi : i < l.length), q i (l[i]'hi)
  | 0, _ => ⟨[], rfl, fun i hi => by simp at hi⟩
  | n + 1, h => by
    obtain ⟨l, hl, hq⟩ := exists_list q n (fun i hi => h i (by omega))
    obtain ⟨x, hx⟩ := h n (by omega)
    refine ⟨l ++ [x], by simp [hl], fun i hi => ?_⟩
    by_cases hi2 : i < l.length
    · rw [List.getElem_append_left hi2]; exact hq i hi2
    · have : i = l.length := by simp at hi; omega
      subst this
      simp
      rw [hl]; exact hx

section
variable {H : Type} {enc : TypeId × Value → H} {P : Program} {w : World} {base : Nat} {spare : Nat → Bool} {held : Bool}

theorem fld_at {t : TypeId} {fs : Array Field} {fuel : Nat} {cs : List Value} {x : DataW H × List MemPlace} (ht : P.underlying t = some (.struct fs)) (h : DataW.trod enc P w base spare held fuel t cs = some x) (i off k : Nat) (u : TypeId)
    (hf : (fs[i]?).map (fun f => (f.type, f.offset)) = some (u, off)) (hc : P.cellsOf u = k) : ∃ n y, DataW.trod enc P w base spare held n u ((cs.drop off).take k) = some y := by
  obtain ⟨xs, n, _, _, _, hlen, hfs⟩ := DataW.trod_struct ht h
  rw [Option.map_eq_some_iff] at hf
  obtain ⟨f, hf, e⟩ := hf
  simp only [Prod.mk.injEq] at e
  obtain ⟨e1, e2⟩ := e
  subst e1 e2 hc
  have hi : i < fs.size := (Array.getElem?_eq_some_iff.1 hf).1
  exact ⟨n, _, (hfs i f hf).trans (List.getElem?_eq_getElem (by omega))⟩

/-- A slice of structs: its elements, and the cells where they lie. -/
theorem open_args {α : Type} (f : α → List Value) (ok : α → Prop) (size : Nat) (hsz : 0 < size) (hs : ∀ x, (f x).length = size) {t e : TypeId} (ht : P.underlying t = some (.slice e)) (hc : P.cellsOf e = size)
    (hop : ∀ n cs y, DataW.trod enc P w base spare held n e cs = some y → ∃ x, cs = f x ∧ ok x) {fuel : Nat} {cs : List Value} {x : DataW H × List MemPlace} (h : DataW.trod enc P w base spare held fuel t cs = some x) :
    ∃ (v : Value) (l : List α), cs = [v] ∧ ArgSl w size v l.length (l.flatMap f) ∧ ∀ x ∈ l, ok x := by
  rcases DataW.trod_slice ht h with ⟨rfl, _⟩ | ⟨a, len, cap, elems, rest, n, _, rfl, _, _, hl, hm, hlen, hel, _, _⟩
  · exact ⟨_, [], rfl, ⟨none, 0, rfl, Nat.le_refl _, by unfold maxLen; omega, by simp, .inl rfl⟩, fun x hx => by simp at hx⟩
  · obtain ⟨l, hll, hq⟩ := exists_list (fun i y => ok y ∧ ∀ j, j < size → w.cell? ((a.add (i * size)).add j) = (f y)[j]?) len (fun i hi => by
      have hb := hel i hi
      rw [hc, List.getElem?_eq_getElem (by omega), Option.bind_eq_some_iff] at hb
      obtain ⟨cs', hcs, hy⟩ := hb
      obtain ⟨y, rfl, hok⟩ := hop _ _ _ hy
      exact ⟨y, hok, fun j hj => (World.cells?_some hcs).2.2 j hj⟩)
    subst hll
    refine ⟨_, l, rfl, ⟨some a, cap, rfl, hl, hm, flat_len f size hs l, ?_⟩, fun y hy => by obtain ⟨i, hi, rfl⟩ := List.getElem_of_mem hy; exact (hq i hi).1⟩
    rcases Nat.eq_zero_or_pos l.length with h0 | h0
    · exact .inl h0
    · have hfirst := (hq 0 h0).2 0 hsz
      rw [Nat.zero_mul] at hfirst
      have hz : (a.add 0).add 0 = a := by simp [Addr.add]
      rw [hz, List.getElem?_eq_getElem (by rw [hs]; exact hsz)] at hfirst
      have hsp : a.spot = none := by
        unfold World.cell? at hfirst
        split at hfirst
        · split at hfirst
          · cases hfirst
          · rename_i hn
            simpa using hn
        · cases hfirst
      have hlt : a.block < w.heap.size := by
        unfold World.cell? at hfirst
        split at hfirst
        · rename_i hh
          exact (Array.getElem?_eq_some_iff.1 hh).1
        · cases hfirst
      refine .inr ⟨a.block, a.off, ?_, hlt, fun j u hu => ?_⟩
      · obtain ⟨b, o, s⟩ := a
        simp only at hsp
        subst hsp
        rfl
      · have hj : j < l.length * size := by
          rw [← flat_len f size hs l]
          exact (List.getElem?_eq_some_iff.1 hu).1
        have hk : j / size < l.length := (Nat.div_lt_iff_lt_mul hsz).2 hj
        have hm' : j % size < size := Nat.mod_lt _ hsz
        have hjj : j / size * size + j % size = j := by rw [Nat.mul_comm]; exact Nat.div_add_mod j size
        have h1 := (hq (j / size) hk).2 (j % size) hm'
        rw [← flat_at f size hs l (j / size) (j % size) hk hm', hjj, hu, addr_at hsp, addr_at (a := ⟨a.block, a.off + j / size * size, none⟩) rfl] at h1
        rw [← h1]
        congr 1
        simp only [Nat.add_assoc, hjj]
end

theorem list5 {α : Type} {cs : List α} (h : cs.length = 5) : ∃ c0 c1 c2 c3 c4, cs = [c0, c1, c2, c3, c4] := by
  match cs, h with
  | [c0, c1, c2, c3, c4], _ => exact ⟨c0, c1, c2, c3, c4, rfl⟩
theorem list7 {α : Type} {cs : List α} (h : cs.length = 7) : ∃ c0 c1 c2 c3 c4 c5 c6, cs = [c0, c1, c2, c3, c4, c5, c6] := by
  match cs, h with
  | [c0, c1, c2, c3, c4, c5, c6], _ => exact ⟨c0, c1, c2, c3, c4, c5, c6, rfl⟩

section
variable {H : Type} {enc : TypeId × Value → H} {w : World} {base : Nat} {spare : Nat → Bool} {held : Bool}

theorem one_int {k : IntKind} {t : TypeId} {n : Nat} {v : Value} {y : DataW H × List MemPlace} (ht : Tryz.prog.underlying t = some (.int k)) (h : DataW.trod enc Tryz.prog w base spare held n t [v] = some y) : ∃ i, v = .int k i ∧ (Lit.int k i).wf = true := by
  obtain ⟨i, e, _, hw⟩ := DataW.trod_int ht h
  cases e
  exact ⟨i, rfl, hw⟩

set_option maxRecDepth 100000 in
theorem open_act {fuel : Nat} {cs : List Value} {x : DataW H × List MemPlace} (h : DataW.trod enc Tryz.prog w base spare held fuel 106 cs = some x) : ∃ a : Act5, cs = a.cells ∧ a.ok := by
  have hu := Tryz.underlying106
  have hl := (DataW.trod_struct hu h).choose_spec.choose_spec.2.2.1
  obtain ⟨c0, c1, c2, c3, c4, rfl⟩ := list5 (hl.trans (by kernel_rfl))
  obtain ⟨_, _, h0⟩ := fld_at hu h 0 0 1 _ rfl (by kernel_rfl)
  obtain ⟨_, _, h1⟩ := fld_at hu h 1 1 1 _ rfl (by kernel_rfl)
  obtain ⟨_, _, h2⟩ := fld_at hu h 2 2 1 _ rfl (by kernel_rfl)
  obtain ⟨_, _, h3⟩ := fld_at hu h 3 3 1 _ rfl (by kernel_rfl)
  obtain ⟨_, _, h4⟩ := fld_at hu h 4 4 1 _ rfl (by kernel_rfl)
  simp only [List.drop_succ_cons, List.drop_zero, List.take_succ_cons, List.take_zero] at h0 h1 h2 h3 h4
  obtain ⟨x0, rfl, w0⟩ := one_int Tryz.underlying5 h0
  obtain ⟨x1, rfl, _⟩ := one_int Tryz.underlying43 h1
  obtain ⟨x2, rfl, _⟩ := one_int Tryz.underlying43 h2
  obtain ⟨x3, rfl, _⟩ := one_int Tryz.underlying56 h3
  obtain ⟨x4, rfl, w4⟩ := one_int Tryz.underlying2 h4
  have b0 := bounds_u8 w0
  have b4 := bounds_i64 w4
  exact ⟨⟨x0, x1, x2, x3, x4⟩, rfl, b0.1, b0.2, b4.2⟩

set_option maxRecDepth 100000 in
theorem open_off {fuel : Nat} {cs : List Value} {x : DataW H × List MemPlace} (h : DataW.trod enc Tryz.prog w base spare held fuel 60 cs = some x) : ∃ a : Off, cs = a.cells ∧ a.in64 := by
  have hu := Tryz.underlying60
  have hl := (DataW.trod_struct hu h).choose_spec.choose_spec.2.2.1
  obtain ⟨c0, c1, c2, c3, c4, c5, c6, rfl⟩ := list7 (hl.trans (by kernel_rfl))
  obtain ⟨_, _, h0⟩ := fld_at hu h 0 0 1 _ rfl (by kernel_rfl)
  obtain ⟨_, _, h1⟩ := fld_at hu h 1 1 1 _ rfl (by kernel_rfl)
  obtain ⟨_, _, h2⟩ := fld_at hu h 2 2 1 _ rfl (by kernel_rfl)
  obtain ⟨_, _, h3⟩ := fld_at hu h 3 3 1 _ rfl (by kernel_rfl)
  obtain ⟨_, _, h4⟩ := fld_at hu h 4 4 1 _ rfl (by kernel_rfl)
  obtain ⟨_, _, hr⟩ := fld_at hu h 5 5 2 _ rfl (by kernel_rfl)
  have hv := Tryz.underlying58
  obtain ⟨_, _, h5⟩ := fld_at hv hr 0 0 1 _ rfl (by kernel_rfl)
  obtain ⟨_, _, h6⟩ := fld_at hv hr 1 1 1 _ rfl (by kernel_rfl)
  simp only [List.drop_succ_cons, List.drop_zero, List.take_succ_cons, List.take_zero] at h0 h1 h2 h3 h4 h5 h6
  obtain ⟨x0, rfl, w0⟩ := one_int Tryz.underlying42 h0
  obtain ⟨x1, rfl, _⟩ := one_int Tryz.underlying43 h1
  obtain ⟨x2, rfl, _⟩ := one_int Tryz.underlying56 h2
  obtain ⟨x3, rfl, _⟩ := one_int Tryz.underlying56 h3
  obtain ⟨x4, rfl, w4⟩ := one_int Tryz.underlying2 h4
  obtain ⟨x5, rfl, w5⟩ := one_int Tryz.underlying2 h5
  obtain ⟨x6, rfl, w6⟩ := one_int Tryz.underlying2 h6
  exact ⟨⟨x0, x1, x2, x3, x4, x5, x6⟩, rfl, (bounds_i64 w5).2, (bounds_i64 w6).2⟩

set_option maxRecDepth 100000 in
/-- A world, opened. -/
theorem open_world {b0 : Nat} {r : Reach} {v : Value} {d : DataW H} {p : List MemPlace} (hv : Value.okWide Tryz.prog w r b0 25 v) (h : DataW.Trod enc Tryz.prog w base spare held 25 v d p) :
    ∃ (va vo : Value) (acts : List Act5) (offs : List Off), v = .agg #[va, vo] ∧ ArgSl w 5 va acts.length (actCells acts) ∧ (∀ x ∈ acts, x.ok) ∧ ArgSl w 7 vo offs.length (offCells offs) ∧ ∀ x ∈ offs, x.in64 := by
  obtain ⟨v0, v1, y0, y1, n, rfl, _, _, k0, k1⟩ := open_agg2 Tryz.underlying25 (by kernel_rfl) (by kernel_rfl) hv h
  obtain ⟨va, acts, e0, ha, hoa⟩ := open_args Act5.cells Act5.ok 5 (by omega) (fun _ => rfl) Tryz.underlying22 (by kernel_rfl) (fun n cs y => open_act) k0
  obtain ⟨vo, offs, e1, ho, hoo⟩ := open_args Off.cells Off.in64 7 (by omega) (fun _ => rfl) Tryz.underlying23 (by kernel_rfl) (fun n cs y => open_off) k1
  cases e0
  cases e1
  exact ⟨v0, v1, acts, offs, rfl, ha, hoa, ho, hoo⟩
end
end Go.Proofs.YtjddfopebpmaeaaGreat
