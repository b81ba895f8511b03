/- The walk of SwapsBest: whatever the world and the swap, it answers true. SwapsBest's row: whatever the world and the swap, the answer is true. -/
import Derived.Test.YtfhdcemdhihmpaaGreatFirsts
import Derived.Test.YtfhdcemdhihmpaaGreatSLives
import Derived.Test.YtfhdcemdhihmpaaGreatMade
import Derived.Test.YtfhdcemdhihmpaaGreatRows

namespace Go.Proofs.YtfhdcemdhihmpaaGreat
open Go.RowKit Go.Rg Go.BigFrame

theorem chain_wf {get give : Int} {falls : Bool} : ∀ {l : List Fl} {L : Led} {B : Bk} {n m : Int} {L' : Led} {B' : Bk}, WF L → ChainOk get give falls l L B n m L' B' → WF L'
  | [], _, _, _, _, _, _, hw, h => h.1 ▸ hw
  | _ :: _, _, _, _, _, _, _, _, ⟨_, _, _, h1, h2⟩ => chain_wf h1.fill.wf h2

theorem led_ne {w : World} {p m x : Nat} {L : Led} {cs : Array Value} {t : TypeId} {fr : Nat × Nat} (h : IsLed w p m L) (hr : w.heap[x]? = some (.cells cs t fr)) (ht : t ≠ 66) : p ∉ [x] ∧ m ∉ [x] := by
  obtain ⟨es, c, hm, _⟩ := h.map
  refine ⟨fun hx => ?_, fun hx => ?_⟩
  · have : p = x := by simpa using hx
    subst this
    rw [h.row] at hr
    simp only [Option.some.injEq, Obj.cells.injEq] at hr
    exact ht hr.2.1.symm
  · have : m = x := by simpa using hx
    subst this
    rw [hm] at hr
    cases hr
theorem book_ne {w : World} {p x : Nat} {g : Option Nat} {B : Bk} {cs : Array Value} {t : TypeId} {fr : Nat × Nat} (h : IsBook w p g B) (hr : w.heap[x]? = some (.cells cs t fr)) (ht : t ≠ 68) (ht2 : t ≠ 48) : p ∉ [x] ∧ ∀ y, g = some y → y ∉ [x] := by
  obtain ⟨v, hv, hg, hob⟩ := h.row
  refine ⟨fun hx => ?_, fun y hy hx => ?_⟩
  · have : p = x := by simpa using hx
    subst this
    rw [hv] at hr
    simp only [Option.some.injEq, Obj.cells.injEq] at hr
    exact ht hr.2.1.symm
  · have : y = x := by simpa using hx
    subst this
    rcases hob.2 with ⟨rfl, _⟩ | ⟨b, cap, cur, rfl, _, hh, _⟩
    · rw [← hg] at hy; simp [Value.ownBlock] at hy
    · rw [← hg] at hy
      simp only [Value.ownBlock, Option.some.injEq] at hy
      subst hy
      rw [hh] at hr
      simp only [Option.some.injEq, Obj.cells.injEq] at hr
      exact ht2 hr.2.1.symm
theorem SlAt.keepS {S : List Nat} {w w' : World} {base size n : Nat} {v : Value} {xs : List Value} (h : SlAt w base size v n xs) (k : Keep S w w') (hS : ∀ x ∈ S, x < base) : SlAt w' base size v n xs := by
  obtain ⟨A, cap, h0, h1, h2, h3, h4⟩ := h
  refine ⟨A, cap, h0, h1, h2, h3, ?_⟩
  rcases h4 with h4 | ⟨g, h4, h5, h6, h7⟩
  · exact .inl h4
  · exact .inr ⟨g, h4, h5, Nat.lt_of_lt_of_le h6 k.size, fun j u hu => by
      rw [cell_block (k.block g h6 (fun hx => by have := hS g hx; omega))]
      exact h7 j u hu⟩

/-- Numbers rise. -/
def SeqLt (B : Bk) : Prop := SeqN B ∧ ∀ o ∈ B.offs, o.seq < B.next
theorem seqLt_step {B : Bk} (h : SeqLt B) (o : Off) : SeqLt (stepB B o) := by
  unfold stepB placeR
  split
  · exact h
  · split
    · exact h
    · obtain ⟨h1, h2⟩ := h
      refine ⟨?_, fun x hx => ?_⟩
      · unfold SeqN at *
        simp only [List.map_append, List.map_cons, List.map_nil]
        rw [List.nodup_append]
        refine ⟨h1, by simp, fun a ha b hb e => ?_⟩
        obtain ⟨y, hy, rfl⟩ := List.mem_map.1 ha
        have := h2 y hy
        simp at hb
        omega
      · simp only [List.mem_append, List.mem_singleton] at hx
        rcases hx with hx | rfl
        · have := h2 x hx
          simp only
          omega
        · simp only
          omega
theorem seqLt_made (l : List Off) : SeqLt (madeB l) := by
  unfold madeB
  have h0 : SeqLt ⟨[], 1⟩ := ⟨by simp [SeqN], fun o ho => by simp at ho⟩
  generalize (⟨[], 1⟩ : Bk) = B at *
  induction l generalizing B with
  | nil => exact h0
  | cons o l ih => exact ih _ (seqLt_step h0 o)

set_option maxRecDepth 100000 in
set_option maxHeartbeats 6400000 in
theorem sbest_any (va vo : Value) (acts : List Act5) (offs : List Off) (w : World) (ha : ArgSl w 5 va acts.length (actCells acts)) (hoa : ∀ x ∈ acts, x.ok) (ho : ArgSl w 7 vo offs.length (offCells offs)) (hoo : ∀ x ∈ offs, x.in64)
    (fr to get give n most : Int) (hn : n ≤ 9223372036854775807) :
    Calls Tryz.prog 5 #[.agg #[va, vo], .agg #[.int .u8 fr, .int .u8 to, .int .u8 get, .int .u8 give, .int .i64 n, .int .i64 most]] w (Ret (.bool true) w) := by
  have hgr := fun w' (k : Ext w w') => great10_any va vo acts offs w' (ha.ext k) (ho.ext k)
  have hmd := fun w' (k : Ext w w') => made10_any va vo acts offs w' (ha.ext k) hoa (ho.ext k) hoo
  obtain ⟨Aa, capa, rfl, _⟩ := ha
  obtain ⟨A, cap, rfl, _⟩ := ho
  clear hoa hoo
  have hb := heap_alloc_top w (.cells #[.slice Aa acts.length capa, .slice A offs.length cap] 25)
  have eb := ext_alloc w (.cells #[.slice Aa acts.length capa, .slice A offs.length cap] 25)
  have sb := size_alloc w (.cells #[.slice Aa acts.length capa, .slice A offs.length cap] 25)
  have hr := heap_alloc_top (w.alloc (.cells #[.slice Aa acts.length capa, .slice A offs.length cap] 25)) (.cells #[.int .u8 fr, .int .u8 to, .int .u8 get, .int .u8 give, .int .i64 n, .int .i64 most] 60)
  have er := ext_alloc (w.alloc (.cells #[.slice Aa acts.length capa, .slice A offs.length cap] 25)) (.cells #[.int .u8 fr, .int .u8 to, .int .u8 get, .int .u8 give, .int .i64 n, .int .i64 most] 60)
  rw [sb] at hr
  have hb := er.at hb
  have E0 := Ext.trans eb er
  clear eb er sb
  have c00 := cell_at (j := 0) hb rfl
  have c01 := cell_at (j := 1) hb rfl
  go_enter Tryz.func5, Tryz.ntmps5
  go_wp2_with fail
  refine (hgr _ E0).mono ?_
  rintro e w1 ⟨rfl, e1⟩
  have E1 := Ext.trans E0 e1
  have hb1 := e1.at hb
  have hr1 := e1.at hr
  clear c00 c01 hgr hb hr e1 E0
  have c00 := cell_at (j := 0) hb1 rfl
  have c01 := cell_at (j := 1) hb1 rfl
  generalize (decide (120 < acts.length) || decide (40 < offs.length)) = gr at *
  cases gr with
  | true =>
    clear hmd
    go_wp2_with fail
    refine (lives11_any _).mono ?_
    rintro e w2 ⟨rfl, e2⟩
    go_wp2
    go_ret
    exact ⟨rfl, Ext.trans E1 e2⟩
  | false =>
    go_wp2_with fail
    refine (hmd _ E1).mono ?_
    rintro e w2 ⟨⟨p, m, pb, g, rfl, e2, hL, hB, hp1, hm1, hpb1, hg1⟩, hwf, hok⟩
    have hsn := (seqLt_made offs).1
    clear hmd c00 c01 hb1 hp1 hm1 hpb1 hg1
    generalize madeL acts = L at *
    generalize madeB offs = B at *
    have E2 := Ext.trans E1 e2
    have hr2 := e2.at hr1
    have hz2 := heap_alloc_top w2 (.cells #[.pointer none, .pointer none] 35)
    have ez2 := ext_alloc w2 (.cells #[.pointer none, .pointer none] 35)
    go_wp2_with (first
      | (refine wpList_load_at rfl 35 _ _ _ rfl rfl ldh ?_)
      | (refine wpList_row rfl rfl 35 _ _ rfl w2.heap.size _ rfl rfl 35 _ hz2 (by kernel_rfl) (by rfl) (by rfl) ?_
         intro w3 hb3 ho3 hs3
         have e3 : Ext w2 w3 := hb3 _ _ (Nat.le_refl _) ez2
         have hr3 := e3.at hr2
         have a0 := cell_at (j := 0) hr3 rfl
         have a1 := cell_at (j := 1) hr3 rfl
         have a2 := cell_at (j := 2) hr3 rfl
         have a3 := cell_at (j := 3) hr3 rfl
         have a4 := cell_at (j := 4) hr3 rfl
         have a5 := cell_at (j := 5) hr3 rfl
         have ldh := run_loadVar_row (P := Tryz.prog) w3 w2.heap.size _ 35 _ _ _ hs3 Tryz.underlying35 rfl (by kernel_rfl)))
    have E3 := Ext.trans E2 e3
    have hL3 := hL.ext e3
    have hB3 := hB.ext e3
    obtain ⟨hh, hhe⟩ : ∃ hh, hh = w2.heap.size := ⟨_, rfl⟩
    have hhl : w.heap.size + 1 < hh := by have := lt_of_heap hr2; omega
    have h3l : w.heap.size + 1 < w3.heap.size := by have := lt_of_heap hr3; omega
    rw [← hhe] at hs3 ldh ⊢
    have hsw := swap_any p m pb g L B fr to get give n most w3 hL3 hwf hB3 hok hsn hn
    have hch := fun h0 => swap_chain (L := L) (B := B) (fr := fr) (to := to) (get := get) (give := give) (n := n) (most := most) hwf hok hsn h0
    generalize swapR L B fr to get give n most = r at *
    obtain ⟨re, rL, rB, rf⟩ := r
    simp only at hch
    refine hsw.mono ?_
    rintro e w4 ⟨hv, av, rfl, e4, hbad, hgood⟩
    simp only at hbad hgood
    have E4 := Ext.trans E3 e4
    have hr4 := e4.at hr3
    have hs4 := e4.at hs3
    have hL4 := hL3.ext e4
    have hB4 := hB3.ext e4
    clear a0 a1 a2 a3 a4 a5 hsw hz2 ez2 hb3 ho3 hr1 hr2 hr3 hs3 hL hB hL3 hB3 e2 e3 E1 E2 ldh hhe
    have hz4 := heap_alloc_top w4 (.cells #[.pointer none, .pointer none] 35)
    have ez4 := ext_alloc w4 (.cells #[.pointer none, .pointer none] 35)
    by_cases hre : re = 0
    · subst hre
      obtain ⟨k1, k2, k3, k4, k5, k6, _⟩ := hch rfl
      obtain ⟨p', m', pb', g', rfl, hL', hB', hsl⟩ := hgood rfl
      have hne : 0 < rf.length := by
        cases rf with
        | nil => simp [gotS, sumI] at k3; omega
        | cons x l => simp
      have hwf' := chain_wf hwf k1
      obtain ⟨av1, avc, rfl, hsl1⟩ := hsl
      have hsl : SlAt w4 w3.heap.size 5 (.slice av1 rf.length avc) rf.length (flCells rf) := ⟨_, _, rfl, hsl1⟩
      have hlt0 : decide ((0 : Int) < (rf.length : Int)) = true := by simpa using hne
      have KS := Lib.hid hsl
      have KC := Lib.hid k1
      clear hbad hgood hch hsl hsl1 k1 k2 k3 k4
      go_wp2_with (first
        | (refine wpList_row rfl rfl 35 _ _ rfl w4.heap.size _ rfl rfl 35 _ hz4 (by kernel_rfl) (by rfl) (by rfl) ?_
           intro w5 hb5 ho5 hs5
           have e5 : Ext w4 w5 := hb5 _ _ (Nat.le_refl _) ez4
           have hr5 := e5.at hr4
           have hh5 := e5.at hs4
           have a5 := cell_at (j := 5) hr5 rfl
           have f5 := frozen_of_row w5 _ 5 _ _ hr5
           have hr6 := heap_setCell_same w5 (w.heap.size + 1) 5 _ _ (.int .i64 1099511627776) hr5
           have hh6 : (w5.setCell ⟨w.heap.size + 1, 5, none⟩ (.int .i64 1099511627776)).heap[hh]? = _ := (Below.heap_setCell _ ⟨w.heap.size + 1, 5, none⟩ _ _ (by show hh ≠ w.heap.size + 1; omega)).trans hh5
           have hs6 : (w5.setCell ⟨w.heap.size + 1, 5, none⟩ (.int .i64 1099511627776)).heap[w4.heap.size]? = _ := (Below.heap_setCell _ ⟨w.heap.size + 1, 5, none⟩ _ _ (by show w4.heap.size ≠ w.heap.size + 1; have := lt_of_heap hr4; omega)).trans hs5
           have x0 := cell_at (j := 0) hh6 rfl
           have x1 := cell_at (j := 1) hh6 rfl
           have y0 := cell_at (j := 0) hs6 rfl
           have y1 := cell_at (j := 1) hs6 rfl
           have z0 := cell_at (j := 0) hr6 rfl
           have z1 := cell_at (j := 1) hr6 rfl
           have z2 := cell_at (j := 2) hr6 rfl
           have z3 := cell_at (j := 3) hr6 rfl
           have z4 := cell_at (j := 4) hr6 rfl
           have z5 := cell_at (j := 5) hr6 rfl))
      have K6 : Keep [w.heap.size + 1] w5 (w5.setCell ⟨w.heap.size + 1, 5, none⟩ (.int .i64 1099511627776)) := (Keep.refl _ _).setCell (Or.inl (by simp)) _
      have n1 := led_ne (hL4.ext e5) hr5 (by decide)
      have n2 := book_ne (hB4.ext e5) hr5 (by decide) (by decide)
      have n3 := led_ne (hL'.ext e5) hr5 (by decide)
      have n4 := book_ne (hB'.ext e5) hr5 (by decide) (by decide)
      have hs7 : SlAt (w5.setCell ⟨w.heap.size + 1, 5, none⟩ (.int .i64 1099511627776)) w3.heap.size 5 (.slice av1 rf.length avc) rf.length (flCells rf) := SlAt.keepS (KS.out.ext e5) K6 (fun x hx => by simp at hx; omega)
      have E6 : Ext w (w5.setCell ⟨w.heap.size + 1, 5, none⟩ (.int .i64 1099511627776)) := Below.setCell (Ext.trans E4 e5) (p := ⟨w.heap.size + 1, 5, none⟩) (by show w.heap.size ≤ w.heap.size + 1; omega) _
      have hw3 : w.heap.size + 1 < w3.heap.size := h3l
      refine (firsts_any p m pb p' m' pb' g g' L rL B rB rB w3.heap.size _ rf fr to get give n 1099511627776 false _ ((hL4.ext e5).keep K6 n1.1 n1.2) hwf ((hB4.ext e5).keep K6 n2.1 n2.2) hok hsn ((hL'.ext e5).keep K6 n3.1 n3.2) hwf' ((hB'.ext e5).keep K6 n4.1 n4.2) hs7 k5 hn (by decide) (by omega) (by decide) KC.out rfl).mono ?_
      rintro e w7 ⟨rfl, e7⟩
      clear hs7 K6 n1 n2 n3 n4 x0 x1 y0 y1 z0 z1 z2 z3 z4 z5 hr6 hh6 hs6 a5 f5
      go_wp2_with fail
      refine (lives11_any _).mono ?_
      rintro e w8 ⟨rfl, e8⟩
      go_wp2
      go_ret
      exact ⟨rfl, Ext.trans E6 (Ext.trans e7 e8)⟩
    · have hre' : (re == 0) = false := by simpa using hre
      obtain ⟨rfl, rfl⟩ := hbad hre
      have hre2 : (re != 0) = true := by simp [bne, hre']
      clear hch hgood hbad hre
      go_wp2_with (refine wpList_row rfl rfl 35 _ _ rfl w4.heap.size _ rfl rfl 35 _ hz4 (by kernel_rfl) (by rfl) (by rfl) ?_; intro w5 hb5 ho5 hs5; have e5 : Ext w4 w5 := hb5 _ _ (Nat.le_refl _) ez4)
      refine (lives11_any _).mono ?_
      rintro e w6 ⟨rfl, e6⟩
      go_wp2
      go_ret
      exact ⟨rfl, Ext.trans E4 (Ext.trans e5 e6)⟩
end Go.Proofs.YtfhdcemdhihmpaaGreat

namespace Go.Proofs.YtfhdcemdhihmpaaGreat
open Go.Joins Go.Deep Go.WideElems Go.Maps Go.ChangeShapes Go.WideShapes Go.ChangeAt Go.RowKit Go.Rg Go.BigFrame

set_option maxRecDepth 100000 in
/-- An ask for a swap, opened. -/
theorem open_ask11 {H : Type} {enc : TypeId × Value → H} {W : World} {base b0 : Nat} {spare : Nat → Bool} {held : Bool} {r : Reach} {v : Value} {d : DataW H} {p : List MemPlace}
    (hv : Value.okWide Tryz.prog W r b0 60 v) (h : DataW.Trod enc Tryz.prog W base spare held 60 v d p) :
    ∃ (fr to get give n most : Int), v = .agg #[.int .u8 fr, .int .u8 to, .int .u8 get, .int .u8 give, .int .i64 n, .int .i64 most] ∧
      (Lit.int .u8 fr).wf = true ∧ (Lit.int .u8 to).wf = true ∧ (Lit.int .u8 get).wf = true ∧ (Lit.int .u8 give).wf = true ∧ (Lit.int .i64 n).wf = true ∧ (Lit.int .i64 most).wf = true := by
  obtain ⟨c0, c1, c2, c3, c4, c5, y0, y1, y2, y3, y4, y5, m, rfl, k0, k1, k2, k3, k4, k5⟩ := open_agg6 Tryz.underlying60 (by kernel_rfl) (by kernel_rfl) hv h
  obtain ⟨a0, e0, _, w0⟩ := DataW.trod_int Tryz.underlying27 k0
  obtain ⟨a1, e1, _, w1⟩ := DataW.trod_int Tryz.underlying27 k1
  obtain ⟨a2, e2, _, w2⟩ := DataW.trod_int Tryz.underlying44 k2
  obtain ⟨a3, e3, _, w3⟩ := DataW.trod_int Tryz.underlying44 k3
  obtain ⟨a4, e4, _, w4⟩ := DataW.trod_int Tryz.underlying2 k4
  obtain ⟨a5, e5, _, w5⟩ := DataW.trod_int Tryz.underlying2 k5
  refine ⟨a0, a1, a2, a3, a4, a5, ?_, w0, w1, w2, w3, w4, w5⟩
  cases e0; cases e1; cases e2; cases e3; cases e4; cases e5
  rfl

set_option maxRecDepth 100000 in
theorem swapsBest_lifted (os : Os) (started : os.Started) (H : Type) (enc : TypeId × Value → H) :
    ReturnsInHanded {} Tryz.checked os 5 .any (Rows.swapsBestSpec.pre6 enc Tryz.prog Tryz.f5 Rows.swapsBestRow.domain false) (Rows.swapsBestSpec.post enc Tryz.prog Tryz.f5 false true false false) := by
  refine returnsInHanded_of_change (C := Tryz.checked) ownK started (by kernel_rfl) Tryz.func5
    (ChangeSpec.witness6 (enc := enc) (C := Tryz.checked) false ⟨#[], #[.agg #[.slice none 0 0, .slice none 0 0], .agg #[.int .u8 0, .int .u8 0, .int .u8 0, .int .u8 0, .int .i64 0, .int .i64 0]], []⟩ 8 (by kernel_rfl) (by kernel_rfl) (by kernel_rfl) (by kernel_rfl)) ?_
  intro W base args ds gs before hval0 hW hcnd _
  have hval : ∀ (j : Nat) t v, Tryz.f5.params[j]? = some t → args[j]? = some v → Value.okWide Tryz.prog W .any base t v := hval0
  have hW' := hW
  obtain ⟨p, q, hA0, hV, rfl, hfz, hnd⟩ := hW
  have hA : DataW.TrodAll enc Tryz.prog W 0 (fun _ => true) true Tryz.f5.params.toList args.toList ds p := hA0
  rw [Tryz.params5] at hA hval
  obtain ⟨v0, v1, d0, d1, p0, p1, rfl, rfl, rfl, h0, h1⟩ := trodAll_two hA
  obtain ⟨rfl, rfl⟩ := trodVars_none hV
  obtain ⟨va, vo, acts, offs, rfl, ha, hoa, ho, hoo⟩ := open_world (hval 0 25 v0 rfl rfl) h0
  obtain ⟨fr, to, get, give, n, most, rfl, _, _, _, _, wn, _⟩ := open_ask11 (hval 1 60 v1 rfl rfl) h1
  clear hA0 hval0
  simp only [List.append_nil] at hW'
  have hlt : ∀ x ∈ p0 ++ p1, x.block < W.heap.size := fun x hx => by simpa using hW'.lt x hx
  refine (sbest_any va vo acts offs W ha hoa ho hoo fr to get give n most (bounds_i64 wn).2).mono fun e W' ⟨he, hw⟩ => ?_
  subst he
  have bel : Below W.heap.size W W' := hw
  exact ⟨_, rfl, _, _, _, [], p0 ++ p1, [], hW', trodAll_mk1 (shut_bool Tryz.underlying4 true), trodAll_mk2 (Below.trod laidOutK (by kernel_rfl) (of_decide_eq_true (by kernel_rfl)) h0 bel (fun x hx => hlt x (by simp [hx]))) (Below.trod laidOutK (by kernel_rfl) (of_decide_eq_true (by kernel_rfl)) h1 bel (fun x hx => hlt x (by simp [hx]))), rfl, bel.frame _, fun h => by cases h⟩

/-- SwapsBest, whatever the world and the swap: true. -/
theorem swapsBest_holds : Rows.SwapsBestSaid :=
  OpenClaim.holds_of_wide 5 Tryz.f5 rfl rfl rfl rfl rfl rfl rfl ⟨rfl, rfl, rfl, rfl, rfl⟩ rfl rfl rfl rfl rfl (by kernel_rfl) Tryz.func5 (by kernel_rfl)
    (of_decide_eq_true (by kernel_rfl)) (by unfold Func.isWrapper; first | (rw [if_pos (by decide +kernel)]; kernel_rfl) | (rw [if_neg (by decide +kernel)]; exact ⟨rfl, rfl⟩))
    (fun os started H enc _ => swapsBest_lifted os started H enc)

#print axioms swapsBest_holds

end Go.Proofs.YtfhdcemdhihmpaaGreat
