/- The walk of PlacesWhole: whatever the world and the offer that comes, it answers true. -/
import Derived.Test.YtahdgojcebajkaaGreatWhP
import Derived.Test.YtahdgojcebajkaaGreatStands
import Derived.Test.YtahdgojcebajkaaGreatPLives
namespace Go.Proofs.YtahdgojcebajkaaGreat
open Go.RowKit Go.Rg Go.BigFrame

/-- Not equal?, where a guard lets by. -/
theorem wpList_run_want {P : Program} {ops : Array Oper} {Q : Exit → Act → World → Prop} {rest : List Oper} {o : Oper} {a : Act} {w : World} (ty ty' : TypeId) (x y : Operand) (hop : o.op = .binOp .neq ty x y ty') (hw : Region.wanted o (yielded ops a.tmps) = true) (v v1 v2 : Value) (hx : a.eval x = v1) (hy : a.eval y = v2)
    (hr : (eqGuard .neq ty x y v1 v2).run P w = .ok () w) (hr2 : (binOp .neq ty v1 v2).run P w = .ok v w) (h : wpList P ops Q rest (a.put o.dst v) w) : wpList P ops Q (o :: rest) a w :=
  wpList_want hw fun K hK => by
    unfold Oper.wp execOp
    simp only [hop, hx, hy, Sem.run_bind, Sem.run_pure, Result.andThen_ok, hr, hr2]
    exact hK _ _ h

theorem over64 {X Y A B C D : Int} (h : Y < X) (hX : X = A * W64 + B) (hY : Y = C * W64 + D) (b0 : 0 ≤ B) (b1 : B < W64) (d0 : 0 ≤ D) (d1 : D < W64) : C < A ∨ (A = C ∧ D < B) := by
  rw [W64_eq] at *
  omega

/-- What stands behind what came. -/
structure WX (w : World) (hA hC p m pb p' m' pb' : Nat) (g g' : Option Nat) (L : Led) (B : Bk) (o0 o1 o2 o3 o4 o5 o6 : Int) (W : World) : Prop where
  led : IsLed W p m L
  book : IsBook W pb g B
  led' : IsLed W p' m' L
  book' : IsBook W pb' g' B
  row1 : W.heap[w.heap.size + 1]? = some (.cells #[.int .u64 o0, .int .u8 o1, .int .u8 o2, .int .u8 o3, .int .i64 o4, .int .i64 o5, .int .i64 o6] 32 (0, 0))
  rowA : W.heap[hA]? = some (.cells #[.pointer (some ⟨p, 0, none⟩), .pointer (some ⟨pb, 0, none⟩)] 38 (0, 0))
  rowC : W.heap[hC]? = some (.cells #[.pointer (some ⟨p', 0, none⟩), .pointer (some ⟨pb', 0, none⟩)] 38 (0, 0))
  ex : Ext w W
theorem WX.ext {w : World} {hA hC p m pb p' m' pb' : Nat} {g g' : Option Nat} {L : Led} {B : Bk} {o0 o1 o2 o3 o4 o5 o6 : Int} {W W' : World} (h : WX w hA hC p m pb p' m' pb' g g' L B o0 o1 o2 o3 o4 o5 o6 W) (k : Ext W W') :
    WX w hA hC p m pb p' m' pb' g g' L B o0 o1 o2 o3 o4 o5 o6 W' :=
  ⟨h.led.ext k, h.book.ext k, h.led'.ext k, h.book'.ext k, k.at h.row1, k.at h.rowA, k.at h.rowC, Ext.trans h.ex k⟩



set_option maxRecDepth 100000 in
set_option maxHeartbeats 51200000 in
theorem pwhole_any (va vo : Value) (acts : List Act5) (offs : List Off) (w : World) (ha : ArgSl w 5 va acts.length (actCells acts)) (hoa : ∀ x ∈ acts, x.ok) (ho : ArgSl w 7 vo offs.length (offCells offs)) (hoo : ∀ x ∈ offs, x.in64)
    (o0 o1 o2 o3 o4 o5 o6 : Int) (b3 : o4 ≤ 9223372036854775807) (b1 : o5 ≤ 9223372036854775807) (b2 : o6 ≤ 9223372036854775807) :
    Calls Tryz.prog 5 #[.agg #[va, vo], .agg #[.int .u64 o0, .int .u8 o1, .int .u8 o2, .int .u8 o3, .int .i64 o4, .int .i64 o5, .int .i64 o6]] w (Ret (.bool true) w) := by
  have hgr := fun w' (k : Ext w w') => great10_any va vo acts offs w' (ha.ext k) (ho.ext k)
  have hmd := fun w' (k : Ext w w') => made10_any va vo acts offs w' (ha.ext k) hoa (ho.ext k) hoo
  obtain ⟨Aa, capa, rfl, _⟩ := ha
  obtain ⟨A, cap, rfl, _⟩ := ho
  clear hoa hoo
  have hb := heap_alloc_top w (.cells #[.slice Aa acts.length capa, .slice A offs.length cap] 25)
  have eb := ext_alloc w (.cells #[.slice Aa acts.length capa, .slice A offs.length cap] 25)
  have sb := size_alloc w (.cells #[.slice Aa acts.length capa, .slice A offs.length cap] 25)
  have hr := heap_alloc_top (w.alloc (.cells #[.slice Aa acts.length capa, .slice A offs.length cap] 25)) (.cells #[.int .u64 o0, .int .u8 o1, .int .u8 o2, .int .u8 o3, .int .i64 o4, .int .i64 o5, .int .i64 o6] 32)
  have er := ext_alloc (w.alloc (.cells #[.slice Aa acts.length capa, .slice A offs.length cap] 25)) (.cells #[.int .u64 o0, .int .u8 o1, .int .u8 o2, .int .u8 o3, .int .i64 o4, .int .i64 o5, .int .i64 o6] 32)
  rw [sb] at hr
  have hb := er.at hb
  have E0 := Ext.trans eb er
  clear eb er sb
  have c00 := cell_at (j := 0) hb rfl
  have c01 := cell_at (j := 1) hb rfl
  go_enter Tryz.func5, Tryz.ntmps5
  go_wp2_with fail
  refine (hgr _ E0).mono ?_
  rintro e w1 ⟨rfl, e1⟩
  have E1 := Ext.trans E0 e1
  have hb1 := e1.at hb
  have hr1 := e1.at hr
  clear c00 c01 hgr hb hr e1 E0
  have c00 := cell_at (j := 0) hb1 rfl
  have c01 := cell_at (j := 1) hb1 rfl
  generalize (decide (120 < acts.length) || decide (40 < offs.length)) = gr at *
  cases gr with
  | true =>
    clear hmd
    go_wp2_with fail
    refine (lives12_any _).mono ?_
    rintro e w2 ⟨rfl, e2⟩
    go_wp2
    go_ret
    exact ⟨rfl, Ext.trans E1 e2⟩
  | false =>
    go_wp2_with fail
    refine (hmd _ E1).mono ?_
    rintro e w2 ⟨⟨p, m, pb, g, rfl, e2, hL, hB, hp1, hm1, hpb1, hg1⟩, hwf, hok⟩
    have hsl := seqLt_made offs
    clear hmd c00 c01 hb1 hp1 hm1 hpb1 hg1
    generalize madeL acts = L at *
    generalize madeB offs = B at *
    have E2 := Ext.trans E1 e2
    have hr2 := e2.at hr1
    have hz2 := heap_alloc_top w2 (.cells #[.pointer none, .pointer none] 38)
    have ez2 := ext_alloc w2 (.cells #[.pointer none, .pointer none] 38)
    go_wp2_with (first
      | (refine wpList_load_at rfl 38 _ _ _ rfl rfl ldh ?_)
      | (refine wpList_row rfl rfl 38 _ _ rfl w2.heap.size _ rfl rfl 38 _ hz2 (by kernel_rfl) (by rfl) (by rfl) ?_
         intro w3 hb3 ho3 hs3
         have e3 : Ext w2 w3 := hb3 _ _ (Nat.le_refl _) ez2
         have ldh := run_loadVar_row (P := Tryz.prog) w3 w2.heap.size _ 38 _ _ _ hs3 Tryz.underlying38 rfl (by kernel_rfl)))
    have hL3 := hL.ext e3
    have hB3 := hB.ext e3
    have hr3 := e3.at hr2
    have E3 := Ext.trans E2 e3
    obtain ⟨hA, hhA⟩ : ∃ hA, hA = w2.heap.size := ⟨_, rfl⟩
    rw [← hhA] at hs3 ldh ⊢
    clear hhA
    refine (hcopy_any p m pb g L B w3 hL3 hB3).mono ?_
    rintro e w4 ⟨p', m', pb', g', rfl, e4, hL', hB', _, _, _, _⟩
    clear ldh hz2 ez2 hb3 ho3 hr1 hr2 hL hB e2 E1 E2
    have hz4 := heap_alloc_top w4 (.cells #[.pointer none, .pointer none] 38)
    have ez4 := ext_alloc w4 (.cells #[.pointer none, .pointer none] 38)
    have hs34 := e4.at hs3
    go_wp2_with (first
      | (refine wpList_load_at rfl 38 _ _ _ rfl rfl ldh ?_)
      | (refine wpList_load_at rfl 32 _ _ _ rfl rfl ldo ?_)
      | (refine wpList_row rfl rfl 38 _ _ rfl w4.heap.size _ rfl rfl 38 _ hz4 (by kernel_rfl) (by rfl) (by rfl) ?_
         intro w5 hb5 ho5 hs5
         have e5 : Ext w4 w5 := hb5 _ _ (Nat.le_refl _) ez4
         have HI := Lib.hid (show WX w hA w4.heap.size p m pb p' m' pb' g g' L B o0 o1 o2 o3 o4 o5 o6 w5 from
           ⟨hL3.ext (Ext.trans e4 e5), hB3.ext (Ext.trans e4 e5), hL'.ext e5, hB'.ext e5, e5.at (e4.at hr3), e5.at hs34, hs5, Ext.trans E3 (Ext.trans e4 e5)⟩)
         have ldh := run_loadVar_row (P := Tryz.prog) _ hA _ 38 _ _ _ HI.out.rowA Tryz.underlying38 rfl (by kernel_rfl)
         have ldo := run_loadVar_row (P := Tryz.prog) _ (w.heap.size + 1) _ 32 _ _ _ HI.out.row1 Tryz.underlying32 rfl (by kernel_rfl)))
    obtain ⟨hC, hhC⟩ : ∃ hC, hC = w4.heap.size := ⟨_, rfl⟩
    rw [← hhC] at HI ⊢
    clear hL3 hB3 hr3 hs3 E3 hL' hB' e4 hs34 hz4 ez4 hb5 ho5 hs5 e5 hhC
    have hcm := come_any p m pb g L B ⟨o0, o1, o2, o3, o4, o5, o6⟩ w5 HI.out.led HI.out.book hwf hok hsl.1 b1 b2 b3
    have hch := fun h0 => come_ok (L := L) (B := B) (o := ⟨o0, o1, o2, o3, o4, o5, o6⟩) hwf hok hsl h0
    have HRQ := Lib.hid (come_bad (L := L) (B := B) (o := ⟨o0, o1, o2, o3, o4, o5, o6⟩))
    generalize comeR L B ⟨o0, o1, o2, o3, o4, o5, o6⟩ = r at *
    obtain ⟨re, rq, rL, rB, rf⟩ := r
    simp only at hch
    refine hcm.mono ?_
    rintro e w6 ⟨hv, av, rfl, e6, hbad, hgood⟩
    simp only at hbad hgood
    have HI := Lib.hid (HI.out.ext e6)
    clear ldo hcm ldh e6
    have hz6 := heap_alloc_top w6 (.cells #[.pointer none, .pointer none] 38)
    have ez6 := ext_alloc w6 (.cells #[.pointer none, .pointer none] 38)
    by_cases hre : re = 0
    · subst hre
      obtain ⟨B1, left, ⟨k1, k2, k3, k4, k5, k6, hwf2, k8, k9, k10, k11, k12, k13, k14⟩⟩ := hch rfl
      try simp only at k1
      try simp only at k2
      try simp only at k3
      try simp only at k4
      try simp only at k11
      try simp only at k14
      try simp only at hwf2
      obtain ⟨p2, m2, pb2, g2, rfl, hL2, hB2, hsl2⟩ := hgood rfl
      have hoff := chain_offs hok hsl.1 k1
      have hlim := chain_lims k1
      have hmr := (offOk_rat k12).2.2
      unfold offOk at k12
      rw [decide_eq_true_eq] at k12
      simp only at k12 hmr
      have hmr2 := hmr
      unfold mayR at hmr2
      rw [decide_eq_true_eq] at hmr2
      obtain ⟨rt1, rt2, _, rt3, rt4⟩ := hmr2
      have hgg : o3 ≠ o2 := by omega
      have hnum : ∀ f ∈ rf, 1 ≤ f.2.2.2.1 ∧ f.2.2.2.1 ≤ 1099511627776 ∧ 1 ≤ f.2.2.2.2 ∧ f.2.2.2.2 ≤ 1099511627776 := fun f hf => by
        obtain ⟨o, _, _, _, _, _, _, hfa⟩ := hoff f hf
        exact ⟨hfa.g1, hfa.g2, hfa.h1, hfa.h2⟩
      have hgb := sum_bd (fun f => f.2.2.2.2) rf (fun f hf => by have := hnum f hf; constructor <;> (try simp only) <;> omega)
      have hgv : givenS rf = gvS rf := givenS_eq (fun f hf => by have := hnum f hf; omega) (by unfold gvS; omega)
      have hgiver := chain_giver (fr := o1) hgg k1 (fun f hf => (k2 f hf).1)
      rw [← hgv] at hgiver k4
      have hgv0 : 0 ≤ givenS rf := by rw [hgv]; unfold gvS; omega
      have hpos := fun (q c : Int) (h1 : q ≠ o1) h3 => chain_pos (c := c) h1 h1 hsl.1 k1 k2 h3
      have HPOS := Lib.hid hpos
      have HGIVER := Lib.hid hgiver
      have HNUM := Lib.hid hnum
      have HOFF := Lib.hid hoff
      have HOVER := Lib.hid k3
      have HLIM := Lib.hid hlim
      have HFT := Lib.hid k2
      have HLE := Lib.hid k4
      have HFIN := Lib.hid k14
      have HMR := Lib.hid hmr
      have HB1 := Lib.hid k9
      have HNX := Lib.hid k10
      have HBW := Lib.hid hB2
      obtain ⟨av1, avc, rfl, hsl1⟩ := hsl2
      have KS := Lib.hid (show SlAt w6 w5.heap.size 5 (.slice av1 rf.length avc) rf.length (flCells rf) from ⟨_, _, rfl, hsl1⟩)
      have HRF := Lib.hid k11
      clear hbad hgood hch k1 k2 k3 k4 k6 k8 k9 k10 k11 k13 k14 hoff hlim hnum hgb hgv hgiver hpos hsl1 hgg hmr hB2
      go_wp2_with (refine wpList_row rfl rfl 38 _ _ rfl w6.heap.size _ rfl rfl 38 _ hz6 (by kernel_rfl) (by rfl) (by rfl) ?_; intro w7 hb7 ho7 hs7; have e7 : Ext w6 w7 := hb7 _ _ (Nat.le_refl _) ez6)
      have HI := Lib.hid (HI.out.ext e7)
      obtain ⟨hE, hhE⟩ : ∃ hE, hE = w6.heap.size := ⟨_, rfl⟩
      rw [← hhE] at hs7 ⊢
      clear hz6 ez6 hb7 ho7 hhE
      refine wp_region_all waiter [2, 5, 6, 7, 8, 9, 10, 11, 12, 13, 14, 15, 16, 17] (by kernel_rfl) (by kernel_rfl) ?_
      intro w1 hw1
      have x0 : ∀ u : ExtOf w1, u.to.cell? ⟨hA, 0, none⟩ = _ := fun u => cell_at (j := 0) ((Ext.trans hw1 u.h).at HI.out.rowA) rfl
      have y0 : ∀ u : ExtOf w1, u.to.cell? ⟨hC, 0, none⟩ = _ := fun u => cell_at (j := 0) ((Ext.trans hw1 u.h).at HI.out.rowC) rfl
      simp only [heads, List.take_succ_cons, List.take_zero, List.contains_cons, List.contains_nil, Nat.reduceBEq, Bool.or_false, Bool.false_eq_true, Nat.reduceAdd, Bool.or_true, Bool.true_or, ↓reduceIte, Bool.or_self]
      repeat (go_big_quiet_step (fail))
      refine wpQuiet_nil ?_
      clear x0 y0
      refine wpX_callf 2 25 _ #[.pointer (some ⟨p, 0, none⟩)] _ (by rfl) _ _ (by rfl) Tryz.func25 rfl rfl (by kernel_rfl) (by rfl) (by kernel_rfl) (by decide) ?_
      intro v4 h04 h4
      refine (lines_any p m L v4 (HI.out.led.ext h04) hwf).mono ?_
      rintro e v5 ⟨va, rfl, e5, howna⟩
      refine ⟨_, rfl, Ext.trans h04 e5, ?_⟩
      refine wpX_callf 5 25 _ #[.pointer (some ⟨p', 0, none⟩)] _ (by rfl) _ _ (by rfl) Tryz.func25 rfl rfl (by kernel_rfl) (by rfl) (by kernel_rfl) (by decide) ?_
      intro v6 h06 h6
      refine (lines_any p' m' L v6 (HI.out.led'.ext h06) hwf).mono ?_
      rintro e v7 ⟨vb, rfl, e7, hownb⟩
      refine ⟨_, rfl, Ext.trans h06 e7, ?_⟩
      refine wpX_callf 6 24 _ #[va, vb] _ (by rfl) _ _ (by rfl) Tryz.func24 rfl rfl (by kernel_rfl) (by rfl) (by kernel_rfl) (by decide) ?_
      intro v8 h08 h8
      refine (sameLines_any v4.heap.size v6.heap.size va vb (linesR L.lines) v8 (SlAt.of_own (own_ext howna (Ext.trans h6 (Ext.trans e7 h8)))) (SlAt.of_own (own_ext hownb h8))).mono ?_
      rintro e v9 ⟨rfl, e9⟩
      refine ⟨_, rfl, Ext.trans h08 e9, ?_⟩
      have h09 := Ext.trans h08 e9
      clear howna hownb h4 e5 h6 e7 h8 e9 h04 h06 h08
      refine wpX_again_all waiter 7 [11, 14, 15, 16, 17] 5 (by kernel_rfl) h09 ?_
      intro w1 hw1
      simp only [Act.put, List.getElem_toArray, List.getElem_cons_succ, List.getElem_cons_zero, List.setIfInBounds_toArray, List.set_cons_zero, List.set_cons_succ]
      have x1 : ∀ u : ExtOf w1, u.to.cell? ⟨hA, 1, none⟩ = _ := fun u => cell_at (j := 1) ((Ext.trans h09 (Ext.trans hw1 u.h)).at HI.out.rowA) rfl
      have y1 : ∀ u : ExtOf w1, u.to.cell? ⟨hC, 1, none⟩ = _ := fun u => cell_at (j := 1) ((Ext.trans h09 (Ext.trans hw1 u.h)).at HI.out.rowC) rfl
      simp only [heads, List.take_succ_cons, List.take_zero, List.drop_succ_cons, List.drop_zero, List.contains_cons, List.contains_nil, Nat.reduceBEq, Bool.or_false, Bool.false_eq_true, Nat.reduceAdd, Bool.or_true, Bool.true_or, ↓reduceIte, Bool.or_self]
      repeat (go_big_quiet_step (fail))
      refine wpQuiet_nil ?_
      clear x1 y1
      refine wpX_callg 11 27 _ #[.pointer (some ⟨pb, 0, none⟩)] _ (by rfl) _ _ (by rfl) Tryz.func27 rfl rfl (by kernel_rfl) (by rfl) (by kernel_rfl) (by decide) ?_
      intro v10 h010 h10
      refine (ball_any pb g B v10 (HI.out.book.ext (Ext.trans h09 h010))).mono ?_
      rintro e v11 ⟨vc, rfl, e11, hsc⟩
      refine ⟨_, rfl, Ext.trans h010 e11, ?_⟩
      refine wpX_callg 14 27 _ #[.pointer (some ⟨pb', 0, none⟩)] _ (by rfl) _ _ (by rfl) Tryz.func27 rfl rfl (by kernel_rfl) (by rfl) (by kernel_rfl) (by decide) ?_
      intro v12 h012 h12
      refine (ball_any pb' g' B v12 (HI.out.book'.ext (Ext.trans h09 h012))).mono ?_
      rintro e v13 ⟨vd, rfl, e13, hsd⟩
      refine ⟨_, rfl, Ext.trans h012 e13, ?_⟩
      refine wpX_callg 15 26 _ #[vc, vd] _ (by rfl) _ _ (by rfl) Tryz.func26 rfl rfl (by kernel_rfl) (by rfl) (by kernel_rfl) (by decide) ?_
      intro v14 h014 h14
      refine (sameOffers_any v10.heap.size v12.heap.size vc vd B.offs v14 (hsc.ext (Ext.trans h12 (Ext.trans e13 h14))) (hsd.ext h14)).mono ?_
      rintro e v15 ⟨rfl, e15⟩
      refine ⟨_, rfl, Ext.trans h014 e15, ?_⟩
      have h015 := Ext.trans h014 e15
      have h0F := Ext.trans h09 h015
      clear hsc hsd h10 e11 h12 e13 h14 e15 h010 h012 h014 h09
      refine wpX_again_all waiter 16 [] 0 (by kernel_rfl) h015 ?_
      intro w1 hw1
      simp only [Act.put, List.getElem_toArray, List.getElem_cons_succ, List.getElem_cons_zero, List.setIfInBounds_toArray, List.set_cons_zero, List.set_cons_succ]
      simp only [heads, List.take_succ_cons, List.take_zero, List.drop_succ_cons, List.drop_zero, List.contains_cons, List.contains_nil, Nat.reduceBEq, Bool.or_false, Bool.false_eq_true, Nat.reduceAdd, Bool.or_true, Bool.true_or, ↓reduceIte, Bool.or_self]
      repeat (go_big_quiet_step (fail))
      refine wpQuiet_nil ?_
      refine wpX_done (by kernel_rfl) ?_
      intro w8 e8 e8'
      try simp only [Act.put, List.getElem_toArray, List.getElem_cons_succ, List.getElem_cons_zero, List.setIfInBounds_toArray, List.set_cons_zero, List.set_cons_succ]
      have e8 := Ext.trans h0F e8
      clear h0F h015
      have HI := Lib.hid (HI.out.ext e8)
      have hs8 := e8.at hs7
      have hL8 := hL2.ext (Ext.trans e7 e8)
      have HBW := Lib.hid (HBW.out.ext (Ext.trans e7 e8))
      have KS := Lib.hid (KS.out.ext (Ext.trans e7 e8))
      have a1 := cell_at (j := 1) HI.out.row1 rfl
      have hl64 : decide ((64 : Int) < (rf.length : Int)) = false := by have := HRF.out; simp; omega
      have q1 : decide ((16 : Int) < o1) = false := by simp; omega
      clear hL2 e7 e8 hs7
      have r1 : (0 : Int) ≤ o1 := by omega
      have r2 : o1 < 17 := by omega
      have hfrN : o1.toNat < 17 := by omega
      go_wp2_with (refine wpList_newrow rfl 64 rfl (.cells #[.bool false, .bool false, .bool false, .bool false, .bool false, .bool false, .bool false, .bool false, .bool false, .bool false, .bool false, .bool false, .bool false, .bool false, .bool false, .bool false, .bool false] 64) _ rfl (by go_simp) ?_
                   intro W9 ep hp0'
                   have hp0 : W9.heap[w8.heap.size]? = some (.cells ((List.replicate 17 false).map Value.bool).toArray 64 (0, 0)) := hp0'
                   have n0 := part_cell W9 w8.heap.size o1.toNat _ hp0 (by simpa using hfrN)
                   have n1 := frozen_of_row W9 w8.heap.size o1.toNat _ _ hp0
                   have hp2 := part_row W9 w8.heap.size o1.toNat _ hp0
                   have HI9 := Lib.hid (HI.out.ext ep)
                   have hr9 := HI9.out.row1
                   have a1 := cell_at (j := 1) hr9 rfl)
      have hqq : ∀ (g' j : Nat) (v : Value) (W : World), Ext w8 W → w8.heap.size ≤ g' → Ext w8 (W.setCell ⟨g', j, none⟩ v) := fun g' j v W k hg => Below.setCell k (p := ⟨g', j, none⟩) hg _
      have EA := hqq w8.heap.size o1.toNat (.bool true) _ ep (Nat.le_refl _)
      obtain ⟨hP, hhP⟩ : ∃ hP, hP = w8.heap.size := ⟨_, rfl⟩
      have HP8 := Lib.hid hhP
      have HQQ := Lib.hid hqq
      rw [← hhP] at EA hp2 ⊢
      have hpl2 : ((List.replicate 17 false).set o1.toNat true).length = 17 := by simp
      have hpt0 : ∀ q : Nat, q ≤ 16 → ((List.replicate 17 false).set o1.toNat true).getD q false = false → (q : Int) ≠ o1 := fun q hq h => by
        rw [List.getD_eq_getElem?_getD, List.getElem?_set] at h
        simp only [List.length_replicate] at h
        intro e
        have e1 : o1.toNat = q := by omega
        rw [if_pos e1, if_pos (by omega)] at h
        simp at h
      generalize W9.setCell ⟨hP, o1.toNat, none⟩ (.bool true) = wA at *
      generalize (List.replicate 17 false).set o1.toNat true = pt0 at *
      have HPT0 := Lib.hid hpt0
      have HPA := Lib.hid hp2
      clear hhP hqq hpt0 n0 n1 hp0 hp0' hp2 HI9 hr9 a1 ep
      go_loopw [12, 13, 14, 15, 16, 17, 18, 19] (fun iv _ _ _ _ _ _ _ wr => ∃ (k : Nat) (pt : List Bool), k ≤ rf.length ∧ iv = .int .i64 k ∧ pt.length = 17 ∧ Ext w8 wr ∧ wr.heap[hP]? = some (.cells (pt.map Value.bool).toArray 64 (0, 0)) ∧
        (∀ q : Nat, q ≤ 16 → pt.getD q false = false → (q : Int) ≠ o1 ∧ ∀ f ∈ rf.take k, ∀ o, findR B.offs f.1 = some o → o.owner ≠ q)) (fun iv _ _ _ _ _ _ _ _ => rf.length - (intOf iv).toNat)
      case atStart => exact ⟨0, pt0, Nat.zero_le _, rfl, hpl2, EA, HPA.out, fun q hq h => ⟨HPT0.out q hq h, by simp⟩⟩
      case round =>
        obtain ⟨k, pt, hk, rfl, hpl, er, hprow, hpq⟩ := hrel
        by_cases hkn : k < rf.length
        · have hfm := List.getElem_mem hkn
          obtain ⟨o, ho1, ho2, ho3, ho4, ho5, ho6, hfair⟩ := HOFF.out _ hfm
          obtain ⟨o', ho1', hov⟩ := HOVER.out _ hfm
          rw [ho1] at ho1'
          injection ho1' with ho1'
          subst ho1'
          have hoo := (offOk_rat (hok o (findR_mem ho1).1)).2.2
          have hfo := fill_over (o := ⟨o0, o1, o2, o3, o4, o5, o6⟩) HMR.out hoo hfair hov
          obtain ⟨ht1, ht2⟩ := HFT.out _ hfm
          obtain ⟨ng1, ng2, ng3, ng4⟩ := HNUM.out _ hfm
          have htk : rf.take (k + 1) = rf.take k ++ [rf[k]'hkn] := List.take_succ_eq_append_getElem hkn
          obtain ⟨A1, cap1, h1, h2', h3', _, h4⟩ := KS.out
          injection h1 with h1 _ h1c
          subst h1
          subst h1c
          rcases h4 with h4 | ⟨ga, rfl, hga, hgl, hca⟩
          · omega
          have hlf : ∀ W, Ext w8 W → (loadVar 66 ⟨ga, k * 5, none⟩).run Tryz.prog W = .ok (Fagg (rf[k]'hkn)) W := fun W q => load_fl W ga k rf hkn (fun j u hu => by rw [cell_block (q.block hgl)]; exact hca j u hu)
          have HTK := Lib.hid htk
          generalize (rf[k]'hkn) = f at *
          obtain ⟨seq, taker, too, got, given⟩ := f
          simp only at ho1 ht1 ht2 ng1 ng2 ng3 ng4 ho4 hfo hfair
          simp only [Fagg] at hlf
          have ht1 := ht1.symm
          have ht2 := ht2.symm
          subst ht1 ht2
          obtain ⟨oseq, own, sell, buy, lft, num, den⟩ := o
          simp only at ho2 ho3 ho4 ho5 ho6 hoo hfo hfair
          have ho2 := ho2.symm
          have ho3 := ho3.symm
          subst ho2 ho3
          have hmb := hoo
          unfold mayR at hmb
          rw [decide_eq_true_eq] at hmb
          have hib : (invR o5 o6).1 ≤ 9223372036854775807 ∧ (invR o5 o6).2 ≤ 9223372036854775807 := by unfold invR; split <;> simp only <;> omega
          have hinv := fun w => inverse_any o5 o6 w b1 b2
          have hcmp := fun w => rcompare_x num den (invR o5 o6).1 (invR o5 o6).2 w (by omega) (by omega) hib.1 hib.2
          unfold overR at hov
          simp only at hov
          generalize invR o5 o6 = iv at *
          obtain ⟨mn, md⟩ := iv
          simp only [rat] at hinv hcmp hov
          generalize cmpR num den mn md = cv at *
          have HO1 := Lib.hid ho1
          have HPQ := Lib.hid hpq
          have hfq := fun W (q : Ext w8 W) => find_any pb' g' B seq W (HI.out.book'.ext q)
          have hfv : findV (findR B.offs seq) = .tuple #[.agg #[.int .u64 oseq, .int .u8 own, .int .u8 o3, .int .u8 o2, .int .i64 lft, .int .i64 num, .int .i64 den], .bool true] := by rw [ho1]; rfl
          rw [hfv] at hfq
          obtain ⟨X, wa, wb, hXe, hXs, hX1, hX2⟩ := split64' (got * o6)
          obtain ⟨Y, wc, wd, hYe, hYs, hY1, hY2⟩ := split64' ((given - 1) * o5)
          have hcs := over64 (X := X) (Y := Y) (by rw [hXe, hYe]; exact hfo) hXs hYs hX1 hX2 hY1 hY2
          have m1 := fun w => mul64_any got o6 wa wb w (by omega) (by rw [W64_eq]; omega) (by omega) (by rw [W64_eq]; omega) (hXe.symm.trans hXs) hX1 hX2
          have m2 := fun w => mul64_any (given - 1) o5 wc wd w (by omega) (by rw [W64_eq]; omega) (by omega) (by rw [W64_eq]; omega) (hYe.symm.trans hYs) hY1 hY2
          have M1 := Lib.hid m1
          have M2 := Lib.hid m2
          have d1 : decide ((16 : Int) < own) = false := by simp; omega
          have d2 : (own == o1) = false := by simpa using ho4
          have d3 : decide (got < 1) = false := by simp; omega
          have d4 : decide (given < 1) = false := by simp; omega
          have hk1 : (0 : Int) ≤ (k : Int) := by omega
          have hk2 : (k : Int) < (rf.length : Int) := by omega
          have hk3 : decide ((k : Int) < (rf.length : Int)) = true := by simpa using hkn
          have hk64 : (k : Int) ≤ 64 := by have := HRF.out; omega
          have hzr := heap_alloc_top wr (.cells #[.int .u64 0, .int .u8 0, .int .u8 0, .int .i64 0, .int .i64 0] 66)
          have ezr := ext_alloc wr (.cells #[.int .u64 0, .int .u8 0, .int .u8 0, .int .i64 0, .int .i64 0] 66)
          have hltP : hP < wr.heap.size := lt_of_heap hprow
          have HFO := Lib.hid (And.intro hfair hfo)
          have HHM := Lib.hid (And.intro hmb hoo)
          have HCS := Lib.hid hcs
          clear hfm htk hca ho1 hpq hfv m1 m2 hXe hXs hX1 hX2 hYe hYs hY1 hY2 X Y hfo hfair hoo hmb hib hcs
          go_wp2_with (first
            | (refine wpList_load_at rfl 66 _ _ _ rfl rfl (hlf _ er) ?_)
            | (refine wpList_row rfl rfl 66 _ _ rfl wr.heap.size _ rfl rfl 66 _ hzr (by kernel_rfl) (by rfl) (by rfl) ?_
               intro u1 hbu hou hsu
               have eu : Ext wr u1 := hbu _ _ (Nat.le_refl _) ezr
               have fq := cell_at (j := 0) hsu rfl
               have cc1 := cell_at (j := 1) ((Ext.trans er eu).at HI.out.rowC) rfl))
          refine (hfq _ (Ext.trans er eu)).mono ?_
          rintro e u2 ⟨rfl, e2⟩
          have hzo := heap_alloc_top u2 (.cells #[.int .u64 0, .int .u8 0, .int .u8 0, .int .u8 0, .int .i64 0, .int .i64 0, .int .i64 0] 32)
          have ezo := ext_alloc u2 (.cells #[.int .u64 0, .int .u8 0, .int .u8 0, .int .u8 0, .int .i64 0, .int .i64 0, .int .i64 0] 32)
          clear fq cc1
          go_wp2_with (refine wpList_row rfl rfl 32 _ _ rfl u2.heap.size _ rfl rfl 32 _ hzo (by kernel_rfl) (by rfl) (by rfl) ?_; intro u3 hbo hoo hso; have eo : Ext u2 u3 := hbo _ _ (Nat.le_refl _) ezo)
          have e03 := Ext.trans er (Ext.trans eu (Ext.trans e2 eo))
          have hf3 := (Ext.trans e2 eo).at hsu
          have hpr3 := (Ext.trans eu (Ext.trans e2 eo)).at hprow
          have hltO : hP < u2.heap.size := by have := eu.size; have := e2.size; omega
          obtain ⟨hF, hhF⟩ : ∃ hF, hF = wr.heap.size := ⟨_, rfl⟩
          obtain ⟨hO, hhO⟩ : ∃ hO, hO = u2.heap.size := ⟨_, rfl⟩
          rw [← hhF] at hf3 hltP ⊢
          rw [← hhO] at hso hltO ⊢
          clear hhF hhO hsu hbu hou hbo hoo hzo ezo hzr ezr eu e2 eo hfq hlf
          refine wp_region_all waiter [] (by kernel_rfl) (by kernel_rfl) ?_
          intro w1 hw1
          have x1 : ∀ u : ExtOf w1, u.to.cell? ⟨hF, 1, none⟩ = _ := fun u => cell_at (j := 1) ((Ext.trans hw1 u.h).at hf3) rfl
          have x2 : ∀ u : ExtOf w1, u.to.cell? ⟨hF, 2, none⟩ = _ := fun u => cell_at (j := 2) ((Ext.trans hw1 u.h).at hf3) rfl
          have x3 : ∀ u : ExtOf w1, u.to.cell? ⟨hF, 3, none⟩ = _ := fun u => cell_at (j := 3) ((Ext.trans hw1 u.h).at hf3) rfl
          have x4 : ∀ u : ExtOf w1, u.to.cell? ⟨hF, 4, none⟩ = _ := fun u => cell_at (j := 4) ((Ext.trans hw1 u.h).at hf3) rfl
          have z1 : ∀ u : ExtOf w1, u.to.cell? ⟨hO, 1, none⟩ = _ := fun u => cell_at (j := 1) ((Ext.trans hw1 u.h).at hso) rfl
          have z2 : ∀ u : ExtOf w1, u.to.cell? ⟨hO, 2, none⟩ = _ := fun u => cell_at (j := 2) ((Ext.trans hw1 u.h).at hso) rfl
          have z3 : ∀ u : ExtOf w1, u.to.cell? ⟨hO, 3, none⟩ = _ := fun u => cell_at (j := 3) ((Ext.trans hw1 u.h).at hso) rfl
          have z5 : ∀ u : ExtOf w1, u.to.cell? ⟨hO, 5, none⟩ = _ := fun u => cell_at (j := 5) ((Ext.trans hw1 u.h).at hso) rfl
          have z6 : ∀ u : ExtOf w1, u.to.cell? ⟨hO, 6, none⟩ = _ := fun u => cell_at (j := 6) ((Ext.trans hw1 u.h).at hso) rfl
          have y1 : ∀ u : ExtOf w1, u.to.cell? ⟨w.heap.size + 1, 1, none⟩ = _ := fun u => cell_at (j := 1) ((Ext.trans e03 (Ext.trans hw1 u.h)).at HI.out.row1) rfl
          have y2 : ∀ u : ExtOf w1, u.to.cell? ⟨w.heap.size + 1, 2, none⟩ = _ := fun u => cell_at (j := 2) ((Ext.trans e03 (Ext.trans hw1 u.h)).at HI.out.row1) rfl
          have y3 : ∀ u : ExtOf w1, u.to.cell? ⟨w.heap.size + 1, 3, none⟩ = _ := fun u => cell_at (j := 3) ((Ext.trans e03 (Ext.trans hw1 u.h)).at HI.out.row1) rfl
          have y5 : ∀ u : ExtOf w1, u.to.cell? ⟨w.heap.size + 1, 5, none⟩ = _ := fun u => cell_at (j := 5) ((Ext.trans e03 (Ext.trans hw1 u.h)).at HI.out.row1) rfl
          have y6 : ∀ u : ExtOf w1, u.to.cell? ⟨w.heap.size + 1, 6, none⟩ = _ := fun u => cell_at (j := 6) ((Ext.trans e03 (Ext.trans hw1 u.h)).at HI.out.row1) rfl
          simp only [heads, List.take_succ_cons, List.take_zero, List.contains_cons, List.contains_nil, Nat.reduceBEq, Bool.or_false, Bool.false_eq_true, Nat.reduceAdd, Bool.or_true, Bool.true_or, ↓reduceIte, Bool.or_self]
          repeat (go_big_quiet_step ((first | (go_at_call 19; exact Ret.cls (hinv _)) | (go_at_call 18; exact Ret.cls (hcmp _)))))
          refine wpQuiet_nil ?_
          refine wpX_done (by kernel_rfl) ?_
          intro w9 e9 e9'
          try simp only [Act.put, List.getElem_toArray, List.getElem_cons_succ, List.getElem_cons_zero, List.setIfInBounds_toArray, List.set_cons_zero, List.set_cons_succ]
          clear x1 x2 x3 x4 y1 y2 y3 y5 y6 z1 z2 z3 z5 z6 hw1 hinv hcmp hov
          have e09 := Ext.trans e03 e9
          have hs9 := e9.at hso
          have hf9 := e9.at hf3
          have hpr9 := e9.at hpr3
          have hownN : own.toNat < pt.length := by omega
          have a1 := cell_at (j := 1) hs9 rfl
          have n0 := part_cell w9 hP own.toNat pt hpr9 hownN
          have n1 := frozen_of_row w9 hP own.toNat _ _ hpr9
          have hp2 := part_row w9 hP own.toNat pt hpr9
          have e10 : Ext w8 (w9.setCell ⟨hP, own.toNat, none⟩ (.bool true)) := HQQ.out hP own.toNat (.bool true) w9 e09 (by rw [HP8.out]; exact Nat.le_refl _)
          have kp : Keep [hP] w9 (w9.setCell ⟨hP, own.toNat, none⟩ (.bool true)) := (Keep.refl _ _).setCell (Or.inl (by simp)) _
          have hfS := kp.at hf9 (by simp; omega)
          have f3 := cell_at (j := 3) hfS rfl
          have y6 := cell_at (j := 6) (e10.at HI.out.row1) rfl
          have v5 : (0 : Int) ≤ own := by omega
          have v6 : own < 17 := by omega
          have HPN := Lib.hid (show ∀ q : Nat, q ≤ 16 → (pt.set own.toNat true).getD q false = false → (q : Int) ≠ o1 ∧ ∀ f ∈ rf.take (k + 1), ∀ o, findR B.offs f.1 = some o → o.owner ≠ q from fun q hq h => by
            have hne : own.toNat ≠ q := by
              intro e
              rw [List.getD_eq_getElem?_getD, List.getElem?_set, if_pos e, if_pos (by omega)] at h
              simp at h
            have h' : pt.getD q false = false := by
              rw [List.getD_eq_getElem?_getD, List.getElem?_set, if_neg hne] at h
              rw [List.getD_eq_getElem?_getD]; exact h
            obtain ⟨t1, t2⟩ := HPQ.out q hq h'
            refine ⟨t1, fun f hf o ho => ?_⟩
            rw [HTK.out] at hf
            rcases List.mem_append.1 hf with hf | hf
            · exact t2 f hf o ho
            · rw [List.mem_singleton.1 hf, HO1.out] at ho
              injection ho with ho
              rw [← ho]
              simp only
              omega)
          have HEND := Lib.hid (show ∃ pt' : List Bool, pt'.length = 17 ∧ Ext w8 (w9.setCell ⟨hP, own.toNat, none⟩ (.bool true)) ∧ (w9.setCell ⟨hP, own.toNat, none⟩ (.bool true)).heap[hP]? = some (.cells (pt'.map Value.bool).toArray 64 (0, 0)) ∧
              ∀ q : Nat, q ≤ 16 → pt'.getD q false = false → (q : Int) ≠ o1 ∧ ∀ f ∈ rf.take (k + 1), ∀ o, findR B.offs f.1 = some o → o.owner ≠ q from
            ⟨pt.set own.toNat true, by rw [List.length_set]; exact hpl, e10, hp2, HPN.out⟩)
          have HFS := Lib.hid hfS
          have hkk : k + 1 ≤ rf.length := by omega
          clear HPN HTK HPQ HO1 e03 hpr3 hf3 hso e9 e09 hs9 hpr9 hp2 hltP hltO hownN d1 d2 d3 d4 kp hfS hf9
          go_wp2_with fail
          refine (M1.out _).mono ?_
          rintro e v1 ⟨rfl, ev1⟩
          have f4 := cell_at (j := 4) (ev1.at HFS.out) rfl
          have y5 := cell_at (j := 5) ((Ext.trans e10 ev1).at HI.out.row1) rfl
          clear f3 y6 a1 n0 n1
          go_wp2_with fail
          refine (M2.out _).mono ?_
          rintro e v2 ⟨rfl, ev2⟩
          have HE2 := Lib.hid (Ext.trans ev1 ev2)
          clear f4 y5 ev1 ev2 e10
          rcases HCS.out with hcs | ⟨hcs1, hcs2⟩
          · as_aux_lemma =>
              have t1 : decide (wa < wc) = false := by simp; omega
              have t2 : (wa == wc) = false := by rw [beq_eq_false_iff_ne]; omega
              clear hcs
              go_wp2_with fail
              obtain ⟨pt', s1, s2, s3, s4⟩ := HEND.out
              exact ⟨⟨k + 1, pt', hkk, by go_num, s1, Ext.trans s2 HE2.out, HE2.out.at s3, s4⟩, by simp [intOf]; omega⟩
          · as_aux_lemma =>
              have t1 : decide (wa < wc) = false := by simp; omega
              have t2 : (wa == wc) = true := by simpa using hcs1
              have t3 : decide (wb ≤ wd) = false := by simp; omega
              clear hcs1 hcs2
              go_wp2_with fail
              obtain ⟨pt', s1, s2, s3, s4⟩ := HEND.out
              exact ⟨⟨k + 1, pt', hkk, by go_num, s1, Ext.trans s2 HE2.out, HE2.out.at s3, s4⟩, by simp [intOf]; omega⟩
        · have hk' : k = rf.length := by omega
          subst hk'
          have hk3 : decide ((rf.length : Int) < (rf.length : Int)) = false := by simp
          rw [List.take_length] at hpq
          have HPQ := Lib.hid hpq
          have HPL := Lib.hid hpl
          clear hpq hpl
          go_wp2_with fail
          refine (given_any w5.heap.size _ rf wr HRF.out (KS.out.ext er)).mono ?_
          rintro e w10 ⟨rfl, e10⟩
          have e10' := Ext.trans er e10
          have hpr := e10.at hprow
          have hle := HLE.out
          obtain ⟨gv, hgve⟩ : ∃ gv, gv = givenS rf := ⟨_, rfl⟩
          rw [← hgve] at hgv0 hle ⊢
          have HGV := Lib.hid hgve
          clear hgve
          rcases HFIN.out with ⟨hl0, hq0, hrB⟩ | ⟨hl1, hq0, hrB, hlen⟩
          · as_aux_lemma =>
              subst hq0
              have hgo : o4 = gv := by omega
              subst hgo
              clear hle hl0 hrB HFIN HLE
              have wE : w10 = w10 := rfl
              have eE := e10'
              have a4 := cell_at (j := 4) (eE.at HI.out.row1) rfl
              have l0 := cell_at (j := 0) (eE.at hs8) rfl
              have l1 := cell_at (j := 1) (eE.at hs8) rfl
              have l2 := cell_at (j := 0) (eE.at HI.out.rowC) rfl
              have l3 := cell_at (j := 1) (eE.at HI.out.rowC) rfl
              have ldp := part_load w10 hP pt HPL.out hpr
              clear wE
              go_wp2_with (refine wpList_load_want 64 _ _ _ (by kernel_rfl) rfl rfl ldp ?_)
              refine (even_any p2 m2 p' m' _ _ rL L pt _ (hL8.ext eE) hwf2 (HI.out.led'.ext eE) hwf HLIM.out HPL.out (fun c _ _ => sumP_zero hwf2 c) (fun q c h1 h2 _ _ h3 => by
                obtain ⟨t1, t3⟩ := HPQ.out q h2 h3
                exact HPOS.out q c t1 (fun f hf o ho e => t3 f hf o ho e))).mono ?_
              rintro e wF ⟨rfl, eF⟩
              have eF' := Ext.trans eE eF
              clear a4 l0 l1 l2 l3 ldp
              have b0 := cell_at (j := 0) (eF'.at hs8) rfl
              have b1 := cell_at (j := 0) (eF'.at HI.out.rowC) rfl
              have b2 := cell_at (j := 1) (eF'.at HI.out.row1) rfl
              have b3 := cell_at (j := 2) (eF'.at HI.out.row1) rfl
              go_wp2_with fail
              refine (moved_any p2 m2 p' m' rL L o1 o2 _ wF (hL8.ext eF') hwf2 (HI.out.led'.ext eF') hwf ?_).mono ?_
              · rw [HGIVER.out, HGV.out]
              rintro e wG ⟨rfl, eG⟩
              clear b0 b1 b2 b3
              go_wp2_with fail
              refine (lives12_any _).mono ?_
              rintro e wH ⟨rfl, eH⟩
              go_wp2
              go_ret
              exact ⟨rfl, Ext.trans HI.out.ex (Ext.trans eF' (Ext.trans eG eH))⟩
          · subst hq0
            have hn0 := HI.out.book.made
            have hnt := HBW.out.top
            rw [hrB] at hnt
            simp only at hnt
            have hq0' : decide (0 < B.next) = true := by simpa using hn0
            have hq1' : (B.next == 0) = false := by rw [beq_eq_false_iff_ne]; omega
            have hl1' : (left == 0) = false := by rw [beq_eq_false_iff_ne]; omega
            have hsm : wrap64 (gv + left) = o4 := by unfold wrap64; omega
            have hgv1 : gv ≤ 1099511627776 := by omega
            clear hle
            have hsq1 : ∀ o ∈ B1.offs, o.seq < B.next := fun o ho => by have := HB1.out.2 o ho; have := HNX.out; omega
            have hfp := (find_placed hsq1 (x := ⟨B.next, o1, o2, o3, left, o5, o6⟩) rfl).1
            have hBE := HBW.out.ext e10'
            rw [hrB] at hBE
            have hfd := find_any pb2 g2 _ B.next w10 hBE
            simp only at hfd
            rw [hfp] at hfd
            simp only [findV, Off.agg] at hfd
            have l1 := cell_at (j := 1) (e10'.at hs8) rfl
            clear hfp hsq1 HFIN HLE hrB
            go_wp2_with fail
            refine hfd.mono ?_
            rintro e w11 ⟨rfl, e11⟩
            have hz11 := heap_alloc_top w11 (.cells #[.int .u64 0, .int .u8 0, .int .u8 0, .int .u8 0, .int .i64 0, .int .i64 0, .int .i64 0] 32)
            have ez11 := ext_alloc w11 (.cells #[.int .u64 0, .int .u8 0, .int .u8 0, .int .u8 0, .int .i64 0, .int .i64 0, .int .i64 0] 32)
            clear l1 hfd hBE
            go_wp2_with (first
              | (refine wpList_row rfl rfl 32 _ _ rfl w11.heap.size _ rfl rfl 32 _ hz11 (by kernel_rfl) (by rfl) (by rfl) ?_
                 intro w12 hb12 ho12 hs12
                 have e12 : Ext w11 w12 := hb12 _ _ (Nat.le_refl _) ez11
                 have e12' := Ext.trans e10' (Ext.trans e11 e12)
                 have c4 := cell_at (j := 4) hs12 rfl
                 have l3 := cell_at (j := 1) (e12'.at HI.out.rowC) rfl))
            refine (bnext_any pb' g' B w12 (HI.out.book'.ext e12')).mono ?_
            rintro e w13 ⟨rfl, e13⟩
            have eE := Ext.trans e12' e13
            have hprE := (Ext.trans (Ext.trans e11 e12) e13).at hpr
            have hs13 := e13.at hs12
            clear c4 l3
            have ldx := run_loadVar_row (P := Tryz.prog) _ w11.heap.size _ 32 _ _ _ hs13 Tryz.underlying32 rfl (by kernel_rfl)
            have ldr : (loadVar 30 ⟨w.heap.size + 1, 5, none⟩).run Tryz.prog w13 = .ok (.agg #[.int .i64 o5, .int .i64 o6]) w13 :=
              run_loadVar_part w13 (w.heap.size + 1) 5 30 [.int .i64 o5, .int .i64 o6] _ (fun j v hv => by
                match j, hv with
                | 0, hv => simp only [List.getElem?_cons_zero, Option.some.injEq] at hv; subst hv; exact cell_at (j := 5) (eE.at HI.out.row1) rfl
                | 1, hv => simp only [List.getElem?_cons_succ, List.getElem?_cons_zero, Option.some.injEq] at hv; subst hv; exact cell_at (j := 6) (eE.at HI.out.row1) rfl
                | j + 2, hv => simp at hv) Tryz.underlying30 rfl (by kernel_rfl)
            have a1 := cell_at (j := 1) (eE.at HI.out.row1) rfl
            have a2 := cell_at (j := 2) (eE.at HI.out.row1) rfl
            have a3 := cell_at (j := 3) (eE.at HI.out.row1) rfl
            have a4 := cell_at (j := 4) (eE.at HI.out.row1) rfl
            have l0 := cell_at (j := 0) (eE.at hs8) rfl
            have l1 := cell_at (j := 1) (eE.at hs8) rfl
            have l2 := cell_at (j := 0) (eE.at HI.out.rowC) rfl
            have l3 := cell_at (j := 1) (eE.at HI.out.rowC) rfl
            have ldp := part_load w13 hP pt HPL.out hprE
            go_wp2_with (first
              | (refine wpList_load_want 32 _ _ _ (by kernel_rfl) rfl rfl ldx ?_)
              | (refine wpList_load_want 30 _ _ _ (by kernel_rfl) rfl rfl ldr ?_)
              | (refine wpList_run_want 32 32 _ _ rfl (by kernel_rfl) (.bool false) (.agg #[.int .u64 B.next, .int .u8 o1, .int .u8 o2, .int .u8 o3, .int .i64 left, .int .i64 o5, .int .i64 o6]) (.agg #[.int .u64 B.next, .int .u8 o1, .int .u8 o2, .int .u8 o3, .int .i64 left, .int .i64 o5, .int .i64 o6]) rfl rfl ?hr (neq_off B.next o1 o2 o3 left o5 o6 _) ?_; (case hr => go_simp))
              | (refine wpList_load_want 64 _ _ _ (by kernel_rfl) rfl rfl ldp ?_))
            clear a1 a2 a3 ldx ldr
            refine (even_any p2 m2 p' m' _ _ rL L pt _ (hL8.ext eE) hwf2 (HI.out.led'.ext eE) hwf HLIM.out HPL.out (fun c _ _ => sumP_zero hwf2 c) (fun q c h1 h2 _ _ h3 => by
              obtain ⟨t1, t3⟩ := HPQ.out q h2 h3
              exact HPOS.out q c t1 (fun f hf o ho e => t3 f hf o ho e))).mono ?_
            rintro e wF ⟨rfl, eF⟩
            have eF' := Ext.trans eE eF
            clear a4 l0 l1 l2 l3 ldp
            have b0 := cell_at (j := 0) (eF'.at hs8) rfl
            have b1 := cell_at (j := 0) (eF'.at HI.out.rowC) rfl
            have b2 := cell_at (j := 1) (eF'.at HI.out.row1) rfl
            have b3 := cell_at (j := 2) (eF'.at HI.out.row1) rfl
            go_wp2_with fail
            refine (moved_any p2 m2 p' m' rL L o1 o2 _ wF (hL8.ext eF') hwf2 (HI.out.led'.ext eF') hwf ?_).mono ?_
            · rw [HGIVER.out, HGV.out]
            rintro e wG ⟨rfl, eG⟩
            clear b0 b1 b2 b3
            go_wp2_with fail
            refine (lives12_any _).mono ?_
            rintro e wH ⟨rfl, eH⟩
            go_wp2
            go_ret
            exact ⟨rfl, Ext.trans HI.out.ex (Ext.trans eF' (Ext.trans eG eH))⟩
    · have hre' : (re == 0) = false := by simpa using hre
      obtain ⟨rfl, rfl⟩ := hbad hre
      have hre2 : (re != 0) = true := by simp [bne, hre']
      have hrq : rq = 0 := HRQ.out hre
      subst hrq
      clear hch hgood hbad hre HRQ
      go_wp2_with (refine wpList_row rfl rfl 38 _ _ rfl w6.heap.size _ rfl rfl 38 _ hz6 (by kernel_rfl) (by rfl) (by rfl) ?_; intro w7 hb7 ho7 hs7; have e7 : Ext w6 w7 := hb7 _ _ (Nat.le_refl _) ez6)
      have HI := Lib.hid (HI.out.ext e7)
      clear hz6 ez6 hb7 ho7 hs7 e7
      refine wp_region_all waiter [2, 5, 6, 7, 8, 9, 10, 11, 12, 13, 14, 15, 16, 17] (by kernel_rfl) (by kernel_rfl) ?_
      intro w1 hw1
      have x0 : ∀ u : ExtOf w1, u.to.cell? ⟨hA, 0, none⟩ = _ := fun u => cell_at (j := 0) ((Ext.trans hw1 u.h).at HI.out.rowA) rfl
      have y0 : ∀ u : ExtOf w1, u.to.cell? ⟨hC, 0, none⟩ = _ := fun u => cell_at (j := 0) ((Ext.trans hw1 u.h).at HI.out.rowC) rfl
      simp only [heads, List.take_succ_cons, List.take_zero, List.contains_cons, List.contains_nil, Nat.reduceBEq, Bool.or_false, Bool.false_eq_true, Nat.reduceAdd, Bool.or_true, Bool.true_or, ↓reduceIte, Bool.or_self]
      repeat (go_big_quiet_step (fail))
      refine wpQuiet_nil ?_
      clear x0 y0
      refine wpX_callf 2 25 _ #[.pointer (some ⟨p, 0, none⟩)] _ (by rfl) _ _ (by rfl) Tryz.func25 rfl rfl (by kernel_rfl) (by rfl) (by kernel_rfl) (by decide) ?_
      intro v4 h04 h4
      refine (lines_any p m L v4 (HI.out.led.ext h04) hwf).mono ?_
      rintro e v5 ⟨va, rfl, e5, howna⟩
      refine ⟨_, rfl, Ext.trans h04 e5, ?_⟩
      refine wpX_callf 5 25 _ #[.pointer (some ⟨p', 0, none⟩)] _ (by rfl) _ _ (by rfl) Tryz.func25 rfl rfl (by kernel_rfl) (by rfl) (by kernel_rfl) (by decide) ?_
      intro v6 h06 h6
      refine (lines_any p' m' L v6 (HI.out.led'.ext h06) hwf).mono ?_
      rintro e v7 ⟨vb, rfl, e7, hownb⟩
      refine ⟨_, rfl, Ext.trans h06 e7, ?_⟩
      refine wpX_callf 6 24 _ #[va, vb] _ (by rfl) _ _ (by rfl) Tryz.func24 rfl rfl (by kernel_rfl) (by rfl) (by kernel_rfl) (by decide) ?_
      intro v8 h08 h8
      refine (sameLines_any v4.heap.size v6.heap.size va vb (linesR L.lines) v8 (SlAt.of_own (own_ext howna (Ext.trans h6 (Ext.trans e7 h8)))) (SlAt.of_own (own_ext hownb h8))).mono ?_
      rintro e v9 ⟨rfl, e9⟩
      refine ⟨_, rfl, Ext.trans h08 e9, ?_⟩
      have h09 := Ext.trans h08 e9
      clear howna hownb h4 e5 h6 e7 h8 e9 h04 h06 h08
      refine wpX_again_all waiter 7 [11, 14, 15, 16, 17] 5 (by kernel_rfl) h09 ?_
      intro w1 hw1
      simp only [Act.put, List.getElem_toArray, List.getElem_cons_succ, List.getElem_cons_zero, List.setIfInBounds_toArray, List.set_cons_zero, List.set_cons_succ]
      have x1 : ∀ u : ExtOf w1, u.to.cell? ⟨hA, 1, none⟩ = _ := fun u => cell_at (j := 1) ((Ext.trans h09 (Ext.trans hw1 u.h)).at HI.out.rowA) rfl
      have y1 : ∀ u : ExtOf w1, u.to.cell? ⟨hC, 1, none⟩ = _ := fun u => cell_at (j := 1) ((Ext.trans h09 (Ext.trans hw1 u.h)).at HI.out.rowC) rfl
      simp only [heads, List.take_succ_cons, List.take_zero, List.drop_succ_cons, List.drop_zero, List.contains_cons, List.contains_nil, Nat.reduceBEq, Bool.or_false, Bool.false_eq_true, Nat.reduceAdd, Bool.or_true, Bool.true_or, ↓reduceIte, Bool.or_self]
      repeat (go_big_quiet_step (fail))
      refine wpQuiet_nil ?_
      clear x1 y1
      refine wpX_callg 11 27 _ #[.pointer (some ⟨pb, 0, none⟩)] _ (by rfl) _ _ (by rfl) Tryz.func27 rfl rfl (by kernel_rfl) (by rfl) (by kernel_rfl) (by decide) ?_
      intro v10 h010 h10
      refine (ball_any pb g B v10 (HI.out.book.ext (Ext.trans h09 h010))).mono ?_
      rintro e v11 ⟨vc, rfl, e11, hsc⟩
      refine ⟨_, rfl, Ext.trans h010 e11, ?_⟩
      refine wpX_callg 14 27 _ #[.pointer (some ⟨pb', 0, none⟩)] _ (by rfl) _ _ (by rfl) Tryz.func27 rfl rfl (by kernel_rfl) (by rfl) (by kernel_rfl) (by decide) ?_
      intro v12 h012 h12
      refine (ball_any pb' g' B v12 (HI.out.book'.ext (Ext.trans h09 h012))).mono ?_
      rintro e v13 ⟨vd, rfl, e13, hsd⟩
      refine ⟨_, rfl, Ext.trans h012 e13, ?_⟩
      refine wpX_callg 15 26 _ #[vc, vd] _ (by rfl) _ _ (by rfl) Tryz.func26 rfl rfl (by kernel_rfl) (by rfl) (by kernel_rfl) (by decide) ?_
      intro v14 h014 h14
      refine (sameOffers_any v10.heap.size v12.heap.size vc vd B.offs v14 (hsc.ext (Ext.trans h12 (Ext.trans e13 h14))) (hsd.ext h14)).mono ?_
      rintro e v15 ⟨rfl, e15⟩
      refine ⟨_, rfl, Ext.trans h014 e15, ?_⟩
      have h015 := Ext.trans h014 e15
      have h0F := Ext.trans h09 h015
      clear hsc hsd h10 e11 h12 e13 h14 e15 h010 h012 h014 h09
      refine wpX_again_all waiter 16 [] 0 (by kernel_rfl) h015 ?_
      intro w1 hw1
      simp only [Act.put, List.getElem_toArray, List.getElem_cons_succ, List.getElem_cons_zero, List.setIfInBounds_toArray, List.set_cons_zero, List.set_cons_succ]
      simp only [heads, List.take_succ_cons, List.take_zero, List.drop_succ_cons, List.drop_zero, List.contains_cons, List.contains_nil, Nat.reduceBEq, Bool.or_false, Bool.false_eq_true, Nat.reduceAdd, Bool.or_true, Bool.true_or, ↓reduceIte, Bool.or_self]
      repeat (go_big_quiet_step (fail))
      refine wpQuiet_nil ?_
      refine wpX_done (by kernel_rfl) ?_
      intro w8 e8 e8'
      try simp only [Act.put, List.getElem_toArray, List.getElem_cons_succ, List.getElem_cons_zero, List.setIfInBounds_toArray, List.set_cons_zero, List.set_cons_succ]
      have e8 := Ext.trans h0F e8
      clear h0F h015
      have E8 := Ext.trans HI.out.ex e8
      go_wp2_with fail
      refine (lives12_any _).mono ?_
      rintro e w9 ⟨rfl, e9⟩
      go_wp2
      go_ret
      exact ⟨rfl, Ext.trans E8 e9⟩
end Go.Proofs.YtahdgojcebajkaaGreat
