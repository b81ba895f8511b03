/- The walk of SwapsExact: whatever the world and the swap, it answers true. SwapsExact's row: whatever the world and the swap, the answer is true. -/
import Derived.Test.YtahdgojcebajkaaGreatStands
import Derived.Test.YtahdgojcebajkaaGreatSwap5
import Derived.Test.YtahdgojcebajkaaGreatSLives
import Derived.Test.YtahdgojcebajkaaGreatMade
import Derived.Test.YtahdgojcebajkaaGreatRows

namespace Go.Proofs.YtahdgojcebajkaaGreat
open Go.RowKit Go.Rg Go.BigFrame

/-- What stands behind the swap. -/
structure SX (w : World) (hA hC p m pb p' m' pb' : Nat) (g g' : Option Nat) (L : Led) (B : Bk) (fr to get give n most : Int) (W : World) : Prop where
  led : IsLed W p m L
  book : IsBook W pb g B
  led' : IsLed W p' m' L
  book' : IsBook W pb' g' B
  row1 : W.heap[w.heap.size + 1]? = some (.cells #[.int .u8 fr, .int .u8 to, .int .u8 get, .int .u8 give, .int .i64 n, .int .i64 most] 55 (0, 0))
  rowA : W.heap[hA]? = some (.cells #[.pointer (some ⟨p, 0, none⟩), .pointer (some ⟨pb, 0, none⟩)] 38 (0, 0))
  rowC : W.heap[hC]? = some (.cells #[.pointer (some ⟨p', 0, none⟩), .pointer (some ⟨pb', 0, none⟩)] 38 (0, 0))
  ex : Ext w W
theorem SX.ext {w : World} {hA hC p m pb p' m' pb' : Nat} {g g' : Option Nat} {L : Led} {B : Bk} {fr to get give n most : Int} {W W' : World} (h : SX w hA hC p m pb p' m' pb' g g' L B fr to get give n most W) (k : Ext W W') :
    SX w hA hC p m pb p' m' pb' g g' L B fr to get give n most W' :=
  ⟨h.led.ext k, h.book.ext k, h.led'.ext k, h.book'.ext k, k.at h.row1, k.at h.rowA, k.at h.rowC, Ext.trans h.ex k⟩



set_option maxRecDepth 100000 in
set_option maxHeartbeats 12800000 in
theorem sexact_any (va vo : Value) (acts : List Act5) (offs : List Off) (w : World) (ha : ArgSl w 5 va acts.length (actCells acts)) (hoa : ∀ x ∈ acts, x.ok) (ho : ArgSl w 7 vo offs.length (offCells offs)) (hoo : ∀ x ∈ offs, x.in64)
    (fr to get give n most : Int) (hn : n ≤ 9223372036854775807) :
    Calls Tryz.prog 4 #[.agg #[va, vo], .agg #[.int .u8 fr, .int .u8 to, .int .u8 get, .int .u8 give, .int .i64 n, .int .i64 most]] w (Ret (.bool true) w) := by
  have hgr := fun w' (k : Ext w w') => great10_any va vo acts offs w' (ha.ext k) (ho.ext k)
  have hmd := fun w' (k : Ext w w') => made10_any va vo acts offs w' (ha.ext k) hoa (ho.ext k) hoo
  obtain ⟨Aa, capa, rfl, _⟩ := ha
  obtain ⟨A, cap, rfl, _⟩ := ho
  clear hoa hoo
  have hb := heap_alloc_top w (.cells #[.slice Aa acts.length capa, .slice A offs.length cap] 25)
  have eb := ext_alloc w (.cells #[.slice Aa acts.length capa, .slice A offs.length cap] 25)
  have sb := size_alloc w (.cells #[.slice Aa acts.length capa, .slice A offs.length cap] 25)
  have hr := heap_alloc_top (w.alloc (.cells #[.slice Aa acts.length capa, .slice A offs.length cap] 25)) (.cells #[.int .u8 fr, .int .u8 to, .int .u8 get, .int .u8 give, .int .i64 n, .int .i64 most] 55)
  have er := ext_alloc (w.alloc (.cells #[.slice Aa acts.length capa, .slice A offs.length cap] 25)) (.cells #[.int .u8 fr, .int .u8 to, .int .u8 get, .int .u8 give, .int .i64 n, .int .i64 most] 55)
  rw [sb] at hr
  have hb := er.at hb
  have E0 := Ext.trans eb er
  clear eb er sb
  have c00 := cell_at (j := 0) hb rfl
  have c01 := cell_at (j := 1) hb rfl
  go_enter Tryz.func4, Tryz.ntmps4
  go_wp2_with fail
  refine (hgr _ E0).mono ?_
  rintro e w1 ⟨rfl, e1⟩
  have E1 := Ext.trans E0 e1
  have hb1 := e1.at hb
  have hr1 := e1.at hr
  clear c00 c01 hgr hb hr e1 E0
  have c00 := cell_at (j := 0) hb1 rfl
  have c01 := cell_at (j := 1) hb1 rfl
  generalize (decide (120 < acts.length) || decide (40 < offs.length)) = gr at *
  cases gr with
  | true =>
    clear hmd
    go_wp2_with fail
    refine (lives11_any _).mono ?_
    rintro e w2 ⟨rfl, e2⟩
    go_wp2
    go_ret
    exact ⟨rfl, Ext.trans E1 e2⟩
  | false =>
    go_wp2_with fail
    refine (hmd _ E1).mono ?_
    rintro e w2 ⟨⟨p, m, pb, g, rfl, e2, hL, hB, hp1, hm1, hpb1, hg1⟩, hwf, hok⟩
    have hsn := (seqLt_made offs).1
    clear hmd c00 c01 hb1 hp1 hm1 hpb1 hg1
    generalize madeL acts = L at *
    generalize madeB offs = B at *
    have E2 := Ext.trans E1 e2
    have hr2 := e2.at hr1
    have hz2 := heap_alloc_top w2 (.cells #[.pointer none, .pointer none] 38)
    have ez2 := ext_alloc w2 (.cells #[.pointer none, .pointer none] 38)
    go_wp2_with (first
      | (refine wpList_load_at rfl 38 _ _ _ rfl rfl ldh ?_)
      | (refine wpList_row rfl rfl 38 _ _ rfl w2.heap.size _ rfl rfl 38 _ hz2 (by kernel_rfl) (by rfl) (by rfl) ?_
         intro w3 hb3 ho3 hs3
         have e3 : Ext w2 w3 := hb3 _ _ (Nat.le_refl _) ez2
         have ldh := run_loadVar_row (P := Tryz.prog) w3 w2.heap.size _ 38 _ _ _ hs3 Tryz.underlying38 rfl (by kernel_rfl)))
    have hL3 := hL.ext e3
    have hB3 := hB.ext e3
    have hr3 := e3.at hr2
    have E3 := Ext.trans E2 e3
    obtain ⟨hA, hhA⟩ : ∃ hA, hA = w2.heap.size := ⟨_, rfl⟩
    rw [← hhA] at hs3 ldh ⊢
    clear hhA
    refine (hcopy_any p m pb g L B w3 hL3 hB3).mono ?_
    rintro e w4 ⟨p', m', pb', g', rfl, e4, hL', hB', _, _, _, _⟩
    clear ldh hz2 ez2 hb3 ho3 hr1 hr2 hL hB e2 E1 E2
    have hz4 := heap_alloc_top w4 (.cells #[.pointer none, .pointer none] 38)
    have ez4 := ext_alloc w4 (.cells #[.pointer none, .pointer none] 38)
    have hs34 := e4.at hs3
    go_wp2_with (first
      | (refine wpList_load_at rfl 38 _ _ _ rfl rfl ldh ?_)
      | (refine wpList_row rfl rfl 38 _ _ rfl w4.heap.size _ rfl rfl 38 _ hz4 (by kernel_rfl) (by rfl) (by rfl) ?_
         intro w5 hb5 ho5 hs5
         have e5 : Ext w4 w5 := hb5 _ _ (Nat.le_refl _) ez4
         have HI := Lib.hid (show SX w hA w4.heap.size p m pb p' m' pb' g g' L B fr to get give n most w5 from
           ⟨hL3.ext (Ext.trans e4 e5), hB3.ext (Ext.trans e4 e5), hL'.ext e5, hB'.ext e5, e5.at (e4.at hr3), e5.at hs34, hs5, Ext.trans E3 (Ext.trans e4 e5)⟩)
         have ldh := run_loadVar_row (P := Tryz.prog) _ hA _ 38 _ _ _ HI.out.rowA Tryz.underlying38 rfl (by kernel_rfl)
         have a0 := cell_at (j := 0) HI.out.row1 rfl
         have a1 := cell_at (j := 1) HI.out.row1 rfl
         have a2 := cell_at (j := 2) HI.out.row1 rfl
         have a3 := cell_at (j := 3) HI.out.row1 rfl
         have a4 := cell_at (j := 4) HI.out.row1 rfl
         have a5 := cell_at (j := 5) HI.out.row1 rfl))
    obtain ⟨hC, hhC⟩ : ∃ hC, hC = w4.heap.size := ⟨_, rfl⟩
    rw [← hhC] at HI ⊢
    clear hL3 hB3 hr3 hs3 E3 hL' hB' e4 hs34 hz4 ez4 hb5 ho5 hs5 e5 hhC
    have hsw := swap_any p m pb g L B fr to get give n most w5 HI.out.led hwf HI.out.book hok hsn hn
    have hch := fun h0 => swap_chain (L := L) (B := B) (fr := fr) (to := to) (get := get) (give := give) (n := n) (most := most) hwf hok hsn h0
    generalize swapR L B fr to get give n most = r at *
    obtain ⟨re, rL, rB, rf⟩ := r
    simp only at hch
    refine hsw.mono ?_
    rintro e w6 ⟨hv, av, rfl, e6, hbad, hgood⟩
    simp only at hbad hgood
    have HI := Lib.hid (HI.out.ext e6)
    clear a0 a1 a2 a3 a4 a5 hsw ldh e6
    have hz6 := heap_alloc_top w6 (.cells #[.pointer none, .pointer none] 38)
    have ez6 := ext_alloc w6 (.cells #[.pointer none, .pointer none] 38)
    by_cases hre : re = 0
    · subst hre
      obtain ⟨k1, k2, k3, k4, k5, k6, k7, k8, k9⟩ := hch rfl
      obtain ⟨p2, m2, pb2, g2, rfl, hL2, hB2, hsl⟩ := hgood rfl
      have hwf2 := chain_wf' hwf k1
      have hoff := chain_offs hok hsn k1
      have hlim := chain_lims k1
      simp only [Bool.and_eq_true, par16, cur8, amt40, decide_eq_true_eq, Bool.not_eq_true', beq_eq_false_iff_ne, ne_eq] at k7
      obtain ⟨⟨⟨⟨⟨⟨⟨fr1, fr2⟩, ⟨to1, to2⟩⟩, _⟩, _⟩, hgg⟩, ⟨n1, n2⟩⟩, ⟨m1, m2'⟩⟩ := k7
      have hnum : ∀ f ∈ rf, 1 ≤ f.2.2.2.1 ∧ f.2.2.2.1 ≤ 1099511627776 ∧ 1 ≤ f.2.2.2.2 ∧ f.2.2.2.2 ≤ 1099511627776 := fun f hf => by
        obtain ⟨o, _, _, _, _, _, _, hfa⟩ := hoff f hf
        exact ⟨hfa.g1, hfa.g2, hfa.h1, hfa.h2⟩
      have hgb := sum_bd (fun f => f.2.2.2.2) rf (fun f hf => by have := hnum f hf; constructor <;> (try simp only) <;> omega)
      have hgv : givenS rf = gvS rf := givenS_eq (fun f hf => by have := hnum f hf; omega) (by unfold gvS; omega)
      have hgiver := chain_giver (fr := fr) hgg k1 (fun f hf => (k2 f hf).1)
      rw [← hgv] at hgiver
      have hgv0 : 0 ≤ givenS rf := by rw [hgv]; unfold gvS; omega
      have hpos := fun (q c : Int) (h1 : q ≠ fr) (h2 : q ≠ to) h3 => chain_pos (c := c) h1 h2 hsn k1 k2 h3
      have HPOS := Lib.hid hpos
      have HGIVER := Lib.hid hgiver
      have HNUM := Lib.hid hnum
      have HOFF := Lib.hid hoff
      have HLIM := Lib.hid hlim
      have HFT := Lib.hid k2
      have HGOT := Lib.hid k3
      obtain ⟨av1, avc, rfl, hsl1⟩ := hsl
      have KS := Lib.hid (show SlAt w6 w5.heap.size 5 (.slice av1 rf.length avc) rf.length (flCells rf) from ⟨_, _, rfl, hsl1⟩)
      have HRF := Lib.hid k5
      clear hbad hgood hch k1 k2 k3 k5 k8 k9 hoff hlim hnum hgb hgv hgiver hpos hsl1 hgg
      go_wp2_with (refine wpList_row rfl rfl 38 _ _ rfl w6.heap.size _ rfl rfl 38 _ hz6 (by kernel_rfl) (by rfl) (by rfl) ?_; intro w7 hb7 ho7 hs7; have e7 : Ext w6 w7 := hb7 _ _ (Nat.le_refl _) ez6)
      have HI := Lib.hid (HI.out.ext e7)
      obtain ⟨hE, hhE⟩ : ∃ hE, hE = w6.heap.size := ⟨_, rfl⟩
      rw [← hhE] at hs7 ⊢
      clear hz6 ez6 hb7 ho7 hhE
      refine wp_region_all waiter [2, 5, 6, 7, 8, 9, 10, 11, 12, 13, 14, 15, 16, 17] (by kernel_rfl) (by kernel_rfl) ?_
      intro w1 hw1
      have x0 : ∀ u : ExtOf w1, u.to.cell? ⟨hA, 0, none⟩ = _ := fun u => cell_at (j := 0) ((Ext.trans hw1 u.h).at HI.out.rowA) rfl
      have y0 : ∀ u : ExtOf w1, u.to.cell? ⟨hC, 0, none⟩ = _ := fun u => cell_at (j := 0) ((Ext.trans hw1 u.h).at HI.out.rowC) rfl
      simp only [heads, List.contains_cons, List.contains_nil, Nat.reduceBEq, Bool.or_false, Bool.false_eq_true, Nat.reduceAdd, Bool.or_true, ↓reduceIte, Bool.or_self]
      repeat (go_big_quiet_step (fail))
      refine wpQuiet_nil ?_
      clear x0 y0
      refine wpX_callf 2 25 _ #[.pointer (some ⟨p, 0, none⟩)] _ (by rfl) _ _ (by rfl) Tryz.func25 rfl rfl (by kernel_rfl) (by rfl) (by kernel_rfl) (by decide) ?_
      intro v4 h04 h4
      refine (lines_any p m L v4 (HI.out.led.ext h04) hwf).mono ?_
      rintro e v5 ⟨va, rfl, e5, howna⟩
      refine ⟨_, rfl, Ext.trans h04 e5, ?_⟩
      refine wpX_callf 5 25 _ #[.pointer (some ⟨p', 0, none⟩)] _ (by rfl) _ _ (by rfl) Tryz.func25 rfl rfl (by kernel_rfl) (by rfl) (by kernel_rfl) (by decide) ?_
      intro v6 h06 h6
      refine (lines_any p' m' L v6 (HI.out.led'.ext h06) hwf).mono ?_
      rintro e v7 ⟨vb, rfl, e7, hownb⟩
      refine ⟨_, rfl, Ext.trans h06 e7, ?_⟩
      refine wpX_callf 6 24 _ #[va, vb] _ (by rfl) _ _ (by rfl) Tryz.func24 rfl rfl (by kernel_rfl) (by rfl) (by kernel_rfl) (by decide) ?_
      intro v8 h08 h8
      refine (sameLines_any v4.heap.size v6.heap.size va vb (linesR L.lines) v8 (SlAt.of_own (own_ext howna (Ext.trans h6 (Ext.trans e7 h8)))) (SlAt.of_own (own_ext hownb h8))).mono ?_
      rintro e v9 ⟨rfl, e9⟩
      refine ⟨_, rfl, Ext.trans h08 e9, ?_⟩
      have h09 := Ext.trans h08 e9
      clear howna hownb h4 e5 h6 e7 h8 e9 h04 h06 h08
      refine wpX_again_all waiter 7 [11, 14, 15, 16, 17] 5 (by kernel_rfl) h09 ?_
      intro w1 hw1
      simp only [Act.put, List.getElem_toArray, List.getElem_cons_succ, List.getElem_cons_zero, List.setIfInBounds_toArray, List.set_cons_zero, List.set_cons_succ]
      have x1 : ∀ u : ExtOf w1, u.to.cell? ⟨hA, 1, none⟩ = _ := fun u => cell_at (j := 1) ((Ext.trans h09 (Ext.trans hw1 u.h)).at HI.out.rowA) rfl
      have y1 : ∀ u : ExtOf w1, u.to.cell? ⟨hC, 1, none⟩ = _ := fun u => cell_at (j := 1) ((Ext.trans h09 (Ext.trans hw1 u.h)).at HI.out.rowC) rfl
      simp only [heads, List.drop_succ_cons, List.drop_zero, List.contains_cons, List.contains_nil, Nat.reduceBEq, Bool.or_false, Bool.false_eq_true, Nat.reduceAdd, Bool.or_true, ↓reduceIte, Bool.or_self]
      repeat (go_big_quiet_step (fail))
      refine wpQuiet_nil ?_
      clear x1 y1
      refine wpX_callg 11 27 _ #[.pointer (some ⟨pb, 0, none⟩)] _ (by rfl) _ _ (by rfl) Tryz.func27 rfl rfl (by kernel_rfl) (by rfl) (by kernel_rfl) (by decide) ?_
      intro v10 h010 h10
      refine (ball_any pb g B v10 (HI.out.book.ext (Ext.trans h09 h010))).mono ?_
      rintro e v11 ⟨vc, rfl, e11, hsc⟩
      refine ⟨_, rfl, Ext.trans h010 e11, ?_⟩
      refine wpX_callg 14 27 _ #[.pointer (some ⟨pb', 0, none⟩)] _ (by rfl) _ _ (by rfl) Tryz.func27 rfl rfl (by kernel_rfl) (by rfl) (by kernel_rfl) (by decide) ?_
      intro v12 h012 h12
      refine (ball_any pb' g' B v12 (HI.out.book'.ext (Ext.trans h09 h012))).mono ?_
      rintro e v13 ⟨vd, rfl, e13, hsd⟩
      refine ⟨_, rfl, Ext.trans h012 e13, ?_⟩
      refine wpX_callg 15 26 _ #[vc, vd] _ (by rfl) _ _ (by rfl) Tryz.func26 rfl rfl (by kernel_rfl) (by rfl) (by kernel_rfl) (by decide) ?_
      intro v14 h014 h14
      refine (sameOffers_any v10.heap.size v12.heap.size vc vd B.offs v14 (hsc.ext (Ext.trans h12 (Ext.trans e13 h14))) (hsd.ext h14)).mono ?_
      rintro e v15 ⟨rfl, e15⟩
      refine ⟨_, rfl, Ext.trans h014 e15, ?_⟩
      have h015 := Ext.trans h014 e15
      have h0F := Ext.trans h09 h015
      clear hsc hsd h10 e11 h12 e13 h14 e15 h010 h012 h014 h09
      refine wpX_again_all waiter 16 [] 0 (by kernel_rfl) h015 ?_
      intro w1 hw1
      simp only [Act.put, List.getElem_toArray, List.getElem_cons_succ, List.getElem_cons_zero, List.setIfInBounds_toArray, List.set_cons_zero, List.set_cons_succ]
      simp only [heads, List.drop_succ_cons, List.drop_zero, List.contains_nil, Bool.false_eq_true, Nat.reduceAdd, ↓reduceIte]
      repeat (go_big_quiet_step (fail))
      refine wpQuiet_nil ?_
      refine wpX_done (by kernel_rfl) ?_
      intro w8 e8 e8'
      try simp only [Act.put, List.getElem_toArray, List.getElem_cons_succ, List.getElem_cons_zero, List.setIfInBounds_toArray, List.set_cons_zero, List.set_cons_succ]
      have e8 := Ext.trans h0F e8
      clear h0F h015
      have HI := Lib.hid (HI.out.ext e8)
      have hs8 := e8.at hs7
      have hL8 := hL2.ext (Ext.trans e7 e8)
      have KS := Lib.hid (KS.out.ext (Ext.trans e7 e8))
      have a0 := cell_at (j := 0) HI.out.row1 rfl
      have a1 := cell_at (j := 1) HI.out.row1 rfl
      have hl64 : decide ((64 : Int) < (rf.length : Int)) = false := by have := HRF.out; simp; omega
      have q1 : decide ((16 : Int) < fr) = false := by simp; omega
      have q2 : decide ((16 : Int) < to) = false := by simp; omega
      clear hL2 hB2 e7 e8 hs7
      have r1 : (0 : Int) ≤ fr := by omega
      have r2 : fr < 17 := by omega
      have r3 : (0 : Int) ≤ to := by omega
      have r4 : to < 17 := by omega
      have hfrN : fr.toNat < 17 := by omega
      have htoN : to.toNat < 17 := by omega
      go_wp2_with (refine wpList_newrow rfl 64 rfl (.cells #[.bool false, .bool false, .bool false, .bool false, .bool false, .bool false, .bool false, .bool false, .bool false, .bool false, .bool false, .bool false, .bool false, .bool false, .bool false, .bool false, .bool false] 64) _ rfl (by go_simp) ?_
                   intro W9 ep hp0'
                   have hp0 : W9.heap[w8.heap.size]? = some (.cells ((List.replicate 17 false).map Value.bool).toArray 64 (0, 0)) := hp0'
                   have b0 := part_cell W9 w8.heap.size fr.toNat _ hp0 (by simpa using hfrN)
                   have b1 := frozen_of_row W9 w8.heap.size fr.toNat _ _ hp0
                   have hp1 := part_row W9 w8.heap.size fr.toNat _ hp0
                   have kp1 : Keep [w8.heap.size] W9 (W9.setCell ⟨w8.heap.size, fr.toNat, none⟩ (.bool true)) := (Keep.refl _ _).setCell (Or.inl (by simp)) _
                   have b2 := part_cell (W9.setCell ⟨w8.heap.size, fr.toNat, none⟩ (.bool true)) w8.heap.size to.toNat _ hp1 (by simpa using htoN)
                   have b3 := frozen_of_row (W9.setCell ⟨w8.heap.size, fr.toNat, none⟩ (.bool true)) w8.heap.size to.toNat _ _ hp1
                   have hp2 := part_row (W9.setCell ⟨w8.heap.size, fr.toNat, none⟩ (.bool true)) w8.heap.size to.toNat _ hp1
                   have kp2 : Keep [w8.heap.size] W9 ((W9.setCell ⟨w8.heap.size, fr.toNat, none⟩ (.bool true)).setCell ⟨w8.heap.size, to.toNat, none⟩ (.bool true)) := kp1.setCell (Or.inl (by simp)) _
                   have HI9 := Lib.hid (HI.out.ext ep)
                   have hr9 := HI9.out.row1
                   have hlt1 : w.heap.size + 1 ≠ w8.heap.size := by have := lt_of_heap HI.out.row1; omega
                   have a0 := cell_at (j := 0) hr9 rfl
                   have a1 := cell_at (j := 1) hr9 rfl
                   have a2 := cell_at (j := 1) (kp1.at hr9 (by simpa using hlt1)) rfl)
      have hqq : ∀ (g' j : Nat) (v : Value) (W : World), Ext w8 W → w8.heap.size ≤ g' → Ext w8 (W.setCell ⟨g', j, none⟩ v) := fun g' j v W k hg => Below.setCell k (p := ⟨g', j, none⟩) hg _
      have EA := hqq w8.heap.size to.toNat (.bool true) _ (hqq w8.heap.size fr.toNat (.bool true) _ ep (Nat.le_refl _)) (Nat.le_refl _)
      obtain ⟨hP, hhP⟩ : ∃ hP, hP = w8.heap.size := ⟨_, rfl⟩
      have HP8 := Lib.hid hhP
      have HQQ := Lib.hid hqq
      rw [← hhP] at EA hp2 ⊢
      have hpl2 : (((List.replicate 17 false).set fr.toNat true).set to.toNat true).length = 17 := by simp
      have hpt0 : ∀ q : Nat, q ≤ 16 → (((List.replicate 17 false).set fr.toNat true).set to.toNat true).getD q false = false → (q : Int) ≠ fr ∧ (q : Int) ≠ to := fun q hq h => by
        rw [List.getD_eq_getElem?_getD, List.getElem?_set, List.getElem?_set] at h
        simp only [List.length_set, List.length_replicate] at h
        refine ⟨fun e => ?_, fun e => ?_⟩
        · have e1 : fr.toNat = q := by omega
          by_cases e2 : to.toNat = q
          · rw [if_pos e2, if_pos (by omega)] at h; simp at h
          · rw [if_neg e2, if_pos e1, if_pos (by omega)] at h; simp at h
        · have e2 : to.toNat = q := by omega
          rw [if_pos e2, if_pos (by omega)] at h; simp at h
      generalize (W9.setCell ⟨hP, fr.toNat, none⟩ (.bool true)).setCell ⟨hP, to.toNat, none⟩ (.bool true) = wA at *
      generalize ((List.replicate 17 false).set fr.toNat true).set to.toNat true = pt0 at *
      have HPT0 := Lib.hid hpt0
      have HPA := Lib.hid hp2
      clear hhP hqq hpt0 b0 b1 b2 b3 hp0 hp0' hp1 hp2 kp1 kp2 HI9 hr9 hlt1 a0 a1 a2 ep
      go_loopw [11, 12, 13, 14] (fun gv iv _ _ wr => ∃ (k : Nat) (pt : List Bool), k ≤ rf.length ∧ iv = .int .i64 k ∧ gv = .int .i64 (gotS (rf.take k)) ∧ pt.length = 17 ∧ Ext w8 wr ∧ wr.heap[hP]? = some (.cells (pt.map Value.bool).toArray 64 (0, 0)) ∧
        (∀ q : Nat, q ≤ 16 → pt.getD q false = false → ((q : Int) ≠ fr ∧ (q : Int) ≠ to) ∧ ∀ f ∈ rf.take k, ∀ o, findR B.offs f.1 = some o → o.owner ≠ q)) (fun _ iv _ _ _ => rf.length - (intOf iv).toNat)
      case atStart => exact ⟨0, pt0, Nat.zero_le _, rfl, by first | rfl | go_num, hpl2, EA, HPA.out, fun q hq h => ⟨HPT0.out q hq h, by simp⟩⟩
      case round =>
        obtain ⟨k, pt, hk, rfl, rfl, hpl, er, hprow, hpq⟩ := hrel
        by_cases hkn : k < rf.length
        · have hfm := List.getElem_mem hkn
          obtain ⟨o, ho1, ho2, ho3, ho4, ho5, ho6, _⟩ := HOFF.out _ hfm
          obtain ⟨ht1, ht2⟩ := HFT.out _ hfm
          have hnm := HNUM.out _ hfm
          have hst := sum_take (fun f => f.2.2.2.1) rf k hkn
          have htk : rf.take (k + 1) = rf.take k ++ [rf[k]'hkn] := List.take_succ_eq_append_getElem hkn
          obtain ⟨A1, cap1, h1, h2', h3', _, h4⟩ := KS.out
          injection h1 with h1 _ h1c
          subst h1
          subst h1c
          rcases h4 with h4 | ⟨ga, rfl, hga, hgl, hca⟩
          · omega
          have hcel : ∀ W, Ext w8 W → ∀ j v, (Fcells (rf[k]'hkn))[j]? = some v → W.cell? ⟨ga, k * 5 + j, none⟩ = some v := fun W q j v hv => by
            rw [cell_block (q.block hgl)]
            refine hca _ _ ?_
            have hj5 : j < 5 := by
              have := (List.getElem?_eq_some_iff.1 hv).1
              simpa [Fcells] using this
            rw [flCells_at rf k j hkn hj5]
            exact hv
          have HTK := Lib.hid htk
          have HST := Lib.hid hst
          generalize (rf[k]'hkn) = f at *
          obtain ⟨seq, taker, too, got, given⟩ := f
          simp only at ho1 ht1 ht2 hnm ho4
          subst ht1 ht2
          obtain ⟨oseq, own, sell, buy, left, num, den⟩ := o
          simp only at ho2 ho3 ho4 ho5 ho6
          subst ho2 ho3
          have HO1 := Lib.hid ho1
          have HPQ := Lib.hid hpq
          have HCEL := Lib.hid hcel
          have hfq := fun W (q : Ext w8 W) => find_any pb' g' B seq W (HI.out.book'.ext q)
          have hfv : findV (findR B.offs seq) = .tuple #[.agg #[.int .u64 oseq, .int .u8 own, .int .u8 sell, .int .u8 buy, .int .i64 left, .int .i64 num, .int .i64 den], .bool true] := by rw [ho1]; rfl
          rw [hfv] at hfq
          have d1 : decide ((16 : Int) < own) = false := by simp; omega
          have d2 : (own == taker) = false := by simpa using ho4
          have hk1 : (0 : Int) ≤ (k : Int) := by omega
          have hk2 : (k : Int) < (rf.length : Int) := by omega
          have hk3 : decide ((k : Int) < (rf.length : Int)) = true := by simpa using hkn
          have hk64 : (k : Int) ≤ 64 := by have := HRF.out; omega
          clear hfm hst htk hca hcel ho1 hpq hfv
          go_wp2_with fail
          refine RgK.wp_region_hat ([] : List Nat) waiter 13 [7, 8, 9, 10, 11, 12] (by kernel_rfl) (by kernel_rfl) (by kernel_rfl) ?_
          intro w1 hw1
          have xc : ∀ u : KeepOf ([] : List Nat) w1, u.to.cell? ⟨hC, 1, none⟩ = _ := fun u => cell_at (j := 1) ((Ext.trans er (hw1.trans u.h).ext).at HI.out.rowC) rfl
          have xs : ∀ u : KeepOf ([] : List Nat) w1, u.to.cell? ⟨ga, k * 5, none⟩ = _ := fun u => HCEL.out u.to (Ext.trans er (hw1.trans u.h).ext) 0 _ rfl
          simp only [heads, List.take_succ_cons, List.take_zero, List.contains_cons, List.contains_nil, Nat.reduceBEq, Bool.or_false, Bool.false_eq_true, Nat.reduceAdd, Bool.or_true, ↓reduceIte, Bool.or_self]
          repeat (go_big_quiet_step (fail))
          refine wpQuiet_nil ?_
          intro hx1
          clear xc xs
          refine RgK.wpX_two 7 11 _ _ (by kernel_rfl) (by decide) (by decide) (by rfl) (by rfl) rfl rfl ?_ ?_
          · as_aux_lemma =>
              intro w3 h03 h3
              refine RgK.xRun_callf 16 _ #[.pointer (some ⟨pb', 0, none⟩), .int .u64 seq] _ _ (by rfl) Tryz.func16 rfl (by kernel_rfl) (by kernel_rfl) ?_
              refine (hfq w3 (Ext.trans er (Ext.trans hx1 h3))).mono ?_
              rintro e w4 ⟨rfl, e4⟩
              refine ⟨_, rfl, h03.trans (Keep.of_ext e4), ?_⟩
              refine RgK.wpX_again_e waiter 8 [11, 12] 2 (by kernel_rfl) (by kernel_rfl) (h03.trans (Keep.of_ext e4)) ?_
              intro w1' hw1'
              simp only [Act.put, List.getElem_toArray, List.getElem_cons_succ, List.getElem_cons_zero, List.setIfInBounds_toArray, List.set_cons_zero, List.set_cons_succ]
              simp only [heads, List.take_succ_cons, List.take_zero, List.drop_succ_cons, List.drop_zero, List.contains_cons, List.contains_nil, Nat.reduceBEq, Bool.or_false, Bool.false_eq_true, Nat.reduceAdd, Bool.or_true, ↓reduceIte, Bool.or_self]
              repeat (go_big_quiet_step (fail))
              refine wpQuiet_nil ?_
              intro hx4
              refine RgK.wpX_newv 11 _ (.cells #[.int .u64 0, .int .u8 0, .int .u8 0, .int .u8 0, .int .i64 0, .int .i64 0, .int .i64 0] 32) (fun p => .pointer (some ⟨p, 0, none⟩)) (by intro w; go_simp) rfl (by kernel_rfl) (by decide) rfl ?_
              intro eb w5 h05 h5 heb0 heb hebb
              refine RgK.wpX_store 12 _ 32 _ _ rfl rfl rfl (by kernel_rfl) (by decide) rfl eb #[.int .u64 oseq, .int .u8 own, .int .u8 sell, .int .u8 buy, .int .i64 left, .int .i64 num, .int .i64 den] (by kernel_rfl) (by kernel_rfl) 32 _ (by kernel_rfl) (by rfl) (by rfl) hebb (Or.inr heb0) ?_
              intro w6 h06 k6 hs6
              refine RgK.wpX_tail (by kernel_rfl) ?_
              intro w7 e7 e7'
              simp only [Act.put, List.setIfInBounds_toArray, List.drop_succ_cons, List.drop_zero]
              have hs7 := e7'.at hs6
              have E7 : Ext wr w7 := Ext.trans hx1 (Ext.trans h3 (Ext.trans e4 (Ext.trans h06.ext e7')))
              clear h03 h3 e4 hw1' hx4 h05 h5 heb0 heb hebb h06 k6 hs6 e7 e7' hx1 hfq hw1
              have e08 := Ext.trans er E7
              have hpr7 := E7.at hprow
              have hltP : hP < wr.heap.size := lt_of_heap hprow
              clear E7
              have hgsb := sum_bd (fun f => f.2.2.2.1) (rf.take k) (fun f hf => by have := HNUM.out f (List.mem_of_mem_take hf); constructor <;> (try simp only) <;> omega)
              have hgs1 : 0 ≤ gotS (rf.take k) := by unfold gotS; exact hgsb.1
              have hgs2 : gotS (rf.take k) ≤ 70368744177664 := by unfold gotS; have := hgsb.2; have h9 := HRF.out; rw [List.length_take] at this; omega
              clear hgsb
              obtain ⟨gs, hGs⟩ : ∃ gs, gs = gotS (rf.take k) := ⟨_, rfl⟩
              rw [← hGs] at hgs1 hgs2 ⊢
              have HGS := Lib.hid hGs
              clear hGs
              go_wp2_with fail
              refine wp_region_all waiter [] (by kernel_rfl) (by kernel_rfl) ?_
              intro w1 hw1
              have x1 : ∀ u : ExtOf w1, u.to.cell? ⟨eb, 1, none⟩ = _ := fun u => cell_at (j := 1) ((Ext.trans hw1 u.h).at hs7) rfl
              have x2 : ∀ u : ExtOf w1, u.to.cell? ⟨eb, 2, none⟩ = _ := fun u => cell_at (j := 2) ((Ext.trans hw1 u.h).at hs7) rfl
              have x3 : ∀ u : ExtOf w1, u.to.cell? ⟨eb, 3, none⟩ = _ := fun u => cell_at (j := 3) ((Ext.trans hw1 u.h).at hs7) rfl
              have y0 : ∀ u : ExtOf w1, u.to.cell? ⟨w.heap.size + 1, 0, none⟩ = _ := fun u => cell_at (j := 0) ((Ext.trans e08 (Ext.trans hw1 u.h)).at HI.out.row1) rfl
              have y1 : ∀ u : ExtOf w1, u.to.cell? ⟨w.heap.size + 1, 1, none⟩ = _ := fun u => cell_at (j := 1) ((Ext.trans e08 (Ext.trans hw1 u.h)).at HI.out.row1) rfl
              have y2 : ∀ u : ExtOf w1, u.to.cell? ⟨w.heap.size + 1, 2, none⟩ = _ := fun u => cell_at (j := 2) ((Ext.trans e08 (Ext.trans hw1 u.h)).at HI.out.row1) rfl
              have y3 : ∀ u : ExtOf w1, u.to.cell? ⟨w.heap.size + 1, 3, none⟩ = _ := fun u => cell_at (j := 3) ((Ext.trans e08 (Ext.trans hw1 u.h)).at HI.out.row1) rfl
              have z1 : ∀ u : ExtOf w1, u.to.cell? ⟨ga, k * 5 + 1, none⟩ = _ := fun u => HCEL.out u.to (Ext.trans e08 (Ext.trans hw1 u.h)) 1 _ rfl
              have z2 : ∀ u : ExtOf w1, u.to.cell? ⟨ga, k * 5 + 2, none⟩ = _ := fun u => HCEL.out u.to (Ext.trans e08 (Ext.trans hw1 u.h)) 2 _ rfl
              simp only [heads, List.contains_nil, Bool.false_eq_true, Nat.reduceAdd, ↓reduceIte]
              repeat (go_big_quiet_step (fail))
              refine wpQuiet_nil ?_
              refine wpX_done (by kernel_rfl) ?_
              intro w9 e9 e9'
              try simp only [Act.put, List.getElem_toArray, List.getElem_cons_succ, List.getElem_cons_zero, List.setIfInBounds_toArray, List.set_cons_zero, List.set_cons_succ]
              clear x1 x2 x3 y0 y1 y2 y3 z1 z2 hw1
              have e09 := Ext.trans e08 e9
              have hs9 := e9.at hs7
              have hpr9 := e9.at hpr7
              have hownN : own.toNat < pt.length := by omega
              have a1 := cell_at (j := 1) hs9 rfl
              have b0 := part_cell w9 hP own.toNat pt hpr9 hownN
              have b1 := frozen_of_row w9 hP own.toNat _ _ hpr9
              have hp2 := part_row w9 hP own.toNat pt hpr9
              have e10 : Ext w8 (w9.setCell ⟨hP, own.toNat, none⟩ (.bool true)) := HQQ.out hP own.toNat (.bool true) w9 e09 (by rw [HP8.out]; exact Nat.le_refl _)
              have z3 := HCEL.out _ e10 3 (.int .i64 got) rfl
              have r5 : (0 : Int) ≤ own := by omega
              have r6 : own < 17 := by omega
              have HPN := Lib.hid (show ∀ q : Nat, q ≤ 16 → (pt.set own.toNat true).getD q false = false → ((q : Int) ≠ taker ∧ (q : Int) ≠ too) ∧ ∀ f ∈ rf.take (k + 1), ∀ o, findR B.offs f.1 = some o → o.owner ≠ q from fun q hq h => by
                have hne : own.toNat ≠ q := by
                  intro e
                  rw [List.getD_eq_getElem?_getD, List.getElem?_set, if_pos e, if_pos (by omega)] at h
                  simp at h
                have h' : pt.getD q false = false := by
                  rw [List.getD_eq_getElem?_getD, List.getElem?_set, if_neg hne] at h
                  rw [List.getD_eq_getElem?_getD]; exact h
                obtain ⟨t1, t2⟩ := HPQ.out q hq h'
                refine ⟨t1, fun f hf o ho => ?_⟩
                rw [HTK.out] at hf
                rcases List.mem_append.1 hf with hf | hf
                · exact t2 f hf o ho
                · rw [List.mem_singleton.1 hf, HO1.out] at ho
                  injection ho with ho
                  rw [← ho]
                  simp only
                  omega)
              have HEND := Lib.hid (show ∃ pt' : List Bool, pt'.length = 17 ∧ Ext w8 (w9.setCell ⟨hP, own.toNat, none⟩ (.bool true)) ∧ (w9.setCell ⟨hP, own.toNat, none⟩ (.bool true)).heap[hP]? = some (.cells (pt'.map Value.bool).toArray 64 (0, 0)) ∧
                  ∀ q : Nat, q ≤ 16 → pt'.getD q false = false → ((q : Int) ≠ taker ∧ (q : Int) ≠ too) ∧ ∀ f ∈ rf.take (k + 1), ∀ o, findR B.offs f.1 = some o → o.owner ≠ q from
                ⟨pt.set own.toNat true, by rw [List.length_set]; exact hpl, e10, hp2, HPN.out⟩)
              have HSUM := Lib.hid (show gs + got = gotS (rf.take (k + 1)) from by
                rw [HGS.out]
                unfold gotS
                rw [HST.out])
              have hkk : k + 1 ≤ rf.length := by omega
              clear HPN HST HTK HGS HPQ HO1 HCEL e08 hpr7 hs7 e9 e09 hs9 hpr9 hp2 e10 hltP hownN d1 d2
              go_wp2_with fail
              obtain ⟨pt', t1, t2, t3, t4⟩ := HEND.out
              have hsum := HSUM.out
              refine ⟨⟨k + 1, pt', hkk, by go_num, ?_, t1, t2, t3, t4⟩, by simp [intOf]; omega⟩
              rw [hsum]
          · as_aux_lemma =>
              intro w3 h03 h3
              refine RgK.xRun_new (.pointer (some ⟨w3.heap.size, 0, none⟩)) (.cells #[.int .u64 0, .int .u8 0, .int .u8 0, .int .u8 0, .int .i64 0, .int .i64 0, .int .i64 0] 32) (by go_simp) ?_
              have ea := ext_alloc w3 (.cells #[.int .u64 0, .int .u8 0, .int .u8 0, .int .u8 0, .int .i64 0, .int .i64 0, .int .i64 0] 32)
              have ha := heap_alloc_top w3 (.cells #[.int .u64 0, .int .u8 0, .int .u8 0, .int .u8 0, .int .i64 0, .int .i64 0, .int .i64 0] 32)
              refine ⟨h03.trans (Keep.of_ext ea), ?_⟩
              obtain ⟨eb, hebe⟩ : ∃ eb, eb = w3.heap.size := ⟨_, rfl⟩
              have heb2 : wr.heap.size ≤ eb := by have := (Ext.trans hx1 h3).size; omega
              rw [← hebe] at ha ⊢
              refine RgK.wpX_callf 7 16 _ #[.pointer (some ⟨pb', 0, none⟩), .int .u64 seq] _ (by rfl) _ _ (by rfl) Tryz.func16 rfl (by kernel_rfl) (by kernel_rfl) rfl (by kernel_rfl) (by decide) ?_
              intro w3b h03b h3b
              have hxb := Ext.trans hx1 (Ext.trans h3 (Ext.trans ea h3b))
              refine (hfq w3b (Ext.trans er hxb)).mono ?_
              rintro e w4 ⟨rfl, e4⟩
              refine ⟨_, rfl, h03b.trans (Keep.of_ext e4), ?_⟩
              have hba := (Ext.trans h3b e4).at ha
              refine RgK.wpX_again_s [eb] waiter 8 [11, 12] 1 (by kernel_rfl) (by kernel_rfl) (h03b.trans (Keep.of_ext e4)) (fun x hx => .inr (by rw [List.mem_singleton.1 hx]; exact heb2)) ?_
              intro w1' hw1'
              simp only [Act.put, List.getElem_toArray, List.getElem_cons_succ, List.getElem_cons_zero, List.setIfInBounds_toArray, List.set_cons_zero, List.set_cons_succ]
              simp only [heads, List.take_succ_cons, List.take_zero, List.drop_succ_cons, List.drop_zero, List.contains_cons, List.contains_nil, Nat.reduceBEq, Bool.or_false, Bool.false_eq_true, Nat.reduceAdd, Bool.or_true, ↓reduceIte, Bool.or_self]
              repeat (go_big_quiet_step (fail))
              refine wpQuiet_nil ?_
              intro hx4
              refine RgK.wpX_store 12 _ 32 _ _ rfl rfl rfl (by kernel_rfl) (by decide) rfl eb #[.int .u64 oseq, .int .u8 own, .int .u8 sell, .int .u8 buy, .int .i64 left, .int .i64 num, .int .i64 den] (by kernel_rfl) (by kernel_rfl) 32 _ (by kernel_rfl) (by rfl) (by rfl) (hx4.at hba) (Or.inl (by simp)) ?_
              intro w6 h06 k6 hs6
              refine RgK.wpX_tail (by kernel_rfl) ?_
              intro w7 e7 e7'
              simp only [List.drop_succ_cons, List.drop_zero]
              have hs7 := e7'.at hs6
              have E7 : Ext wr w7 := Ext.trans (Keep.trans_fresh (S := []) (Keep.of_ext (Ext.trans hxb (Ext.trans e4 hx4))) k6 (fun x hx => .inr (by rw [List.mem_singleton.1 hx]; exact heb2))).ext e7'
              clear h03 h3 e4 hw1' hx4 h06 k6 hs6 e7 e7' hx1 hfq hw1 hxb hba ha ea hebe h03b h3b
              have e08 := Ext.trans er E7
              have hpr7 := E7.at hprow
              have hltP : hP < wr.heap.size := lt_of_heap hprow
              clear E7
              have hgsb := sum_bd (fun f => f.2.2.2.1) (rf.take k) (fun f hf => by have := HNUM.out f (List.mem_of_mem_take hf); constructor <;> (try simp only) <;> omega)
              have hgs1 : 0 ≤ gotS (rf.take k) := by unfold gotS; exact hgsb.1
              have hgs2 : gotS (rf.take k) ≤ 70368744177664 := by unfold gotS; have := hgsb.2; have h9 := HRF.out; rw [List.length_take] at this; omega
              clear hgsb
              obtain ⟨gs, hGs⟩ : ∃ gs, gs = gotS (rf.take k) := ⟨_, rfl⟩
              rw [← hGs] at hgs1 hgs2 ⊢
              have HGS := Lib.hid hGs
              clear hGs
              go_wp2_with fail
              refine wp_region_all waiter [] (by kernel_rfl) (by kernel_rfl) ?_
              intro w1 hw1
              have x1 : ∀ u : ExtOf w1, u.to.cell? ⟨eb, 1, none⟩ = _ := fun u => cell_at (j := 1) ((Ext.trans hw1 u.h).at hs7) rfl
              have x2 : ∀ u : ExtOf w1, u.to.cell? ⟨eb, 2, none⟩ = _ := fun u => cell_at (j := 2) ((Ext.trans hw1 u.h).at hs7) rfl
              have x3 : ∀ u : ExtOf w1, u.to.cell? ⟨eb, 3, none⟩ = _ := fun u => cell_at (j := 3) ((Ext.trans hw1 u.h).at hs7) rfl
              have y0 : ∀ u : ExtOf w1, u.to.cell? ⟨w.heap.size + 1, 0, none⟩ = _ := fun u => cell_at (j := 0) ((Ext.trans e08 (Ext.trans hw1 u.h)).at HI.out.row1) rfl
              have y1 : ∀ u : ExtOf w1, u.to.cell? ⟨w.heap.size + 1, 1, none⟩ = _ := fun u => cell_at (j := 1) ((Ext.trans e08 (Ext.trans hw1 u.h)).at HI.out.row1) rfl
              have y2 : ∀ u : ExtOf w1, u.to.cell? ⟨w.heap.size + 1, 2, none⟩ = _ := fun u => cell_at (j := 2) ((Ext.trans e08 (Ext.trans hw1 u.h)).at HI.out.row1) rfl
              have y3 : ∀ u : ExtOf w1, u.to.cell? ⟨w.heap.size + 1, 3, none⟩ = _ := fun u => cell_at (j := 3) ((Ext.trans e08 (Ext.trans hw1 u.h)).at HI.out.row1) rfl
              have z1 : ∀ u : ExtOf w1, u.to.cell? ⟨ga, k * 5 + 1, none⟩ = _ := fun u => HCEL.out u.to (Ext.trans e08 (Ext.trans hw1 u.h)) 1 _ rfl
              have z2 : ∀ u : ExtOf w1, u.to.cell? ⟨ga, k * 5 + 2, none⟩ = _ := fun u => HCEL.out u.to (Ext.trans e08 (Ext.trans hw1 u.h)) 2 _ rfl
              simp only [heads, List.contains_nil, Bool.false_eq_true, Nat.reduceAdd, ↓reduceIte]
              repeat (go_big_quiet_step (fail))
              refine wpQuiet_nil ?_
              refine wpX_done (by kernel_rfl) ?_
              intro w9 e9 e9'
              try simp only [Act.put, List.getElem_toArray, List.getElem_cons_succ, List.getElem_cons_zero, List.setIfInBounds_toArray, List.set_cons_zero, List.set_cons_succ]
              clear x1 x2 x3 y0 y1 y2 y3 z1 z2 hw1
              have e09 := Ext.trans e08 e9
              have hs9 := e9.at hs7
              have hpr9 := e9.at hpr7
              have hownN : own.toNat < pt.length := by omega
              have a1 := cell_at (j := 1) hs9 rfl
              have b0 := part_cell w9 hP own.toNat pt hpr9 hownN
              have b1 := frozen_of_row w9 hP own.toNat _ _ hpr9
              have hp2 := part_row w9 hP own.toNat pt hpr9
              have e10 : Ext w8 (w9.setCell ⟨hP, own.toNat, none⟩ (.bool true)) := HQQ.out hP own.toNat (.bool true) w9 e09 (by rw [HP8.out]; exact Nat.le_refl _)
              have z3 := HCEL.out _ e10 3 (.int .i64 got) rfl
              have r5 : (0 : Int) ≤ own := by omega
              have r6 : own < 17 := by omega
              have HPN := Lib.hid (show ∀ q : Nat, q ≤ 16 → (pt.set own.toNat true).getD q false = false → ((q : Int) ≠ taker ∧ (q : Int) ≠ too) ∧ ∀ f ∈ rf.take (k + 1), ∀ o, findR B.offs f.1 = some o → o.owner ≠ q from fun q hq h => by
                have hne : own.toNat ≠ q := by
                  intro e
                  rw [List.getD_eq_getElem?_getD, List.getElem?_set, if_pos e, if_pos (by omega)] at h
                  simp at h
                have h' : pt.getD q false = false := by
                  rw [List.getD_eq_getElem?_getD, List.getElem?_set, if_neg hne] at h
                  rw [List.getD_eq_getElem?_getD]; exact h
                obtain ⟨t1, t2⟩ := HPQ.out q hq h'
                refine ⟨t1, fun f hf o ho => ?_⟩
                rw [HTK.out] at hf
                rcases List.mem_append.1 hf with hf | hf
                · exact t2 f hf o ho
                · rw [List.mem_singleton.1 hf, HO1.out] at ho
                  injection ho with ho
                  rw [← ho]
                  simp only
                  omega)
              have HEND := Lib.hid (show ∃ pt' : List Bool, pt'.length = 17 ∧ Ext w8 (w9.setCell ⟨hP, own.toNat, none⟩ (.bool true)) ∧ (w9.setCell ⟨hP, own.toNat, none⟩ (.bool true)).heap[hP]? = some (.cells (pt'.map Value.bool).toArray 64 (0, 0)) ∧
                  ∀ q : Nat, q ≤ 16 → pt'.getD q false = false → ((q : Int) ≠ taker ∧ (q : Int) ≠ too) ∧ ∀ f ∈ rf.take (k + 1), ∀ o, findR B.offs f.1 = some o → o.owner ≠ q from
                ⟨pt.set own.toNat true, by rw [List.length_set]; exact hpl, e10, hp2, HPN.out⟩)
              have HSUM := Lib.hid (show gs + got = gotS (rf.take (k + 1)) from by
                rw [HGS.out]
                unfold gotS
                rw [HST.out])
              have hkk : k + 1 ≤ rf.length := by omega
              clear HPN HST HTK HGS HPQ HO1 HCEL e08 hpr7 hs7 e9 e09 hs9 hpr9 hp2 e10 hltP hownN d1 d2
              go_wp2_with fail
              obtain ⟨pt', t1, t2, t3, t4⟩ := HEND.out
              have hsum := HSUM.out
              refine ⟨⟨k + 1, pt', hkk, by go_num, ?_, t1, t2, t3, t4⟩, by simp [intOf]; omega⟩
              rw [hsum]
        · as_aux_lemma =>
            have hk' : k = rf.length := by omega
            subst hk'
            have hk3 : decide ((rf.length : Int) < (rf.length : Int)) = false := by simp
            rw [List.take_length] at hpq ⊢
            rw [HGOT.out]
            have HPQ := Lib.hid hpq
            have HPL := Lib.hid hpl
            clear hpq hpl
            go_wp2_with fail
            refine (given_any w5.heap.size _ rf wr HRF.out (KS.out.ext er)).mono ?_
            rintro e w10 ⟨rfl, e10⟩
            have e10' := Ext.trans er e10
            have hpr := e10.at hprow
            have a4 := cell_at (j := 4) (e10'.at HI.out.row1) rfl
            have a5 := cell_at (j := 5) (e10'.at HI.out.row1) rfl
            have ldp := part_load w10 hP pt HPL.out hpr
            have l0 := cell_at (j := 0) (e10'.at hs8) rfl
            have l1 := cell_at (j := 1) (e10'.at hs8) rfl
            have l2 := cell_at (j := 0) (e10'.at HI.out.rowC) rfl
            have l3 := cell_at (j := 1) (e10'.at HI.out.rowC) rfl
            obtain ⟨gv, hgve⟩ : ∃ gv, gv = givenS rf := ⟨_, rfl⟩
            rw [← hgve] at k4 hgv0 ⊢
            have hmg : decide (most < gv) = false := by simpa using k4
            have HGV := Lib.hid hgve
            clear hgve
            go_wp2_with (refine wpList_load_want 64 _ _ _ (by kernel_rfl) rfl rfl ldp ?_)
            refine (even_any p2 m2 p' m' _ _ rL L pt w10 (hL8.ext e10') hwf2 (HI.out.led'.ext e10') hwf HLIM.out HPL.out (fun c _ _ => sumP_zero hwf2 c) (fun q c h1 h2 _ _ h3 => by
              obtain ⟨⟨t1, t2⟩, t3⟩ := HPQ.out q h2 h3
              exact HPOS.out q c t1 t2 (fun f hf o ho e => t3 f hf o ho e))).mono ?_
            rintro e w11 ⟨rfl, e11⟩
            have e11' := Ext.trans e10' e11
            clear a4 a5 l0 l1 l2 l3 ldp
            have b0 := cell_at (j := 0) (e11'.at hs8) rfl
            have b1 := cell_at (j := 0) (e11'.at HI.out.rowC) rfl
            have b2 := cell_at (j := 0) (e11'.at HI.out.row1) rfl
            have b3 := cell_at (j := 3) (e11'.at HI.out.row1) rfl
            go_wp2_with fail
            refine (moved_any p2 m2 p' m' rL L fr give _ w11 (hL8.ext e11') hwf2 (HI.out.led'.ext e11') hwf ?_).mono ?_
            · rw [HGIVER.out, HGV.out]
            rintro e w12 ⟨rfl, e12⟩
            clear b0 b1 b2 b3
            go_wp2_with fail
            refine (lives11_any _).mono ?_
            rintro e w13 ⟨rfl, e13⟩
            go_wp2
            go_ret
            exact ⟨rfl, Ext.trans HI.out.ex (Ext.trans e11' (Ext.trans e12 e13))⟩
    · as_aux_lemma =>
        have hre' : (re == 0) = false := by simpa using hre
        obtain ⟨rfl, rfl⟩ := hbad hre
        have hre2 : (re != 0) = true := by simp [bne, hre']
        clear hch hgood hbad hre
        go_wp2_with (refine wpList_row rfl rfl 38 _ _ rfl w6.heap.size _ rfl rfl 38 _ hz6 (by kernel_rfl) (by rfl) (by rfl) ?_; intro w7 hb7 ho7 hs7; have e7 : Ext w6 w7 := hb7 _ _ (Nat.le_refl _) ez6)
        have HI := Lib.hid (HI.out.ext e7)
        clear hz6 ez6 hb7 ho7 hs7 e7
        refine wp_region_all waiter [2, 5, 6, 7, 8, 9, 10, 11, 12, 13, 14, 15, 16, 17] (by kernel_rfl) (by kernel_rfl) ?_
        intro w1 hw1
        have x0 : ∀ u : ExtOf w1, u.to.cell? ⟨hA, 0, none⟩ = _ := fun u => cell_at (j := 0) ((Ext.trans hw1 u.h).at HI.out.rowA) rfl
        have y0 : ∀ u : ExtOf w1, u.to.cell? ⟨hC, 0, none⟩ = _ := fun u => cell_at (j := 0) ((Ext.trans hw1 u.h).at HI.out.rowC) rfl
        simp only [heads, List.contains_cons, List.contains_nil, Nat.reduceBEq, Bool.or_false, Bool.false_eq_true, Nat.reduceAdd, Bool.or_true, ↓reduceIte, Bool.or_self]
        repeat (go_big_quiet_step (fail))
        refine wpQuiet_nil ?_
        clear x0 y0
        refine wpX_callf 2 25 _ #[.pointer (some ⟨p, 0, none⟩)] _ (by rfl) _ _ (by rfl) Tryz.func25 rfl rfl (by kernel_rfl) (by rfl) (by kernel_rfl) (by decide) ?_
        intro v4 h04 h4
        refine (lines_any p m L v4 (HI.out.led.ext h04) hwf).mono ?_
        rintro e v5 ⟨va, rfl, e5, howna⟩
        refine ⟨_, rfl, Ext.trans h04 e5, ?_⟩
        refine wpX_callf 5 25 _ #[.pointer (some ⟨p', 0, none⟩)] _ (by rfl) _ _ (by rfl) Tryz.func25 rfl rfl (by kernel_rfl) (by rfl) (by kernel_rfl) (by decide) ?_
        intro v6 h06 h6
        refine (lines_any p' m' L v6 (HI.out.led'.ext h06) hwf).mono ?_
        rintro e v7 ⟨vb, rfl, e7, hownb⟩
        refine ⟨_, rfl, Ext.trans h06 e7, ?_⟩
        refine wpX_callf 6 24 _ #[va, vb] _ (by rfl) _ _ (by rfl) Tryz.func24 rfl rfl (by kernel_rfl) (by rfl) (by kernel_rfl) (by decide) ?_
        intro v8 h08 h8
        refine (sameLines_any v4.heap.size v6.heap.size va vb (linesR L.lines) v8 (SlAt.of_own (own_ext howna (Ext.trans h6 (Ext.trans e7 h8)))) (SlAt.of_own (own_ext hownb h8))).mono ?_
        rintro e v9 ⟨rfl, e9⟩
        refine ⟨_, rfl, Ext.trans h08 e9, ?_⟩
        have h09 := Ext.trans h08 e9
        clear howna hownb h4 e5 h6 e7 h8 e9 h04 h06 h08
        refine wpX_again_all waiter 7 [11, 14, 15, 16, 17] 5 (by kernel_rfl) h09 ?_
        intro w1 hw1
        simp only [Act.put, List.getElem_toArray, List.getElem_cons_succ, List.getElem_cons_zero, List.setIfInBounds_toArray, List.set_cons_zero, List.set_cons_succ]
        have x1 : ∀ u : ExtOf w1, u.to.cell? ⟨hA, 1, none⟩ = _ := fun u => cell_at (j := 1) ((Ext.trans h09 (Ext.trans hw1 u.h)).at HI.out.rowA) rfl
        have y1 : ∀ u : ExtOf w1, u.to.cell? ⟨hC, 1, none⟩ = _ := fun u => cell_at (j := 1) ((Ext.trans h09 (Ext.trans hw1 u.h)).at HI.out.rowC) rfl
        simp only [heads, List.drop_succ_cons, List.drop_zero, List.contains_cons, List.contains_nil, Nat.reduceBEq, Bool.or_false, Bool.false_eq_true, Nat.reduceAdd, Bool.or_true, ↓reduceIte, Bool.or_self]
        repeat (go_big_quiet_step (fail))
        refine wpQuiet_nil ?_
        clear x1 y1
        refine wpX_callg 11 27 _ #[.pointer (some ⟨pb, 0, none⟩)] _ (by rfl) _ _ (by rfl) Tryz.func27 rfl rfl (by kernel_rfl) (by rfl) (by kernel_rfl) (by decide) ?_
        intro v10 h010 h10
        refine (ball_any pb g B v10 (HI.out.book.ext (Ext.trans h09 h010))).mono ?_
        rintro e v11 ⟨vc, rfl, e11, hsc⟩
        refine ⟨_, rfl, Ext.trans h010 e11, ?_⟩
        refine wpX_callg 14 27 _ #[.pointer (some ⟨pb', 0, none⟩)] _ (by rfl) _ _ (by rfl) Tryz.func27 rfl rfl (by kernel_rfl) (by rfl) (by kernel_rfl) (by decide) ?_
        intro v12 h012 h12
        refine (ball_any pb' g' B v12 (HI.out.book'.ext (Ext.trans h09 h012))).mono ?_
        rintro e v13 ⟨vd, rfl, e13, hsd⟩
        refine ⟨_, rfl, Ext.trans h012 e13, ?_⟩
        refine wpX_callg 15 26 _ #[vc, vd] _ (by rfl) _ _ (by rfl) Tryz.func26 rfl rfl (by kernel_rfl) (by rfl) (by kernel_rfl) (by decide) ?_
        intro v14 h014 h14
        refine (sameOffers_any v10.heap.size v12.heap.size vc vd B.offs v14 (hsc.ext (Ext.trans h12 (Ext.trans e13 h14))) (hsd.ext h14)).mono ?_
        rintro e v15 ⟨rfl, e15⟩
        refine ⟨_, rfl, Ext.trans h014 e15, ?_⟩
        have h015 := Ext.trans h014 e15
        have h0F := Ext.trans h09 h015
        clear hsc hsd h10 e11 h12 e13 h14 e15 h010 h012 h014 h09
        refine wpX_again_all waiter 16 [] 0 (by kernel_rfl) h015 ?_
        intro w1 hw1
        simp only [Act.put, List.getElem_toArray, List.getElem_cons_succ, List.getElem_cons_zero, List.setIfInBounds_toArray, List.set_cons_zero, List.set_cons_succ]
        simp only [heads, List.drop_succ_cons, List.drop_zero, List.contains_nil, Bool.false_eq_true, Nat.reduceAdd, ↓reduceIte]
        repeat (go_big_quiet_step (fail))
        refine wpQuiet_nil ?_
        refine wpX_done (by kernel_rfl) ?_
        intro w8 e8 e8'
        try simp only [Act.put, List.getElem_toArray, List.getElem_cons_succ, List.getElem_cons_zero, List.setIfInBounds_toArray, List.set_cons_zero, List.set_cons_succ]
        have e8 := Ext.trans h0F e8
        clear h0F h015
        have E8 := Ext.trans HI.out.ex e8
        go_wp2_with fail
        refine (lives11_any _).mono ?_
        rintro e w9 ⟨rfl, e9⟩
        go_wp2
        go_ret
        exact ⟨rfl, Ext.trans E8 e9⟩
end Go.Proofs.YtahdgojcebajkaaGreat

namespace Go.Proofs.YtahdgojcebajkaaGreat
open Go.Joins Go.Deep Go.WideElems Go.Maps Go.ChangeShapes Go.WideShapes Go.ChangeAt Go.RowKit Go.Rg Go.BigFrame

set_option maxRecDepth 100000 in
/-- An ask for a swap, opened. -/
theorem open_ask11 {H : Type} {enc : TypeId × Value → H} {W : World} {base b0 : Nat} {spare : Nat → Bool} {held : Bool} {r : Reach} {v : Value} {d : DataW H} {p : List MemPlace}
    (hv : Value.okWide Tryz.prog W r b0 55 v) (h : DataW.Trod enc Tryz.prog W base spare held 55 v d p) :
    ∃ (fr to get give n most : Int), v = .agg #[.int .u8 fr, .int .u8 to, .int .u8 get, .int .u8 give, .int .i64 n, .int .i64 most] ∧
      (Lit.int .u8 fr).wf = true ∧ (Lit.int .u8 to).wf = true ∧ (Lit.int .u8 get).wf = true ∧ (Lit.int .u8 give).wf = true ∧ (Lit.int .i64 n).wf = true ∧ (Lit.int .i64 most).wf = true := by
  obtain ⟨c0, c1, c2, c3, c4, c5, y0, y1, y2, y3, y4, y5, m, rfl, k0, k1, k2, k3, k4, k5⟩ := open_agg6 Tryz.underlying55 (by kernel_rfl) (by kernel_rfl) hv h
  obtain ⟨a0, e0, _, w0⟩ := DataW.trod_int Tryz.underlying27 k0
  obtain ⟨a1, e1, _, w1⟩ := DataW.trod_int Tryz.underlying27 k1
  obtain ⟨a2, e2, _, w2⟩ := DataW.trod_int Tryz.underlying28 k2
  obtain ⟨a3, e3, _, w3⟩ := DataW.trod_int Tryz.underlying28 k3
  obtain ⟨a4, e4, _, w4⟩ := DataW.trod_int Tryz.underlying2 k4
  obtain ⟨a5, e5, _, w5⟩ := DataW.trod_int Tryz.underlying2 k5
  refine ⟨a0, a1, a2, a3, a4, a5, ?_, w0, w1, w2, w3, w4, w5⟩
  cases e0; cases e1; cases e2; cases e3; cases e4; cases e5
  rfl

set_option maxRecDepth 100000 in
theorem swapsExact_lifted (os : Os) (started : os.Started) (H : Type) (enc : TypeId × Value → H) :
    ReturnsInHanded {} Tryz.checked os 4 .any (Rows.swapsExactSpec.pre6 enc Tryz.prog Tryz.f4 Rows.swapsExactRow.domain false) (Rows.swapsExactSpec.post enc Tryz.prog Tryz.f4 false true false false) := by
  refine returnsInHanded_of_change (C := Tryz.checked) ownK started (by kernel_rfl) Tryz.func4
    (ChangeSpec.witness6 (enc := enc) (C := Tryz.checked) false ⟨#[], #[.agg #[.slice none 0 0, .slice none 0 0], .agg #[.int .u8 0, .int .u8 0, .int .u8 0, .int .u8 0, .int .i64 0, .int .i64 0]], []⟩ 8 (by kernel_rfl) (by kernel_rfl) (by kernel_rfl) (by kernel_rfl)) ?_
  intro W base args ds gs before hval0 hW hcnd _
  have hval : ∀ (j : Nat) t v, Tryz.f4.params[j]? = some t → args[j]? = some v → Value.okWide Tryz.prog W .any base t v := hval0
  have hW' := hW
  obtain ⟨p, q, hA0, hV, rfl, hfz, hnd⟩ := hW
  have hA : DataW.TrodAll enc Tryz.prog W 0 (fun _ => true) true Tryz.f4.params.toList args.toList ds p := hA0
  rw [Tryz.params4] at hA hval
  obtain ⟨v0, v1, d0, d1, p0, p1, rfl, rfl, rfl, h0, h1⟩ := trodAll_two hA
  obtain ⟨rfl, rfl⟩ := trodVars_none hV
  obtain ⟨va, vo, acts, offs, rfl, ha, hoa, ho, hoo⟩ := open_world (hval 0 25 v0 rfl rfl) h0
  obtain ⟨fr, to, get, give, n, most, rfl, _, _, _, _, wn, _⟩ := open_ask11 (hval 1 55 v1 rfl rfl) h1
  clear hA0 hval0
  simp only [List.append_nil] at hW'
  have hlt : ∀ x ∈ p0 ++ p1, x.block < W.heap.size := fun x hx => by simpa using hW'.lt x hx
  refine (sexact_any va vo acts offs W ha hoa ho hoo fr to get give n most (bounds_i64 wn).2).mono fun e W' ⟨he, hw⟩ => ?_
  subst he
  have bel : Below W.heap.size W W' := hw
  exact ⟨_, rfl, _, _, _, [], p0 ++ p1, [], hW', trodAll_mk1 (shut_bool Tryz.underlying4 true), trodAll_mk2 (Below.trod laidOutK (by kernel_rfl) (of_decide_eq_true (by kernel_rfl)) h0 bel (fun x hx => hlt x (by simp [hx]))) (Below.trod laidOutK (by kernel_rfl) (of_decide_eq_true (by kernel_rfl)) h1 bel (fun x hx => hlt x (by simp [hx]))), rfl, bel.frame _, fun h => by cases h⟩

/-- SwapsExact, whatever the world and the swap: true. -/
theorem swapsExact_holds : Rows.SwapsExactSaid :=
  OpenClaim.holds_of_wide 4 Tryz.f4 rfl rfl rfl rfl rfl rfl rfl ⟨rfl, rfl, rfl, rfl, rfl⟩ rfl rfl rfl rfl rfl (by kernel_rfl) Tryz.func4 (by kernel_rfl)
    (of_decide_eq_true (by kernel_rfl)) (by unfold Func.isWrapper; first | (rw [if_pos (by decide +kernel)]; kernel_rfl) | (rw [if_neg (by decide +kernel)]; exact ⟨rfl, rfl⟩))
    (fun os started H enc _ => swapsExact_lifted os started H enc)

#print axioms swapsExact_holds

end Go.Proofs.YtahdgojcebajkaaGreat
