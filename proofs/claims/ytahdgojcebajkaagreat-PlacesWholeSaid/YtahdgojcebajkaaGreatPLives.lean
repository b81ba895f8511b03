/- Chapter 12's example, evaluated. The walk of lives: chapter 12's example. -/
import Derived.Test.YtahdgojcebajkaaGreatPlace4

namespace Go.Proofs.YtahdgojcebajkaaGreat

def exL3 : Led := (trustR exL 1 2 1 9).2
def exB2 : Bk := (placeR exB 2 1 2 5 1 1).2.2
def exO1 : Off := ⟨0, 1, 2, 1, 7, 1, 1⟩
def exO2 : Off := ⟨0, 1, 2, 1, 7, 2, 3⟩
set_option maxRecDepth 100000 in
theorem ex_c11 : (comeR exL3 exB2 exO1).1 = 0 := by decide +kernel
set_option maxRecDepth 100000 in
theorem ex_c12 : (comeR exL3 exB2 exO1).2.1 = 3 := by decide +kernel
set_option maxRecDepth 100000 in
theorem ex_c13 : (comeR exL3 exB2 exO1).2.2.2.2 = ([(2, 1, 1, 5, 5)] : List (Int × Int × Int × Int × Int)) := by decide +kernel
set_option maxRecDepth 100000 in
theorem ex_c14 : (findR (comeR exL3 exB2 exO1).2.2.2.1.offs 3).map Off.left = some 2 ∧ (findR (comeR exL3 exB2 exO1).2.2.2.1.offs 3).isSome = true := by decide +kernel
set_option maxRecDepth 100000 in
theorem ex_c21 : (comeR exL3 exB2 exO2).1 = 0 := by decide +kernel
set_option maxRecDepth 100000 in
theorem ex_c22 : (comeR exL3 exB2 exO2).2.1 = 0 := by decide +kernel
set_option maxRecDepth 100000 in
theorem ex_c23 : (comeR exL3 exB2 exO2).2.2.2.2 = ([(2, 1, 1, 5, 5), (1, 1, 1, 1, 2)] : List (Int × Int × Int × Int × Int)) := by decide +kernel
theorem ex_seqN : SeqN exB2 := by unfold SeqN; decide +kernel
end Go.Proofs.YtahdgojcebajkaaGreat

namespace Go.Proofs.YtahdgojcebajkaaGreat
open Go.RowKit Go.Rg Go.BigFrame

theorem eql_fill12 (a b c d e : Int) (w : World) : (binOp .eql 66 (.agg #[.int .u64 a, .int .u8 b, .int .u8 c, .int .i64 d, .int .i64 e]) (.agg #[.int .u64 a, .int .u8 b, .int .u8 c, .int .i64 d, .int .i64 e])).run Tryz.prog w = .ok (.bool true) w := by
  have hS : Tryz.prog.underlying 66 = some (.struct (Tryz.prog.fieldsOf 66)) := by kernel_rfl
  have hp : Tryz.prog.stoodInHeld 66 = false := by kernel_rfl
  rw [run_eql_struct]
  rw [show (10000 : Nat) = 9999 + 1 from rfl, run_equalIn_agg w 9999 66 _ _ hS hp]
  simp only [Program.fieldsOf, Tryz.underlying66]
  go_simp

theorem comeAt {r : Int × Int × Led × Bk × List Fl} {w w' : World} {e : Ending} (h : RetCome r w e w') (h1 : r.1 = 0) {sq : Int} (h2 : r.2.1 = sq) {l : List Fl} (h3 : r.2.2.2.2 = l) :
    ∃ p m pb g A cap, e = .returned (.tuple #[.agg #[.pointer (some ⟨p, 0, none⟩), .pointer (some ⟨pb, 0, none⟩)], .slice A l.length cap, .int .u64 sq, .int .i64 0]) ∧ Ext w w' ∧ IsLed w' p m r.2.2.1 ∧ IsBook w' pb g r.2.2.2.1 ∧
      SlAt w' w.heap.size 5 (.slice A l.length cap) l.length (flCells l) := by
  obtain ⟨hv, av, he, hx, _, hg⟩ := h
  obtain ⟨p, m, pb, g, rfl, hL, hB, hs⟩ := hg h1
  rw [h3] at hs
  have hs2 := hs
  obtain ⟨A, cap, rfl, _⟩ := hs2
  exact ⟨p, m, pb, g, A, cap, by rw [he, h1, h2], hx, hL, hB, hs⟩

set_option maxRecDepth 100000 in
set_option maxHeartbeats 6400000 in
theorem lives12_any (w : World) : Calls Tryz.prog 11 #[] w (Ret (.bool true) w) := by
  go_enter Tryz.func11, Tryz.ntmps11
  go_wp2_with fail
  refine (new_any w).mono ?_
  rintro e w1 ⟨p, m, rfl, e1, hL1, hp1, hm1⟩
  have hw0 := wf_led0
  have E1 : Ext w w1 := e1
  go_wp2_with fail
  refine (open_any p m _ 1 _ hL1).mono ?_
  rintro e w2 ⟨rfl, k2, hL2⟩
  have E2 : Ext w w2 := (Keep.trans_fresh (S := []) (Keep.of_ext E1) k2 (fun x hx => by simp at hx; right; omega)).ext
  have hw2 := wf_open hw0 hL1.len 1
  go_wp2_with fail
  refine (open_any p m _ 2 _ hL2).mono ?_
  rintro e w3 ⟨rfl, k3, hL3⟩
  have E3 : Ext w w3 := (Keep.trans_fresh (S := []) (Keep.of_ext E2) k3 (fun x hx => by simp at hx; right; omega)).ext
  have hw3 := wf_open hw2 hL2.len 2
  go_wp2_with fail
  refine (open_any p m _ 3 _ hL3).mono ?_
  rintro e w4 ⟨rfl, k4, hL4⟩
  have E4 : Ext w w4 := (Keep.trans_fresh (S := []) (Keep.of_ext E3) k4 (fun x hx => by simp at hx; right; omega)).ext
  have hw4 := wf_open hw3 hL3.len 3
  go_wp2_with fail
  refine (trust_any p m _ 3 2 1 9 _ hL4 hw4).mono ?_
  rintro e w5 ⟨rfl, k5, hL5⟩
  have E5 : Ext w w5 := (Keep.trans_fresh (S := []) (Keep.of_ext E4) k5 (fun x hx => by simp at hx; right; omega)).ext
  have hw5 := wf_trust hw4 3 2 1 9
  go_wp2_with fail
  refine (trust_any p m _ 2 1 2 7 _ hL5 hw5).mono ?_
  rintro e w6 ⟨rfl, k6, hL6⟩
  have E6 : Ext w w6 := (Keep.trans_fresh (S := []) (Keep.of_ext E5) k6 (fun x hx => by simp at hx; right; omega)).ext
  have hw6 := wf_trust hw5 2 1 2 7
  go_wp2_with fail
  refine (trust_any p m _ 1 2 1 9 _ hL6 hw6).mono ?_
  rintro e w6b ⟨rfl, k6b, hL6b⟩
  have E6b : Ext w w6b := (Keep.trans_fresh (S := []) (Keep.of_ext E6) k6b (fun x hx => by simp at hx; right; omega)).ext
  have hw6b := wf_trust hw6 1 2 1 9
  have hLx : IsLed w6b p m exL3 := hL6b
  have hwx : WF exL3 := hw6b
  clear hL1 hL2 hL3 hL4 hL5 hL6 hL6b hw0 hw2 hw3 hw4 hw5 hw6 hw6b k2 k3 k4 k5 k6 k6b E1 E2 E3 E4 E5 E6
  go_wp2_with fail
  refine (bnew_any _).mono ?_
  rintro e w7 ⟨pb, g, rfl, e7, hB7, hpb, hg7⟩
  have E7 := Ext.trans E6b e7
  have hL7 := hLx.ext e7
  have hap := apart_hb hL7 hB7
  have s6 := E6b.size
  go_wp2_with fail
  refine (place_any pb g _ 2 1 2 5 3 2 _ hB7 (by omega) (by omega)).mono ?_
  rintro e w8 ⟨rfl, g', k8, hB8, hg8⟩
  have hfr : ∀ x ∈ pb :: g.toList, x ∈ ([] : List Nat) ∨ w.heap.size ≤ x := by
    intro x hx
    right
    rcases List.mem_cons.1 hx with rfl | hx
    · omega
    · have := hg7 x (by simpa using hx)
      omega
  have E8 : Ext w w8 := (Keep.trans_fresh (S := []) (Keep.of_ext E7) k8 hfr).ext
  have hL8 := hL7.keep k8 hap.1 hap.2
  have hB8x : IsBook w8 pb g' exB := hB8
  have hgf : ∀ x, g' = some x → w.heap.size ≤ x := by
    intro x hx
    rcases hg8 with hh | hh
    · have := hg7 x (hh ▸ hx)
      omega
    · have := hh x hx
      have := e7.size
      omega
  have hap8 := apart_hb hL8 hB8x
  clear hL7 hB7 hB8 hap hfr k8 hg8 hg7 hLx
  go_wp2_with fail
  refine (place_any pb g' _ 2 1 2 5 1 1 _ hB8x (by omega) (by omega)).mono ?_
  rintro e w9 ⟨rfl, g2, k9, hB9, hg9⟩
  have hfr : ∀ x ∈ pb :: g'.toList, x ∈ ([] : List Nat) ∨ w.heap.size ≤ x := by
    intro x hx
    right
    rcases List.mem_cons.1 hx with rfl | hx
    · omega
    · exact hgf x (by simpa using hx)
  have E9 : Ext w w9 := (Keep.trans_fresh (S := []) (Keep.of_ext E8) k9 hfr).ext
  have hL9 := hL8.keep k9 hap8.1 hap8.2
  have hBx : IsBook w9 pb g2 exB2 := hB9
  have hokx : OkB exB2 := ok_place (ok_place (fun o ho => by simp at ho) 2 1 2 5 3 2) 2 1 2 5 1 1
  clear hL8 hB8x hB9 hap8 hfr k9 hg9 hgf
  have hz9 := heap_alloc_top w9 (.cells #[.pointer none, .pointer none] 38)
  have ez9 := ext_alloc w9 (.cells #[.pointer none, .pointer none] 38)
  go_wp2_with (refine wpList_row rfl rfl 38 _ _ rfl w9.heap.size _ rfl rfl 38 _ hz9 (by kernel_rfl) (by rfl) (by rfl) ?_; intro w10 hb10 ho10 hs10; have e10 : Ext w9 w10 := hb10 _ _ (Nat.le_refl _) ez9; have c0 := cell_at (j := 0) hs10 rfl; have c1 := cell_at (j := 1) hs10 rfl)
  have E10 := Ext.trans E9 e10
  have hL10 := hL9.ext e10
  have hB10 := hBx.ext e10
  have hr1 := come_any p m pb g2 exL3 exB2 exO1 w10 hL10 hB10 hwx hokx ex_seqN (by decide) (by decide) (by decide)
  simp only [exO1, Off.agg] at hr1
  refine hr1.mono ?_
  intro e w11 hcome
  obtain ⟨p1, m1, pb1, g1, A1, cap1, rfl, e11, _, hBc, hsl1⟩ := comeAt hcome ex_c11 ex_c12 ex_c13
  clear hcome hr1
  have hs11 := e11.at hs10
  have E11 := Ext.trans E10 e11
  have hL11 := hL10.ext e11
  have hB11 := hB10.ext e11
  clear c0 c1
  have c0 := cell_at (j := 0) hs11 rfl
  have c1 := cell_at (j := 1) hs11 rfl
  have hz11 := heap_alloc_top w11 (.cells #[.pointer none, .pointer none] 38)
  have ez11 := ext_alloc w11 (.cells #[.pointer none, .pointer none] 38)
  simp only [List.length_cons, List.length_nil, Nat.zero_add] at hsl1 ⊢
  go_wp2_with (refine wpList_row rfl rfl 38 _ _ rfl w11.heap.size _ rfl rfl 38 _ hz11 (by kernel_rfl) (by rfl) (by rfl) ?_; intro w12 hb12 ho12 hs12; have e12 : Ext w11 w12 := hb12 _ _ (Nat.le_refl _) ez11; have c0 := cell_at (j := 0) (e12.at hs11) rfl; have c1 := cell_at (j := 1) (e12.at hs11) rfl)
  have hr2 := come_any p m pb g2 exL3 exB2 exO2 w12 (hL11.ext e12) (hB11.ext e12) hwx hokx ex_seqN (by decide) (by decide) (by decide)
  simp only [exO2, Off.agg] at hr2
  refine hr2.mono ?_
  intro e w13 hcome
  obtain ⟨p2, m2, pb2, g3, A2, cap2, rfl, e13, _, _, hsl2⟩ := comeAt hcome ex_c21 ex_c22 ex_c23
  clear hcome hr2 c0 c1 hL11 hB11 hL10 hB10 hz9 ez9 hz11 ez11 hb10 ho10 hb12 ho12 hL9 hBx hokx hwx
  have E12 := Ext.trans E11 e12
  have E13 := Ext.trans E12 e13
  have hs13 := e13.at hs12
  have hB13 := (hBc.ext e12).ext e13
  have hz13 := heap_alloc_top w13 (.cells #[.pointer none, .pointer none] 38)
  have ez13 := ext_alloc w13 (.cells #[.pointer none, .pointer none] 38)
  simp only [List.length_cons, List.length_nil, Nat.zero_add, Nat.reduceAdd] at hsl2 ⊢
  go_wp2_with (refine wpList_row rfl rfl 38 _ _ rfl w13.heap.size _ rfl rfl 38 _ hz13 (by kernel_rfl) (by rfl) (by rfl) ?_; intro w14 hb14 ho14 hs14; have e14 : Ext w13 w14 := hb14 _ _ (Nat.le_refl _) ez13; have c0 := cell_at (j := 0) (e14.at hs13) rfl; have c1 := cell_at (j := 1) (e14.at hs13) rfl)
  have hfd : Calls Tryz.prog 16 #[.pointer (some ⟨pb1, 0, none⟩), .int .u64 3] w14 (Ret (findV (findR (comeR exL3 exB2 exO1).2.2.2.1.offs 3)) w14) := find_any pb1 g1 _ 3 w14 (hB13.ext e14)
  obtain ⟨fo, hfo⟩ := Option.isSome_iff_exists.1 ex_c14.2
  have hfl : fo.left = 2 := by
    have := ex_c14.1
    rw [hfo] at this
    simpa using this
  rw [hfo] at hfd
  obtain ⟨y0, y1, y2, y3, y4, y5, y6⟩ := fo
  simp only at hfl
  subst hfl
  simp only [findV, Off.agg] at hfd
  clear hfo hBc hB13 hs11 hs12
  refine hfd.mono ?_
  rintro e w15 ⟨rfl, e15⟩
  clear hfd c0 c1
  have hz15 := heap_alloc_top w15 (.cells #[.int .u64 0, .int .u8 0, .int .u8 0, .int .u8 0, .int .i64 0, .int .i64 0, .int .i64 0] 32)
  have ez15 := ext_alloc w15 (.cells #[.int .u64 0, .int .u8 0, .int .u8 0, .int .u8 0, .int .i64 0, .int .i64 0, .int .i64 0] 32)
  go_wp2_with (refine wpList_row rfl rfl 32 _ _ rfl w15.heap.size _ rfl rfl 32 _ hz15 (by kernel_rfl) (by rfl) (by rfl) ?_; intro w16 hb16 ho16 hs16; have e16 : Ext w15 w16 := hb16 _ _ (Nat.le_refl _) ez15)
  have E1116 := Ext.trans e12 (Ext.trans e13 (Ext.trans e14 (Ext.trans e15 e16)))
  have E1316 := Ext.trans e14 (Ext.trans e15 e16)
  have E16 := Ext.trans E11 E1116
  obtain ⟨Ax, capx, hvx, _, _, _, h4x⟩ := hsl1.ext E1116
  injection hvx with hvx1 _ hvx2
  subst hvx1 hvx2
  obtain ⟨Ay, capy, hvy, _, _, _, h4y⟩ := hsl2.ext E1316
  injection hvy with hvy1 _ hvy2
  subst hvy1 hvy2
  rcases h4x with h | ⟨ga, rfl, _, hla, hca⟩
  · cases h
  rcases h4y with h | ⟨gb, rfl, _, hlb, hcb⟩
  · cases h
  have x0 : w16.cell? ⟨ga, 0, none⟩ = some (.int .u64 2) := hca 0 _ rfl
  have x1 : w16.cell? ⟨ga, 1, none⟩ = some (.int .u8 1) := hca 1 _ rfl
  have x2 : w16.cell? ⟨ga, 2, none⟩ = some (.int .u8 1) := hca 2 _ rfl
  have x3 : w16.cell? ⟨ga, 3, none⟩ = some (.int .i64 5) := hca 3 _ rfl
  have x4 : w16.cell? ⟨ga, 4, none⟩ = some (.int .i64 5) := hca 4 _ rfl
  have y0 : w16.cell? ⟨gb, 0, none⟩ = some (.int .u64 2) := hcb 0 _ rfl
  have y1 : w16.cell? ⟨gb, 1, none⟩ = some (.int .u8 1) := hcb 1 _ rfl
  have y2 : w16.cell? ⟨gb, 2, none⟩ = some (.int .u8 1) := hcb 2 _ rfl
  have y3 : w16.cell? ⟨gb, 3, none⟩ = some (.int .i64 5) := hcb 3 _ rfl
  have y4 : w16.cell? ⟨gb, 4, none⟩ = some (.int .i64 5) := hcb 4 _ rfl
  have y5 : w16.cell? ⟨gb, 5, none⟩ = some (.int .u64 1) := hcb 5 _ rfl
  have y6 : w16.cell? ⟨gb, 6, none⟩ = some (.int .u8 1) := hcb 6 _ rfl
  have y7 : w16.cell? ⟨gb, 7, none⟩ = some (.int .u8 1) := hcb 7 _ rfl
  have y8 : w16.cell? ⟨gb, 8, none⟩ = some (.int .i64 1) := hcb 8 _ rfl
  have y9 : w16.cell? ⟨gb, 9, none⟩ = some (.int .i64 2) := hcb 9 _ rfl
  have q1 := eql_fill12 2 1 1 5 5
  have q2 := eql_fill12 1 1 1 1 2
  clear hca hcb hsl1 hsl2 E1116 E1316 e10 e11 e12 e13 e14 e15 e16 hb14 ho14 hb16 ho16 hz13 ez13 hz15 ez15 hs10 hs13 hs14 E9 E10 E11 E12 E13
  go_wp2
  refine wp_region_hat waiter 52 [] (by kernel_rfl) (by kernel_rfl) ?_
  intro w1 hw1
  have d4 : ∀ u : ExtOf w1, u.to.cell? ⟨w15.heap.size, 4, none⟩ = _ := fun u => cell_at (j := 4) ((Ext.trans hw1 u.h).at hs16) rfl
  have x0' : ∀ u : ExtOf w1, u.to.cell? ⟨ga, 0, none⟩ = _ := fun u => (cell_block ((Ext.trans hw1 u.h).block hla)).trans x0
  have x1' : ∀ u : ExtOf w1, u.to.cell? ⟨ga, 1, none⟩ = _ := fun u => (cell_block ((Ext.trans hw1 u.h).block hla)).trans x1
  have x2' : ∀ u : ExtOf w1, u.to.cell? ⟨ga, 2, none⟩ = _ := fun u => (cell_block ((Ext.trans hw1 u.h).block hla)).trans x2
  have x3' : ∀ u : ExtOf w1, u.to.cell? ⟨ga, 3, none⟩ = _ := fun u => (cell_block ((Ext.trans hw1 u.h).block hla)).trans x3
  have x4' : ∀ u : ExtOf w1, u.to.cell? ⟨ga, 4, none⟩ = _ := fun u => (cell_block ((Ext.trans hw1 u.h).block hla)).trans x4
  have y0' : ∀ u : ExtOf w1, u.to.cell? ⟨gb, 0, none⟩ = _ := fun u => (cell_block ((Ext.trans hw1 u.h).block hlb)).trans y0
  have y1' : ∀ u : ExtOf w1, u.to.cell? ⟨gb, 1, none⟩ = _ := fun u => (cell_block ((Ext.trans hw1 u.h).block hlb)).trans y1
  have y2' : ∀ u : ExtOf w1, u.to.cell? ⟨gb, 2, none⟩ = _ := fun u => (cell_block ((Ext.trans hw1 u.h).block hlb)).trans y2
  have y3' : ∀ u : ExtOf w1, u.to.cell? ⟨gb, 3, none⟩ = _ := fun u => (cell_block ((Ext.trans hw1 u.h).block hlb)).trans y3
  have y4' : ∀ u : ExtOf w1, u.to.cell? ⟨gb, 4, none⟩ = _ := fun u => (cell_block ((Ext.trans hw1 u.h).block hlb)).trans y4
  have y5' : ∀ u : ExtOf w1, u.to.cell? ⟨gb, 5, none⟩ = _ := fun u => (cell_block ((Ext.trans hw1 u.h).block hlb)).trans y5
  have y6' : ∀ u : ExtOf w1, u.to.cell? ⟨gb, 6, none⟩ = _ := fun u => (cell_block ((Ext.trans hw1 u.h).block hlb)).trans y6
  have y7' : ∀ u : ExtOf w1, u.to.cell? ⟨gb, 7, none⟩ = _ := fun u => (cell_block ((Ext.trans hw1 u.h).block hlb)).trans y7
  have y8' : ∀ u : ExtOf w1, u.to.cell? ⟨gb, 8, none⟩ = _ := fun u => (cell_block ((Ext.trans hw1 u.h).block hlb)).trans y8
  have y9' : ∀ u : ExtOf w1, u.to.cell? ⟨gb, 9, none⟩ = _ := fun u => (cell_block ((Ext.trans hw1 u.h).block hlb)).trans y9
  simp only [heads, List.take_succ_cons, List.take_zero, List.contains_nil, Bool.false_eq_true, Nat.reduceAdd, ↓reduceIte]
  repeat (go_big_quiet_step (fail))
  refine wpQuiet_nil ?_
  refine wpX_tail (by kernel_rfl) ?_
  intro w17 e17 e17'
  simp only [List.drop_succ_cons, List.drop_zero]
  go_wp2
  go_ret
  exact ⟨rfl, Ext.trans E16 e17⟩
end Go.Proofs.YtahdgojcebajkaaGreat
