/- Chapter 11's example, evaluated; the walk of lives. -/
import Derived.Test.YtahdgojcebajkaaGreatSwap5
import Derived.Test.YtahdgojcebajkaaGreatDo
namespace Go.Proofs.YtahdgojcebajkaaGreat

def sxB2 : Bk := (placeR exB 2 1 2 5 1 1).2.2
set_option maxRecDepth 100000 in
theorem ex_s11 : (swapR exL sxB2 1 3 1 2 6 7).1 = 0 := by decide +kernel
set_option maxRecDepth 100000 in
theorem ex_s12 : (swapR exL sxB2 1 3 1 2 6 7).2.2.2 = ([(2, 1, 3, 5, 5), (1, 1, 3, 1, 2)] : List (Int × Int × Int × Int × Int)) := by decide +kernel
set_option maxRecDepth 100000 in
theorem ex_s2 : (swapR exL sxB2 1 3 1 2 6 6).1 = 12 := by decide +kernel
set_option maxRecDepth 100000 in
theorem ex_s3 : (swapR exL sxB2 1 3 1 2 7 99).1 = 11 := by decide +kernel
set_option maxRecDepth 100000 in
theorem ex_s4 : (swapR exL sxB2 1 3 1 2 0 9).1 = 1 := by decide +kernel
theorem ex_s5 : givenS ([(2, 1, 3, 5, 5), (1, 1, 3, 1, 2)] : List (Int × Int × Int × Int × Int)) = 7 := by decide +kernel
theorem ex_sseqN : SeqN sxB2 := by unfold SeqN; decide +kernel
end Go.Proofs.YtahdgojcebajkaaGreat

namespace Go.Proofs.YtahdgojcebajkaaGreat
open Go.RowKit Go.Rg Go.BigFrame

theorem eql_fill11 (a b c d e : Int) (w : World) : (binOp .eql 66 (.agg #[.int .u64 a, .int .u8 b, .int .u8 c, .int .i64 d, .int .i64 e]) (.agg #[.int .u64 a, .int .u8 b, .int .u8 c, .int .i64 d, .int .i64 e])).run Tryz.prog w = .ok (.bool true) w := by
  have hS : Tryz.prog.underlying 66 = some (.struct (Tryz.prog.fieldsOf 66)) := by kernel_rfl
  have hp : Tryz.prog.stoodInHeld 66 = false := by kernel_rfl
  rw [run_eql_struct]
  rw [show (10000 : Nat) = 9999 + 1 from rfl, run_equalIn_agg w 9999 66 _ _ hS hp]
  simp only [Program.fieldsOf, Tryz.underlying66]
  go_simp

theorem swapAt {r : Int × Led × Bk × List Fl} {w w' : World} {e : Ending} (h : RetSwap r w e w') (h1 : r.1 = 0) {l : List Fl} (h3 : r.2.2.2 = l) :
    ∃ p m pb g A cap, e = .returned (.tuple #[.agg #[.pointer (some ⟨p, 0, none⟩), .pointer (some ⟨pb, 0, none⟩)], .slice A l.length cap, .int .i64 0]) ∧ Ext w w' ∧ IsLed w' p m r.2.1 ∧ IsBook w' pb g r.2.2.1 ∧
      SlAt w' w.heap.size 5 (.slice A l.length cap) l.length (flCells l) := by
  obtain ⟨hv, av, he, hx, _, hg⟩ := h
  obtain ⟨p, m, pb, g, rfl, hL, hB, hs⟩ := hg h1
  rw [h3] at hs
  have hs2 := hs
  obtain ⟨A, cap, rfl, _⟩ := hs2
  exact ⟨p, m, pb, g, A, cap, by rw [he, h1], hx, hL, hB, hs⟩
theorem swapNot {r : Int × Led × Bk × List Fl} {w w' : World} {e : Ending} (h : RetSwap r w e w') {er : Int} (h1 : r.1 = er) (h0 : er ≠ 0) :
    e = .returned (.tuple #[.agg #[.pointer none, .pointer none], .slice none 0 0, .int .i64 er]) ∧ Ext w w' := by
  obtain ⟨hv, av, he, hx, hb, _⟩ := h
  obtain ⟨rfl, rfl⟩ := hb (by rw [h1]; exact h0)
  exact ⟨by rw [he, h1], hx⟩

set_option maxRecDepth 100000 in
set_option maxHeartbeats 6400000 in
theorem lives11_any (w : World) : Calls Tryz.prog 22 #[] w (Ret (.bool true) w) := by
  go_enter Tryz.func22, Tryz.ntmps22
  go_wp2_with fail
  refine (new_any w).mono ?_
  rintro e w1 ⟨p, m, rfl, e1, hL1, hp1, hm1⟩
  have hw0 := wf_led0
  have E1 : Ext w w1 := e1
  go_wp2_with fail
  refine (open_any p m _ 1 _ hL1).mono ?_
  rintro e w2 ⟨rfl, k2, hL2⟩
  have E2 : Ext w w2 := (Keep.trans_fresh (S := []) (Keep.of_ext E1) k2 (fun x hx => by simp at hx; right; omega)).ext
  have hw2 := wf_open hw0 hL1.len 1
  go_wp2_with fail
  refine (open_any p m _ 2 _ hL2).mono ?_
  rintro e w3 ⟨rfl, k3, hL3⟩
  have E3 : Ext w w3 := (Keep.trans_fresh (S := []) (Keep.of_ext E2) k3 (fun x hx => by simp at hx; right; omega)).ext
  have hw3 := wf_open hw2 hL2.len 2
  go_wp2_with fail
  refine (open_any p m _ 3 _ hL3).mono ?_
  rintro e w4 ⟨rfl, k4, hL4⟩
  have E4 : Ext w w4 := (Keep.trans_fresh (S := []) (Keep.of_ext E3) k4 (fun x hx => by simp at hx; right; omega)).ext
  have hw4 := wf_open hw3 hL3.len 3
  go_wp2_with fail
  refine (trust_any p m _ 3 2 1 9 _ hL4 hw4).mono ?_
  rintro e w5 ⟨rfl, k5, hL5⟩
  have E5 : Ext w w5 := (Keep.trans_fresh (S := []) (Keep.of_ext E4) k5 (fun x hx => by simp at hx; right; omega)).ext
  have hw5 := wf_trust hw4 3 2 1 9
  go_wp2_with fail
  refine (trust_any p m _ 2 1 2 7 _ hL5 hw5).mono ?_
  rintro e w6 ⟨rfl, k6, hL6⟩
  have E6 : Ext w w6 := (Keep.trans_fresh (S := []) (Keep.of_ext E5) k6 (fun x hx => by simp at hx; right; omega)).ext
  have hw6 := wf_trust hw5 2 1 2 7
  have hLx : IsLed w6 p m exL := hL6
  have hwx : WF exL := hw6
  clear hL1 hL2 hL3 hL4 hL5 hL6 hw0 hw2 hw3 hw4 hw5 hw6 k2 k3 k4 k5 k6 E1 E2 E3 E4 E5
  go_wp2_with fail
  refine (bnew_any _).mono ?_
  rintro e w7 ⟨pb, g, rfl, e7, hB7, hpb, hg7⟩
  have E7 := Ext.trans E6 e7
  have hL7 := hLx.ext e7
  have hap := apart_hb hL7 hB7
  have s6 := E6.size
  go_wp2_with fail
  refine (place_any pb g _ 2 1 2 5 3 2 _ hB7 (by omega) (by omega)).mono ?_
  rintro e w8 ⟨rfl, g', k8, hB8, hg8⟩
  have hfr : ∀ x ∈ pb :: g.toList, x ∈ ([] : List Nat) ∨ w.heap.size ≤ x := by
    intro x hx
    right
    rcases List.mem_cons.1 hx with rfl | hx
    · omega
    · have := hg7 x (by simpa using hx)
      omega
  have E8 : Ext w w8 := (Keep.trans_fresh (S := []) (Keep.of_ext E7) k8 hfr).ext
  have hL8 := hL7.keep k8 hap.1 hap.2
  have hB8x : IsBook w8 pb g' exB := hB8
  have hgf : ∀ x, g' = some x → w.heap.size ≤ x := by
    intro x hx
    rcases hg8 with hh | hh
    · have := hg7 x (hh ▸ hx)
      omega
    · have := hh x hx
      have := e7.size
      omega
  have hap8 := apart_hb hL8 hB8x
  clear hL7 hB7 hB8 hap hfr k8 hg8 hg7 hLx
  go_wp2_with fail
  refine (place_any pb g' _ 2 1 2 5 1 1 _ hB8x (by omega) (by omega)).mono ?_
  rintro e w9 ⟨rfl, g2, k9, hB9, hg9⟩
  have hfr : ∀ x ∈ pb :: g'.toList, x ∈ ([] : List Nat) ∨ w.heap.size ≤ x := by
    intro x hx
    right
    rcases List.mem_cons.1 hx with rfl | hx
    · omega
    · exact hgf x (by simpa using hx)
  have E9 : Ext w w9 := (Keep.trans_fresh (S := []) (Keep.of_ext E8) k9 hfr).ext
  have hL9 := hL8.keep k9 hap8.1 hap8.2
  have hBx : IsBook w9 pb g2 sxB2 := hB9
  have hokx : OkB sxB2 := ok_place (ok_place (fun o ho => by simp at ho) 2 1 2 5 3 2) 2 1 2 5 1 1
  clear hL8 hB8x hB9 hap8 hfr k9 hg9 hgf E6 E7 E8
  have hz9 := heap_alloc_top w9 (.cells #[.pointer none, .pointer none] 38)
  have ez9 := ext_alloc w9 (.cells #[.pointer none, .pointer none] 38)
  go_wp2_with (first
    | (refine wpList_load_at rfl 38 _ _ _ rfl rfl ldh ?_)
    | (refine wpList_row rfl rfl 38 _ _ rfl w9.heap.size _ rfl rfl 38 _ hz9 (by kernel_rfl) (by rfl) (by rfl) ?_; intro w10 hb10 ho10 hs10; have e10 : Ext w9 w10 := hb10 _ _ (Nat.le_refl _) ez9
       have ldh := run_loadVar_row (P := Tryz.prog) w10 _ _ 38 _ _ _ hs10 Tryz.underlying38 rfl (by kernel_rfl)))
  obtain ⟨hh, hhe⟩ : ∃ hh, hh = w9.heap.size := ⟨_, rfl⟩
  rw [← hhe] at hs10 ldh ⊢
  have E10 := Ext.trans E9 e10
  have hL10 := hL9.ext e10
  have hB10 := hBx.ext e10
  have hsw := fun (n most : Int) (hn : n ≤ 9223372036854775807) wq h1 h2 => swap_any p m pb g2 exL sxB2 1 3 1 2 n most wq h1 hwx h2 hokx ex_sseqN hn
  clear hz9 ez9 hb10 ho10 hL9 hBx e10 E9 hhe
  refine (hsw 6 7 (by decide) w10 hL10 hB10).mono ?_
  intro e w11 hcome
  obtain ⟨p1, m1, pb1, g1, A1, cap1, rfl, e11, _, _, hsl1⟩ := swapAt hcome ex_s11 ex_s12
  clear hcome
  simp only [List.length_cons, List.length_nil, Nat.zero_add, Nat.reduceAdd] at hsl1 ⊢
  replace hs10 := e11.at hs10
  have E11 := Ext.trans E10 e11
  have hL11 := hL10.ext e11
  have hB11 := hB10.ext e11
  clear ldh hL10 hB10 e11 E10
  have hz11 := heap_alloc_top w11 (.cells #[.pointer none, .pointer none] 38)
  have ez11 := ext_alloc w11 (.cells #[.pointer none, .pointer none] 38)
  go_wp2_with (first
    | (refine wpList_load_at rfl 38 _ _ _ rfl rfl ldh ?_)
    | (refine wpList_row rfl rfl 38 _ _ rfl w11.heap.size _ rfl rfl 38 _ hz11 (by kernel_rfl) (by rfl) (by rfl) ?_; intro w12 hb12 ho12 hs12; have e12 : Ext w11 w12 := hb12 _ _ (Nat.le_refl _) ez11
       have hs10 := e12.at hs10
       have ldh := run_loadVar_row (P := Tryz.prog) w12 _ _ 38 _ _ _ hs10 Tryz.underlying38 rfl (by kernel_rfl)))
  refine (hsw 6 6 (by decide) w12 (hL11.ext e12) (hB11.ext e12)).mono ?_
  intro e w13 hcome
  obtain ⟨rfl, e13⟩ := swapNot hcome ex_s2 (by decide)
  clear hcome ldh hz11 ez11 hb12 ho12 hs12
  have hs10 := e13.at hs10
  have x13 := Ext.trans e12 e13
  have hz13 := heap_alloc_top w13 (.cells #[.pointer none, .pointer none] 38)
  have ez13 := ext_alloc w13 (.cells #[.pointer none, .pointer none] 38)
  go_wp2_with (first
    | (refine wpList_load_at rfl 38 _ _ _ rfl rfl ldh ?_)
    | (refine wpList_row rfl rfl 38 _ _ rfl w13.heap.size _ rfl rfl 38 _ hz13 (by kernel_rfl) (by rfl) (by rfl) ?_; intro w14 hb14 ho14 hs14; have e14 : Ext w13 w14 := hb14 _ _ (Nat.le_refl _) ez13
       have hs10 := e14.at hs10
       have ldh := run_loadVar_row (P := Tryz.prog) w14 _ _ 38 _ _ _ hs10 Tryz.underlying38 rfl (by kernel_rfl)))
  have x14 := Ext.trans x13 e14
  refine (hsw 7 99 (by decide) w14 (hL11.ext x14) (hB11.ext x14)).mono ?_
  intro e w15 hcome
  obtain ⟨rfl, e15⟩ := swapNot hcome ex_s3 (by decide)
  clear hcome ldh hz13 ez13 hb14 ho14 hs14 e12 e13 e14 x13
  have hs10 := e15.at hs10
  have x15 := Ext.trans x14 e15
  have hz15 := heap_alloc_top w15 (.cells #[.pointer none, .pointer none] 38)
  have ez15 := ext_alloc w15 (.cells #[.pointer none, .pointer none] 38)
  go_wp2_with (first
    | (refine wpList_load_at rfl 38 _ _ _ rfl rfl ldh ?_)
    | (refine wpList_row rfl rfl 38 _ _ rfl w15.heap.size _ rfl rfl 38 _ hz15 (by kernel_rfl) (by rfl) (by rfl) ?_; intro w16 hb16 ho16 hs16; have e16 : Ext w15 w16 := hb16 _ _ (Nat.le_refl _) ez15
       have hs10 := e16.at hs10
       have ldh := run_loadVar_row (P := Tryz.prog) w16 _ _ 38 _ _ _ hs10 Tryz.underlying38 rfl (by kernel_rfl)))
  have x16 := Ext.trans x15 e16
  refine (hsw 0 9 (by decide) w16 (hL11.ext x16) (hB11.ext x16)).mono ?_
  intro e w17 hcome
  obtain ⟨rfl, e17⟩ := swapNot hcome ex_s4 (by decide)
  clear hcome ldh hz15 ez15 hb16 ho16 hs16 x14 x15 e15 e16 hsw hL11 hB11 hokx hwx
  have x17 := Ext.trans x16 e17
  have hz17 := heap_alloc_top w17 (.cells #[.pointer none, .pointer none] 38)
  have ez17 := ext_alloc w17 (.cells #[.pointer none, .pointer none] 38)
  have q1 := eql_fill11 2 1 3 5 5
  have q2 := eql_fill11 1 1 3 1 2
  have hgs := ex_s5
  have HSL := Lib.hid hsl1
  clear hsl1 hgs
  go_wp2_with (first
    | (refine wpList_row rfl rfl 38 _ _ rfl w17.heap.size _ rfl rfl 38 _ hz17 (by kernel_rfl) (by rfl) (by rfl) ?_; intro w18 hb18 ho18 hs18; have e18 : Ext w17 w18 := hb18 _ _ (Nat.le_refl _) ez17
       have hslx := HSL.out.ext (Ext.trans x17 e18)
       obtain ⟨Ax, capx, hvx, _, _, _, h4x⟩ := hslx
       injection hvx with hvx1 _ hvx2
       subst hvx1 hvx2
       rcases h4x with h | ⟨ga, rfl, _, hla, hca⟩
       · cases h
       have x0 : w18.cell? ⟨ga, 0, none⟩ = some (.int .u64 2) := hca 0 _ rfl
       have x1 : w18.cell? ⟨ga, 1, none⟩ = some (.int .u8 1) := hca 1 _ rfl
       have x2 : w18.cell? ⟨ga, 2, none⟩ = some (.int .u8 3) := hca 2 _ rfl
       have x3 : w18.cell? ⟨ga, 3, none⟩ = some (.int .i64 5) := hca 3 _ rfl
       have x4 : w18.cell? ⟨ga, 4, none⟩ = some (.int .i64 5) := hca 4 _ rfl
       have x5 : w18.cell? ⟨ga, 5, none⟩ = some (.int .u64 1) := hca 5 _ rfl
       have x6 : w18.cell? ⟨ga, 6, none⟩ = some (.int .u8 1) := hca 6 _ rfl
       have x7 : w18.cell? ⟨ga, 7, none⟩ = some (.int .u8 3) := hca 7 _ rfl
       have x8 : w18.cell? ⟨ga, 8, none⟩ = some (.int .i64 1) := hca 8 _ rfl
       have x9 : w18.cell? ⟨ga, 9, none⟩ = some (.int .i64 2) := hca 9 _ rfl
       clear hca))
  have x18 := Ext.trans x17 (by assumption)
  refine (given_any w10.heap.size _ [(2, 1, 3, 5, 5), (1, 1, 3, 1, 2)] _ (by simp) (HSL.out.ext x18)).mono ?_
  rintro e w19 ⟨rfl, e19⟩
  rw [ex_s5]
  go_wp2
  go_ret
  exact ⟨rfl, Ext.trans E11 (Ext.trans x18 e19)⟩
end Go.Proofs.YtahdgojcebajkaaGreat
