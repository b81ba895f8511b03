/- The walk of lives: the chapter's example. -/
import Derived.Test.YtjddfopebpmaeaaGreatDo
namespace Go.Proofs.YtjddfopebpmaeaaGreat
open Go.RowKit Go.Rg Go.BigFrame

theorem eql_fill_ex (w : World) : (binOp .eql 48 (.agg #[.int .u64 1, .int .u8 1, .int .u8 3, .int .i64 3, .int .i64 5]) (.agg #[.int .u64 1, .int .u8 1, .int .u8 3, .int .i64 3, .int .i64 5])).run Tryz.prog w = .ok (.bool true) w := by kernel_rfl

set_option maxRecDepth 100000 in
set_option maxHeartbeats 3200000 in
theorem lives_any (w : World) : Calls Tryz.prog 10 #[] w (Ret (.bool true) w) := by
  go_enter Tryz.func10, Tryz.ntmps10
  go_wp2_with fail
  refine (new_any w).mono ?_
  rintro e w1 ⟨p, m, rfl, e1, hL1, hp1, hm1⟩
  have hw0 := wf_led0
  have E1 : Ext w w1 := e1
  go_wp2_with fail
  refine (open_any p m _ 1 _ hL1).mono ?_
  rintro e w2 ⟨rfl, k2, hL2⟩
  have E2 : Ext w w2 := (Keep.trans_fresh (S := []) (Keep.of_ext E1) k2 (fun x hx => by simp at hx; right; omega)).ext
  have hw2 := wf_open hw0 hL1.len 1
  go_wp2_with fail
  refine (open_any p m _ 2 _ hL2).mono ?_
  rintro e w3 ⟨rfl, k3, hL3⟩
  have E3 : Ext w w3 := (Keep.trans_fresh (S := []) (Keep.of_ext E2) k3 (fun x hx => by simp at hx; right; omega)).ext
  have hw3 := wf_open hw2 hL2.len 2
  go_wp2_with fail
  refine (open_any p m _ 3 _ hL3).mono ?_
  rintro e w4 ⟨rfl, k4, hL4⟩
  have E4 : Ext w w4 := (Keep.trans_fresh (S := []) (Keep.of_ext E3) k4 (fun x hx => by simp at hx; right; omega)).ext
  have hw4 := wf_open hw3 hL3.len 3
  go_wp2_with fail
  refine (trust_any p m _ 3 2 1 9 _ hL4 hw4).mono ?_
  rintro e w5 ⟨rfl, k5, hL5⟩
  have E5 : Ext w w5 := (Keep.trans_fresh (S := []) (Keep.of_ext E4) k5 (fun x hx => by simp at hx; right; omega)).ext
  have hw5 := wf_trust hw4 3 2 1 9
  go_wp2_with fail
  refine (trust_any p m _ 2 1 2 7 _ hL5 hw5).mono ?_
  rintro e w6 ⟨rfl, k6, hL6⟩
  have E6 : Ext w w6 := (Keep.trans_fresh (S := []) (Keep.of_ext E5) k6 (fun x hx => by simp at hx; right; omega)).ext
  have hw6 := wf_trust hw5 2 1 2 7
  have hLx : IsLed w6 p m exL := hL6
  have hwx : WF exL := hw6
  clear hL1 hL2 hL3 hL4 hL5 hL6 hw0 hw2 hw3 hw4 hw5 hw6 k2 k3 k4 k5 k6 E1 E2 E3 E4 E5
  go_wp2_with fail
  refine (bnew_any _).mono ?_
  rintro e w7 ⟨pb, g, rfl, e7, hB7, hpb, hg7⟩
  have E7 := Ext.trans E6 e7
  have hL7 := hLx.ext e7
  have hap := apart_hb hL7 hB7
  have s6 := E6.size
  go_wp2_with fail
  refine (place_any pb g _ 2 1 2 5 3 2 _ hB7 (by omega) (by omega)).mono ?_
  rintro e w8 ⟨rfl, g', k8, hB8, hg8⟩
  have hfr : ∀ x ∈ pb :: g.toList, x ∈ ([] : List Nat) ∨ w.heap.size ≤ x := by
    intro x hx
    right
    rcases List.mem_cons.1 hx with rfl | hx
    · omega
    · have := hg7 x (by simpa using hx)
      omega
  have E8 : Ext w w8 := (Keep.trans_fresh (S := []) (Keep.of_ext E7) k8 hfr).ext
  have hL8 := hL7.keep k8 hap.1 hap.2
  have hBx : IsBook w8 pb g' exB := hB8
  have hokx : OkB exB := ok_place (fun o ho => by simp at ho) 2 1 2 5 3 2
  have hz8 := heap_alloc_top w8 (.cells #[.pointer none, .pointer none] 32)
  have ez8 := ext_alloc w8 (.cells #[.pointer none, .pointer none] 32)
  have hgf : ∀ x, g' = some x → w.heap.size ≤ x := by
    intro x hx
    rcases hg8 with hh | hh
    · have := hg7 x (hh ▸ hx)
      omega
    · have := hh x hx
      have := e7.size
      omega
  have hgl := hBx.ltg
  have hpl := hBx.ltp
  have hml := hL8.ltm
  clear hL7 hB7 hB8 hap hfr k8 hg8 hg7 hLx
  go_wp2_with (refine wpList_row rfl rfl 32 _ _ rfl w8.heap.size _ rfl rfl 32 _ hz8 (by kernel_rfl) (by rfl) (by rfl) ?_; intro w9 hb9 ho9 hs9; have e9 : Ext w8 w9 := hb9 _ _ (Nat.le_refl _) ez8; have c0 := cell_at (j := 0) hs9 rfl; have c1 := cell_at (j := 1) hs9 rfl)
  have E9 := Ext.trans E8 e9
  have m1 := hmay_any p m pb g' exL exB 1 1 3 9 100 w9 (hL8.ext e9) hwx (hBx.ext e9) hokx
  rw [ex_may1] at m1
  refine m1.mono ?_
  rintro e w10 ⟨rfl, e10⟩
  have hL9 := hL8.ext e9
  have hB9 := hBx.ext e9
  clear m1
  have hs10 := e10.at hs9
  have E10 := Ext.trans E9 e10
  clear c0 c1
  have c0 := cell_at (j := 0) hs10 rfl
  have c1 := cell_at (j := 1) hs10 rfl
  go_wp2_with fail
  have m2 := hmay_any p m pb g' exL exB 1 1 3 9 5 _ (hL9.ext (e10)) hwx (hB9.ext (e10)) hokx
  rw [ex_may2] at m2
  refine m2.mono ?_
  clear m2
  rintro e w11 ⟨rfl, e11⟩
  have hs11 := e11.at hs10
  have E11 := Ext.trans E10 e11
  clear c0 c1
  have c0 := cell_at (j := 0) hs11 rfl
  have c1 := cell_at (j := 1) hs11 rfl
  go_wp2_with fail
  have m2 := hmay_any p m pb g' exL exB 1 2 3 9 9 _ (hL9.ext (Ext.trans e10 e11)) hwx (hB9.ext (Ext.trans e10 e11)) hokx
  rw [ex_may3] at m2
  refine m2.mono ?_
  clear m2
  rintro e w12 ⟨rfl, e12⟩
  have hs12 := e12.at hs11
  have E12 := Ext.trans E11 e12
  clear c0 c1
  have c0 := cell_at (j := 0) hs12 rfl
  have c1 := cell_at (j := 1) hs12 rfl
  go_wp2_with fail
  have m2 := hmay_any p m pb g' exL exB 7 1 3 9 9 _ (hL9.ext (Ext.trans e10 (Ext.trans e11 e12))) hwx (hB9.ext (Ext.trans e10 (Ext.trans e11 e12))) hokx
  rw [ex_may4] at m2
  refine m2.mono ?_
  clear m2
  rintro e w13 ⟨rfl, e13⟩
  have hs13 := e13.at hs12
  have E13 := Ext.trans E12 e13
  have E913 : Ext w9 w13 := Ext.trans e10 (Ext.trans e11 (Ext.trans e12 e13))
  have hL13 := hL9.ext E913
  have hB13 := hB9.ext E913
  clear c0 c1
  have c0 := cell_at (j := 0) hs13 rfl
  have c1 := cell_at (j := 1) hs13 rfl
  go_wp2_with fail
  have m3 := do_any p m pb g' exL exB 1 1 3 5 w13 hL13 hwx hB13 hokx (by omega)
  rw [ex_do1'] at m3
  refine m3.mono ?_
  clear m3
  rintro e w14 ⟨rfl, k14, hL14, g2, hB14, hg14⟩
  unfold fillV fillCells
  simp only
  have hn8 : w8.heap.size ∉ m :: pb :: g'.toList := by
    intro hx
    rcases List.mem_cons.1 hx with hx | hx
    · omega
    · rcases List.mem_cons.1 hx with hx | hx
      · omega
      · have := hgl _ (show g' = some w8.heap.size by simpa using hx)
        omega
  have hs14 := k14.at hs13 hn8
  have hfr : ∀ x ∈ m :: pb :: g'.toList, x ∈ ([] : List Nat) ∨ w.heap.size ≤ x := by
    intro x hx
    right
    rcases List.mem_cons.1 hx with rfl | hx
    · omega
    · rcases List.mem_cons.1 hx with rfl | hx
      · omega
      · exact hgf x (by simpa using hx)
  have E14 : Ext w w14 := (Keep.trans_fresh (S := []) (Keep.of_ext E13) k14 hfr).ext
  have hz14 := heap_alloc_top w14 (.cells #[.int .u64 0, .int .u8 0, .int .u8 0, .int .i64 0, .int .i64 0] 48)
  have ez14 := ext_alloc w14 (.cells #[.int .u64 0, .int .u8 0, .int .u8 0, .int .i64 0, .int .i64 0] 48)
  clear c0 c1
  go_wp2_with (refine wpList_row rfl rfl 48 _ _ rfl w14.heap.size _ rfl rfl 48 _ hz14 (by kernel_rfl) (by rfl) (by rfl) ?_; intro w15 hb15 ho15 hs15x; have e15 : Ext w14 w15 := hb15 _ _ (Nat.le_refl _) ez14; have hs15 := e15.at hs14; have c0 := cell_at (j := 0) hs15 rfl; have c1 := cell_at (j := 1) hs15 rfl)
  have m4 := do_any p m pb g2 exL exB 1 1 3 3 w15 (hL14.ext e15) hwx (hB14.ext e15) hokx (by omega)
  refine m4.mono ?_
  clear m4
  rintro e w16 ⟨rfl, k16, _, _, _, _⟩
  rw [ex_do2.1, ex_do2.2]
  unfold fillV fillCells
  simp only
  have hg2f : ∀ x, g2 = some x → w.heap.size ≤ x := by
    intro x hx
    rcases hg14 with hh | hh
    · exact hgf x (hh ▸ hx)
    · have := hh x hx
      have := E13.size
      omega
  have hfr2 : ∀ x ∈ m :: pb :: g2.toList, x ∈ ([] : List Nat) ∨ w.heap.size ≤ x := by
    intro x hx
    right
    rcases List.mem_cons.1 hx with rfl | hx
    · omega
    · rcases List.mem_cons.1 hx with rfl | hx
      · omega
      · exact hg2f x (by simpa using hx)
  have E16 : Ext w w16 := (Keep.trans_fresh (S := []) (Keep.of_ext (Ext.trans E14 e15)) k16 hfr2).ext
  have hz16 := heap_alloc_top w16 (.cells #[.int .u64 0, .int .u8 0, .int .u8 0, .int .i64 0, .int .i64 0] 48)
  have ez16 := ext_alloc w16 (.cells #[.int .u64 0, .int .u8 0, .int .u8 0, .int .i64 0, .int .i64 0] 48)
  have heq := eql_fill_ex
  clear c0 c1
  go_wp2_with (refine wpList_row rfl rfl 48 _ _ rfl w16.heap.size _ rfl rfl 48 _ hz16 (by kernel_rfl) (by rfl) (by rfl) ?_; intro w17 hb17 ho17 hs17; have e17 : Ext w16 w17 := hb17 _ _ (Nat.le_refl _) ez16; have d0 := cell_at (j := 0) hs17 rfl; have d1 := cell_at (j := 1) hs17 rfl; have d2 := cell_at (j := 2) hs17 rfl; have d3 := cell_at (j := 3) hs17 rfl; have d4 := cell_at (j := 4) hs17 rfl)
  go_ret
  exact ⟨rfl, Ext.trans E16 e17⟩
end Go.Proofs.YtjddfopebpmaeaaGreat
