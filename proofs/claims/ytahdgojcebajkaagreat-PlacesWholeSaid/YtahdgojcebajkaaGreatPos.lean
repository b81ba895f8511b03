/- Positions; whether one has moved; whether debts are sound. -/
import Derived.Test.YtahdgojcebajkaaGreatLines
namespace Go.Proofs.YtahdgojcebajkaaGreat
open Go.RowKit Go.Rg Go.BigFrame

set_option maxRecDepth 100000 in
set_option maxHeartbeats 3200000 in
theorem pos_any (p m : Nat) (L : Led) (x c : Int) (w : World) (h : IsLed w p m L) (hwf : WF L) : Calls Tryz.prog 89 #[.pointer (some ⟨p, 0, none⟩), .int .u8 x, .int .u8 c] w (Ret (.int .i64 (posR L x c)) w) := by
  have hpe : posR L x c = posL (linesR L.lines) x c := (posL_lines L.lines x c).symm
  have hbd : ∀ y ∈ linesR L.lines, 0 ≤ y.2.2 ∧ y.2.2 ≤ 1099511627776 := fun y hy => by
    have := hwf.nums y (mem_linesR.1 hy)
    omega
  have hle : (linesR L.lines).length ≤ 64 := by rw [linesR_len]; exact hwf.few
  have hln := lines_any p m L w h hwf
  rw [hpe]
  generalize linesR L.lines = S at *
  have HBD := Lib.hid hbd
  clear hpe hbd h
  go_enter Tryz.func89, Tryz.ntmps89
  go_wp2_with fail
  refine hln.mono ?_
  rintro e w1 ⟨v, rfl, e1, hown⟩
  obtain ⟨A, cap, rfl, q1, q2, q3, q4⟩ := SlAt.of_own hown
  have hn63 : (S.length : Int) ≤ 9223372036854775807 := by omega
  clear hln hown q3
  go_wp2_with fail
  go_loopw [6, 12] (fun nv i wr => ∃ k : Nat, k ≤ S.length ∧ i = .int .i64 k ∧ nv = .int .i64 (posL (S.take k) x c) ∧ Ext w1 wr) (fun _ i _ => S.length - (intOf i).toNat)
  case atStart => exact ⟨0, Nat.zero_le _, rfl, rfl, Ext.refl _⟩
  case round =>
    obtain ⟨k, hk, rfl, rfl, er⟩ := hrel
    have hpb := posL_bd x c (S.take k) (fun y hy => HBD.out y (List.mem_of_mem_take hy))
    have hpl : (S.take k).length ≤ 64 := by rw [List.length_take]; omega
    by_cases hkn : k < S.length
    · rcases q4 with q4 | ⟨g, rfl, hb, hlt, hcell⟩
      · omega
      have hld := load_ln wr g k S hkn (fun j u hu => by rw [cell_block (er.block hlt)]; exact hcell j u hu)
      have hnx := posL_take S k hkn x c
      have hyb := HBD.out _ (List.getElem_mem hkn)
      generalize posL (S.take k) x c = a at *
      obtain ⟨a', ha'⟩ : ∃ a', posL (S.take (k + 1)) x c = a' := ⟨_, rfl⟩
      rw [ha'] at hnx
      have HA := Lib.hid ha'
      clear ha'
      generalize (S[k]'hkn) = y at *
      obtain ⟨⟨y0, y1, y2⟩, y3, y4⟩ := y
      simp only [lnAgg] at hld
      simp only at hyb
      unfold posT at hnx
      simp only at hnx
      obtain ⟨hy1, hy2⟩ := hyb
      have ha1 : -70368744177664 ≤ a := by omega
      have ha2 : a ≤ 70368744177664 := by omega
      have hz := heap_alloc_top wr (.cells #[.int .u8 0, .int .u8 0, .int .u8 0, .int .i64 0, .int .i64 0] 149)
      have ez := ext_alloc wr (.cells #[.int .u8 0, .int .u8 0, .int .u8 0, .int .i64 0, .int .i64 0] 149)
      clear hpb hpl hcell
      by_cases qc : y2 = c
      · have qc1 : (y2 == c) = true := by simpa using qc
        have qc2 : (y2 != c) = false := by simp [bne, qc1]
        rw [if_pos qc] at hnx
        by_cases qa : y0 = x
        · have qa1 : (y0 == x) = true := by simpa using qa
          rw [if_pos qa] at hnx
          have HN := Lib.hid hnx
          clear hnx qc qa
          go_wp2_with (first
            | (refine wpList_load_at rfl 149 _ _ _ rfl rfl hld ?_)
            | (refine wpList_row rfl rfl 149 _ _ rfl wr.heap.size _ rfl rfl 149 _ hz (by kernel_rfl) (by rfl) (by rfl) ?_
               intro w5 hb5 ho5 hs5
               have e5 : Ext wr w5 := hb5 _ _ (Nat.le_refl _) ez
               have d0 := cell_at (j := 0) hs5 rfl
               have d1 := cell_at (j := 1) hs5 rfl
               have d2 := cell_at (j := 2) hs5 rfl
               have d4 := cell_at (j := 4) hs5 rfl))
          exact ⟨⟨k + 1, by omega, by go_num, by rw [HA.out, HN.out], Ext.trans er e5⟩, by simp [intOf]; omega⟩
        · have qa1 : (y0 == x) = false := by simpa using qa
          rw [if_neg qa] at hnx
          by_cases qb : y1 = x
          · have qb1 : (y1 == x) = true := by simpa using qb
            rw [if_pos qb] at hnx
            have HN := Lib.hid (show a' = a - y4 by omega)
            clear hnx qc qa qb
            go_wp2_with (first
              | (refine wpList_load_at rfl 149 _ _ _ rfl rfl hld ?_)
              | (refine wpList_row rfl rfl 149 _ _ rfl wr.heap.size _ rfl rfl 149 _ hz (by kernel_rfl) (by rfl) (by rfl) ?_
                 intro w5 hb5 ho5 hs5
                 have e5 : Ext wr w5 := hb5 _ _ (Nat.le_refl _) ez
                 have d0 := cell_at (j := 0) hs5 rfl
                 have d1 := cell_at (j := 1) hs5 rfl
                 have d2 := cell_at (j := 2) hs5 rfl
                 have d4 := cell_at (j := 4) hs5 rfl))
            exact ⟨⟨k + 1, by omega, by go_num, by rw [HA.out, HN.out], Ext.trans er e5⟩, by simp [intOf]; omega⟩
          · have qb1 : (y1 == x) = false := by simpa using qb
            rw [if_neg qb] at hnx
            have HN := Lib.hid (show a' = a by omega)
            clear hnx qc qa qb
            go_wp2_with (first
              | (refine wpList_load_at rfl 149 _ _ _ rfl rfl hld ?_)
              | (refine wpList_row rfl rfl 149 _ _ rfl wr.heap.size _ rfl rfl 149 _ hz (by kernel_rfl) (by rfl) (by rfl) ?_
                 intro w5 hb5 ho5 hs5
                 have e5 : Ext wr w5 := hb5 _ _ (Nat.le_refl _) ez
                 have d0 := cell_at (j := 0) hs5 rfl
                 have d1 := cell_at (j := 1) hs5 rfl
                 have d2 := cell_at (j := 2) hs5 rfl
                 have d4 := cell_at (j := 4) hs5 rfl))
            exact ⟨⟨k + 1, by omega, by go_num, by rw [HA.out, HN.out], Ext.trans er e5⟩, by simp [intOf]; omega⟩
      · have qc1 : (y2 == c) = false := by simpa using qc
        have qc2 : (y2 != c) = true := by simp [bne, qc1]
        rw [if_neg qc] at hnx
        have HN := Lib.hid (show a' = a by omega)
        clear hnx qc
        go_wp2_with (first
          | (refine wpList_load_at rfl 149 _ _ _ rfl rfl hld ?_)
          | (refine wpList_row rfl rfl 149 _ _ rfl wr.heap.size _ rfl rfl 149 _ hz (by kernel_rfl) (by rfl) (by rfl) ?_
             intro w5 hb5 ho5 hs5
             have e5 : Ext wr w5 := hb5 _ _ (Nat.le_refl _) ez
             have d0 := cell_at (j := 0) hs5 rfl
             have d1 := cell_at (j := 1) hs5 rfl
             have d2 := cell_at (j := 2) hs5 rfl
             have d4 := cell_at (j := 4) hs5 rfl))
        exact ⟨⟨k + 1, by omega, by go_num, by rw [HA.out, HN.out], Ext.trans er e5⟩, by simp [intOf]; omega⟩
    · have hk' : k = S.length := by omega
      subst hk'
      rw [List.take_length]
      generalize posL S x c = a at *
      clear q4 hpb hpl
      go_wp2
      go_ret
      exact ⟨rfl, Ext.trans e1 er⟩

theorem posR_bd {L : Led} (hwf : WF L) (x c : Int) : -70368744177664 ≤ posR L x c ∧ posR L x c ≤ 70368744177664 := by
  have h := posL_bd x c L.lines (fun y hy => by have := hwf.nums y hy; omega)
  have := hwf.few
  unfold posR
  omega

set_option maxRecDepth 100000 in
theorem moved_any (p m p' m' : Nat) (L L' : Led) (x c n : Int) (w : World) (h : IsLed w p m L) (hwf : WF L) (h' : IsLed w p' m' L') (hwf' : WF L') (he : posR L x c = posR L' x c + n) :
    Calls Tryz.prog 30 #[.pointer (some ⟨p, 0, none⟩), .pointer (some ⟨p', 0, none⟩), .int .u8 x, .int .u8 c, .int .i64 n] w (Ret (.bool true) w) := by
  have c1 := pos_any p m L x c w h hwf
  have c2 := fun w (h' : IsLed w p' m' L') => pos_any p' m' L' x c w h' hwf'
  have b1 := posR_bd hwf x c
  have b2 := posR_bd hwf' x c
  rw [he] at c1 b1
  generalize posR L' x c = a at *
  have s1 : -9223372036854775808 ≤ a + n := by omega
  have s2 : a + n ≤ 9223372036854775807 := by omega
  clear he b1 b2
  go_enter Tryz.func30, Tryz.ntmps30
  go_wp2_with fail
  refine c1.mono ?_
  rintro e w1 ⟨rfl, e1⟩
  go_wp2_with fail
  refine (c2 w1 (h'.ext e1)).mono ?_
  rintro e w2 ⟨rfl, e2⟩
  go_wp2
  go_ret
  exact ⟨by simp, Ext.trans e1 e2⟩
end Go.Proofs.YtahdgojcebajkaaGreat
