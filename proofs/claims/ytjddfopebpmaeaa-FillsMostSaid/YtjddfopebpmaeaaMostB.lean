/- FillsMost: the ways on which one more is not asked about. -/
import Derived.Test.YtjddfopebpmaeaaMostP
namespace Go.Proofs.Ytjddfopebpmaeaa
open Go.RowKit Go.Rg Go.BigFrame



set_option maxRecDepth 100000 in
set_option maxHeartbeats 8000000 in
theorem most10_rest (va vo : Value) (acts : List Act5) (offs : List Off) (w : World) (ha : ArgSl w 5 va acts.length (actCells acts)) (hoa : ∀ x ∈ acts, x.ok) (ho : ArgSl w 7 vo offs.length (offCells offs)) (hoo : ∀ x ∈ offs, x.in64)
    (seq taker to n0 most : Int) (full : Bool) (hn0 : n0 ≤ 9223372036854775807) (hm0 : most ≤ 9223372036854775807)
    (hg : (decide (120 < acts.length) || decide (40 < offs.length)) = false) (oseq own sell buy left num den : Int) (hq : findR (madeB offs).offs seq = some ⟨oseq, own, sell, buy, left, num, den⟩) (hqs : (own == taker) = false ∧ hasP (madeL acts) own = true ∧ hasP (madeL acts) taker = true ∧ hasP (madeL acts) to = true ∧ 0 < n0 ∧ 0 < most)
    (hq2 : n0 ≤ mayT (madeL acts) (madeB offs) seq taker to n0 most ∨ left ≤ mayT (madeL acts) (madeB offs) seq taker to n0 most ∨ (to ≠ own ∧ mostR (ofR (madeL acts) sell) own to ≤ mayT (madeL acts) (madeB offs) seq taker to n0 most)) :
    Calls Try.prog 4 #[.agg #[va, vo], .agg #[.int .u64 seq, .int .u8 taker, .int .u8 to, .int .i64 n0, .int .i64 most, .bool full]] w (Ret (.bool true) w) := by
  have HQ := Lib.hid hq
  have HQS := Lib.hid hqs
  have HQ2 := Lib.hid hq2
  clear hq hqs hq2
  have hgr := fun w' (k : Ext w w') => great10_any va vo acts offs w' (ha.ext k) (ho.ext k)
  have hmd := fun w' (k : Ext w w') => made10_any va vo acts offs w' (ha.ext k) hoa (ho.ext k) hoo
  obtain ⟨Aa, capa, rfl, _⟩ := ha
  obtain ⟨A, cap, rfl, _⟩ := ho
  clear hoa hoo
  have hb := heap_alloc_top w (.cells #[.slice Aa acts.length capa, .slice A offs.length cap] 50)
  have eb := ext_alloc w (.cells #[.slice Aa acts.length capa, .slice A offs.length cap] 50)
  have sb := size_alloc w (.cells #[.slice Aa acts.length capa, .slice A offs.length cap] 50)
  have hr := heap_alloc_top (w.alloc (.cells #[.slice Aa acts.length capa, .slice A offs.length cap] 50)) (.cells #[.int .u64 seq, .int .u8 taker, .int .u8 to, .int .i64 n0, .int .i64 most, .bool full] 25)
  have er := ext_alloc (w.alloc (.cells #[.slice Aa acts.length capa, .slice A offs.length cap] 50)) (.cells #[.int .u64 seq, .int .u8 taker, .int .u8 to, .int .i64 n0, .int .i64 most, .bool full] 25)
  rw [sb] at hr
  have hb := er.at hb
  have E0 := Ext.trans eb er
  clear eb er sb
  have c00 := cell_at (j := 0) hb rfl
  have c01 := cell_at (j := 1) hb rfl
  go_enter Try.func4, Try.ntmps4
  go_wp2_with fail
  refine (hgr _ E0).mono ?_
  rintro e w1 ⟨rfl, e1⟩
  have E1 := Ext.trans E0 e1
  have hb1 := e1.at hb
  have hr1 := e1.at hr
  clear c00 c01 hgr hb hr e1 E0
  have c00 := cell_at (j := 0) hb1 rfl
  have c01 := cell_at (j := 1) hb1 rfl
  rw [hg]
  clear hg
  go_wp2_with fail
  refine (hmd _ E1).mono ?_
  rintro e w2 ⟨⟨p, m, pb, g, rfl, e2, hL, hB, hp1, hm1, hpb1, hg1⟩, hwf, hok⟩
  have hlt1 := lt_of_heap hr1
  have hge : ∀ x ∈ m :: pb :: g.toList, w.heap.size + 2 ≤ x := by
    intro x hx
    rcases List.mem_cons.1 hx with rfl | hx
    · omega
    · rcases List.mem_cons.1 hx with rfl | hx
      · omega
      · have := hg1 _ (show g = some x by simpa using hx)
        omega
  clear hp1 hm1 hpb1 hg1 hlt1
  clear hmd c00 c01 hb1
  generalize madeL acts = L at *
  generalize madeB offs = B at *
  have E2 := Ext.trans E1 e2
  have hr2 := e2.at hr1
  have hz2 := heap_alloc_top w2 (.cells #[.pointer none, .pointer none] 29)
  have ez2 := ext_alloc w2 (.cells #[.pointer none, .pointer none] 29)
  go_wp2_with (refine wpList_row rfl rfl 29 _ _ rfl w2.heap.size _ rfl rfl 29 _ hz2 (by kernel_rfl) (by rfl) (by rfl) ?_; intro w3 hb3 ho3 hs3; have e3 : Ext w2 w3 := hb3 _ _ (Nat.le_refl _) ez2; have c0 := cell_at (j := 0) hs3 rfl; have c1 := cell_at (j := 1) hs3 rfl; have a0 := cell_at (j := 0) (e3.at hr2) rfl; have a1 := cell_at (j := 1) (e3.at hr2) rfl; have a2 := cell_at (j := 2) (e3.at hr2) rfl; have a3 := cell_at (j := 3) (e3.at hr2) rfl; have a4 := cell_at (j := 4) (e3.at hr2) rfl)
  have E3 := Ext.trans E2 e3
  have hL3 := hL.ext e3
  have hB3 := hB.ext e3
  have hr3 := e3.at hr2
  refine (hmay_any p m pb g L B seq taker to n0 most w3 hL3 hwf hB3 hok).mono ?_
  rintro e w4 ⟨rfl, e4⟩
  have hbd := may_bd L B seq taker to n0 most
  clear hb3 ho3 hz2 ez2 hr2 hr1 hL hB e2 e3 E1 E2
  have E4 := Ext.trans E3 e4
  have hL4 := hL3.ext e4
  have hB4 := hB3.ext e4
  have hr4 := e4.at hr3
  have hs4 := e4.at hs3
  clear c0 c1 a0 a1 a2 a3 a4 hr3 hs3 hL3 hB3 E3 e4
  have c0 := cell_at (j := 0) hs4 rfl
  have c1 := cell_at (j := 1) hs4 rfl
  have a0 := cell_at (j := 0) hr4 rfl
  have hnone := may_none (L := L) (B := B) (seq := seq) (taker := taker) (to := to) (want := n0) (most := most)
  have hsome := fun o => may_some (L := L) (B := B) (seq := seq) (taker := taker) (to := to) (want := n0) (most := most) (o := o)
  have hover := fun o => may_over (L := L) (B := B) (seq := seq) (taker := taker) (to := to) (want := n0) (most := most) (o := o) hok
  have hdone := may_done (L := L) (B := B) (seq := seq) (taker := taker) (to := to) (want := n0) (most := most) hok
  have hrat : ∀ o, findR B.offs seq = some o → (1 ≤ o.num ∧ o.num ≤ 1099511627776) ∧ 1 ≤ o.den ∧ o.den ≤ 1099511627776 := by
    intro o ho
    have h3 := (offOk_rat (hok o (findR_mem ho).1)).2.2
    unfold mayR at h3
    rw [decide_eq_true_eq] at h3
    omega
  have hfv : findV (findR B.offs seq) = .tuple #[((findR B.offs seq).getD zeroOff).agg, .bool (findR B.offs seq).isSome] := by cases findR B.offs seq <;> rfl
  have hfd := fun w5 hB => find_any pb g B seq w5 hB
  rw [hfv] at hfd
  generalize mayT L B seq taker to n0 most = n at *
  obtain ⟨hbd0, hbd1, hbd2⟩ := hbd
  obtain ⟨hb, hhb⟩ : ∃ hb, hb = w2.heap.size := ⟨_, rfl⟩
  rw [← hhb] at hs4 c0 c1 ⊢
  clear hhb hfv
  have hf := HQ.out
  clear HQ
  have hs1 := hsome _ hf
  have hov := hover _ hf
  obtain ⟨⟨r1, r2⟩, r3, r4⟩ := hrat _ hf
  rw [hf] at hfd
  simp only [Option.getD_some, Option.isSome_some, Off.agg] at hfd
  simp only at r1 r2 r3 r4 hov
  clear hnone hsome hover hrat hf
  have hmx : decide (max n0 0 < n) = false := by rw [decide_eq_false_iff_not]; omega
  have hmn : decide (n < 0) = false := by rw [decide_eq_false_iff_not]; omega
  have hokd : okT (some ⟨oseq, own, sell, buy, left, num, den⟩) (hasP L) taker to n0 most = (!(own == taker) && hasP L own && hasP L taker && hasP L to && decide (0 < n0) && decide (0 < most)) := rfl
  rw [hokd] at hs1 hov
  have hbad : (!(own == taker) && hasP L own && hasP L taker && hasP L to && decide (0 < n0) && decide (0 < most)) = false → n = 0 := fun hk => by rw [hs1, hk]; rfl
  have HOV := Lib.hid hov
  have HD := Lib.hid hdone
  have HBAD := Lib.hid hbad
  clear hs1 hov hdone hbad hokd
  go_wp2_with fail
  refine (hfd _ hB4).mono ?_
  rintro e w5 ⟨rfl, e5⟩
  replace E4 := Ext.trans E4 e5
  replace hL4 := hL4.ext e5
  replace hB4 := hB4.ext e5
  replace hr4 := e5.at hr4
  replace hs4 := e5.at hs4
  clear hfd a0 c0 c1 e5
  have hz5 := heap_alloc_top w5 (.cells #[.int .u64 0, .int .u8 0, .int .u8 0, .int .u8 0, .int .i64 0, .int .i64 0, .int .i64 0] 57)
  have ez5 := ext_alloc w5 (.cells #[.int .u64 0, .int .u8 0, .int .u8 0, .int .u8 0, .int .i64 0, .int .i64 0, .int .i64 0] 57)
  obtain ⟨q1, q2, q3, q4, q5, q6⟩ := HQS.out
  have hq2 := HQ2.out
  clear HQS HQ2 HBAD
  have q5' : decide (n0 < 1) = false := by simp; omega
  have q6' : decide (most < 1) = false := by simp; omega
  clear HOV
  go_wp2_with (
    refine wpList_row rfl rfl 57 _ _ rfl w5.heap.size _ rfl rfl 57 _ hz5 (by kernel_rfl) (by rfl) (by rfl) ?_
    intro w6 hb6 _ ho4
    have e6 : Ext w5 w6 := hb6 _ _ (Nat.le_refl _) ez5
    replace E4 := Ext.trans E4 e6
    replace hL4 := hL4.ext e6
    replace hB4 := hB4.ext e6
    replace hr4 := e6.at hr4
    replace hs4 := e6.at hs4
    clear hb6 e6 hz5 ez5
    have c0 := cell_at (j := 0) hs4 rfl
    have c1 := cell_at (j := 1) hs4 rfl
    have a0 := cell_at (j := 0) hr4 rfl
    have a1 := cell_at (j := 1) hr4 rfl
    have a2 := cell_at (j := 2) hr4 rfl
    have a3 := cell_at (j := 3) hr4 rfl
    have a4 := cell_at (j := 4) hr4 rfl
    have o1 := cell_at (j := 1) ho4 rfl
    have o2 := cell_at (j := 2) ho4 rfl
    have o3 := cell_at (j := 3) ho4 rfl
    have o4 := cell_at (j := 4) ho4 rfl
    have o5 := cell_at (j := 5) ho4 rfl
    have o6 := cell_at (j := 6) ho4 rfl
    )
  refine (has_any p m L own _ hL4).mono ?_
  rintro e w9 ⟨rfl, e9⟩
  rw [q2]
  replace E4 := Ext.trans E4 e9
  replace hL4 := hL4.ext e9
  replace hB4 := hB4.ext e9
  replace hr4 := e9.at hr4
  replace hs4 := e9.at hs4
  replace ho4 := e9.at ho4
  clear c0 c1 a0 a1 a2 a3 a4 o1 o2 o3 o4 o5 o6 e9
  have c0 := cell_at (j := 0) hs4 rfl
  have c1 := cell_at (j := 1) hs4 rfl
  have a0 := cell_at (j := 0) hr4 rfl
  have a1 := cell_at (j := 1) hr4 rfl
  have a2 := cell_at (j := 2) hr4 rfl
  have a3 := cell_at (j := 3) hr4 rfl
  have a4 := cell_at (j := 4) hr4 rfl
  have o1 := cell_at (j := 1) ho4 rfl
  have o2 := cell_at (j := 2) ho4 rfl
  have o3 := cell_at (j := 3) ho4 rfl
  have o4 := cell_at (j := 4) ho4 rfl
  have o5 := cell_at (j := 5) ho4 rfl
  have o6 := cell_at (j := 6) ho4 rfl
  go_wp2_with fail
  refine (has_any p m L taker _ hL4).mono ?_
  rintro e w9 ⟨rfl, e9⟩
  rw [q3]
  replace E4 := Ext.trans E4 e9
  replace hL4 := hL4.ext e9
  replace hB4 := hB4.ext e9
  replace hr4 := e9.at hr4
  replace hs4 := e9.at hs4
  replace ho4 := e9.at ho4
  clear c0 c1 a0 a1 a2 a3 a4 o1 o2 o3 o4 o5 o6 e9
  have c0 := cell_at (j := 0) hs4 rfl
  have c1 := cell_at (j := 1) hs4 rfl
  have a0 := cell_at (j := 0) hr4 rfl
  have a1 := cell_at (j := 1) hr4 rfl
  have a2 := cell_at (j := 2) hr4 rfl
  have a3 := cell_at (j := 3) hr4 rfl
  have a4 := cell_at (j := 4) hr4 rfl
  have o1 := cell_at (j := 1) ho4 rfl
  have o2 := cell_at (j := 2) ho4 rfl
  have o3 := cell_at (j := 3) ho4 rfl
  have o4 := cell_at (j := 4) ho4 rfl
  have o5 := cell_at (j := 5) ho4 rfl
  have o6 := cell_at (j := 6) ho4 rfl
  go_wp2_with fail
  refine (has_any p m L to _ hL4).mono ?_
  rintro e w9 ⟨rfl, e9⟩
  rw [q4]
  replace E4 := Ext.trans E4 e9
  replace hL4 := hL4.ext e9
  replace hB4 := hB4.ext e9
  replace hr4 := e9.at hr4
  replace hs4 := e9.at hs4
  replace ho4 := e9.at ho4
  clear c0 c1 a0 a1 a2 a3 a4 o1 o2 o3 o4 o5 o6 e9
  have c0 := cell_at (j := 0) hs4 rfl
  have c1 := cell_at (j := 1) hs4 rfl
  have a0 := cell_at (j := 0) hr4 rfl
  have a1 := cell_at (j := 1) hr4 rfl
  have a2 := cell_at (j := 2) hr4 rfl
  have a3 := cell_at (j := 3) hr4 rfl
  have a4 := cell_at (j := 4) hr4 rfl
  have o1 := cell_at (j := 1) ho4 rfl
  have o2 := cell_at (j := 2) ho4 rfl
  have o3 := cell_at (j := 3) ho4 rfl
  have o4 := cell_at (j := 4) ho4 rfl
  have o5 := cell_at (j := 5) ho4 rfl
  have o6 := cell_at (j := 6) ho4 rfl
  by_cases q7 : n < n0
  · have q7' : decide (n < n0) = true := by simpa using q7
    by_cases q8 : n < left
    · have q8' : decide (n < left) = true := by simpa using q8
      obtain ⟨q9, q10⟩ : to ≠ own ∧ mostR (ofR L sell) own to ≤ n := by
        rcases hq2 with h | h | h
        · omega
        · omega
        · exact h
      clear hq2
      have q9' : (to == own) = false := by simpa using q9
      clear q9
      go_wp2_with fail
      refine (pmost_any p m L own to sell _ hL4 hwf).mono ?_
      rintro e w9 ⟨rfl, e9⟩
      replace E4 := Ext.trans E4 e9
      replace hL4 := hL4.ext e9
      replace hB4 := hB4.ext e9
      replace hr4 := e9.at hr4
      replace hs4 := e9.at hs4
      replace ho4 := e9.at ho4
      clear c0 c1 a0 a1 a2 a3 a4 o1 o2 o3 o4 o5 o6 e9
      have c0 := cell_at (j := 0) hs4 rfl
      have c1 := cell_at (j := 1) hs4 rfl
      have a0 := cell_at (j := 0) hr4 rfl
      have a1 := cell_at (j := 1) hr4 rfl
      have a2 := cell_at (j := 2) hr4 rfl
      have a3 := cell_at (j := 3) hr4 rfl
      have a4 := cell_at (j := 4) hr4 rfl
      have o1 := cell_at (j := 1) ho4 rfl
      have o2 := cell_at (j := 2) ho4 rfl
      have o3 := cell_at (j := 3) ho4 rfl
      have o4 := cell_at (j := 4) ho4 rfl
      have o5 := cell_at (j := 5) ho4 rfl
      have o6 := cell_at (j := 6) ho4 rfl
      generalize mostR (ofR L sell) own to = pm2 at *
      have q10' : decide (n < pm2) = false := by simp; omega
      by_cases qn : n = 0
      · first
          | (exfalso; omega)
          | (subst qn
             go_wp2_with fail
             refine (lives_any _).mono ?_
             rintro e w7 ⟨rfl, e7⟩
             go_wp2
             go_ret
             exact ⟨rfl, Ext.trans E4 e7⟩)
      · have qn' : (n == 0) = false := by simpa using qn
        obtain ⟨given, hd1, hd2, hd3⟩ := HD.out (by omega)
        have hd3' : decide (given ≤ most) = true := by simpa using hd3
        go_wp2_with fail
        refine (do_any p m pb g L B seq taker to n _ hL4 hwf hB4 hok (by omega)).mono ?_
        rintro e w11 ⟨rfl, k11, _, _, _, _⟩
        rw [hd1, hd2]
        have hr11 := k11.at hr4 (fun hx => by have := hge _ hx; omega)
        have E11 : Ext w w11 := (Keep.trans_fresh (S := []) (Keep.of_ext E4) k11 (fun x hx => by right; have := hge _ hx; omega)).ext
        clear c0 c1 a0 a1 a2 a3 a4 o1 o2 o3 o4 o5 o6 k11 hd1 hd2 hd3
        have a4 := cell_at (j := 4) hr11 rfl
        have hz11 := heap_alloc_top w11 (.cells #[.int .u64 0, .int .u8 0, .int .u8 0, .int .i64 0, .int .i64 0] 41)
        have ez11 := ext_alloc w11 (.cells #[.int .u64 0, .int .u8 0, .int .u8 0, .int .i64 0, .int .i64 0] 41)
        unfold fillV fillCells
        simp only
        go_wp2_with (
          refine wpList_row rfl rfl 41 _ _ rfl w11.heap.size _ rfl rfl 41 _ hz11 (by kernel_rfl) (by rfl) (by rfl) ?_
          intro w12 hb12 _ hs12
          have e12 : Ext w11 w12 := hb12 _ _ (Nat.le_refl _) ez11
          have d3 := cell_at (j := 3) hs12 rfl
          have d4 := cell_at (j := 4) hs12 rfl
          have a4 := cell_at (j := 4) (e12.at hr11) rfl
          )
        refine (lives_any _).mono ?_
        rintro e w13 ⟨rfl, e13⟩
        go_wp2
        go_ret
        exact ⟨rfl, Ext.trans E11 (Ext.trans e12 e13)⟩
    · have q8' : decide (n < left) = false := by simpa using q8
      clear hq2
      by_cases qn : n = 0
      · first
          | (exfalso; omega)
          | (subst qn
             go_wp2_with fail
             refine (lives_any _).mono ?_
             rintro e w7 ⟨rfl, e7⟩
             go_wp2
             go_ret
             exact ⟨rfl, Ext.trans E4 e7⟩)
      · have qn' : (n == 0) = false := by simpa using qn
        obtain ⟨given, hd1, hd2, hd3⟩ := HD.out (by omega)
        have hd3' : decide (given ≤ most) = true := by simpa using hd3
        go_wp2_with fail
        refine (do_any p m pb g L B seq taker to n _ hL4 hwf hB4 hok (by omega)).mono ?_
        rintro e w11 ⟨rfl, k11, _, _, _, _⟩
        rw [hd1, hd2]
        have hr11 := k11.at hr4 (fun hx => by have := hge _ hx; omega)
        have E11 : Ext w w11 := (Keep.trans_fresh (S := []) (Keep.of_ext E4) k11 (fun x hx => by right; have := hge _ hx; omega)).ext
        clear c0 c1 a0 a1 a2 a3 a4 o1 o2 o3 o4 o5 o6 k11 hd1 hd2 hd3
        have a4 := cell_at (j := 4) hr11 rfl
        have hz11 := heap_alloc_top w11 (.cells #[.int .u64 0, .int .u8 0, .int .u8 0, .int .i64 0, .int .i64 0] 41)
        have ez11 := ext_alloc w11 (.cells #[.int .u64 0, .int .u8 0, .int .u8 0, .int .i64 0, .int .i64 0] 41)
        unfold fillV fillCells
        simp only
        go_wp2_with (
          refine wpList_row rfl rfl 41 _ _ rfl w11.heap.size _ rfl rfl 41 _ hz11 (by kernel_rfl) (by rfl) (by rfl) ?_
          intro w12 hb12 _ hs12
          have e12 : Ext w11 w12 := hb12 _ _ (Nat.le_refl _) ez11
          have d3 := cell_at (j := 3) hs12 rfl
          have d4 := cell_at (j := 4) hs12 rfl
          have a4 := cell_at (j := 4) (e12.at hr11) rfl
          )
        refine (lives_any _).mono ?_
        rintro e w13 ⟨rfl, e13⟩
        go_wp2
        go_ret
        exact ⟨rfl, Ext.trans E11 (Ext.trans e12 e13)⟩
  · have q7' : decide (n < n0) = false := by simpa using q7
    clear hq2
    by_cases qn : n = 0
    · first
        | (exfalso; omega)
        | (subst qn
           go_wp2_with fail
           refine (lives_any _).mono ?_
           rintro e w7 ⟨rfl, e7⟩
           go_wp2
           go_ret
           exact ⟨rfl, Ext.trans E4 e7⟩)
    · have qn' : (n == 0) = false := by simpa using qn
      obtain ⟨given, hd1, hd2, hd3⟩ := HD.out (by omega)
      have hd3' : decide (given ≤ most) = true := by simpa using hd3
      go_wp2_with fail
      refine (do_any p m pb g L B seq taker to n _ hL4 hwf hB4 hok (by omega)).mono ?_
      rintro e w11 ⟨rfl, k11, _, _, _, _⟩
      rw [hd1, hd2]
      have hr11 := k11.at hr4 (fun hx => by have := hge _ hx; omega)
      have E11 : Ext w w11 := (Keep.trans_fresh (S := []) (Keep.of_ext E4) k11 (fun x hx => by right; have := hge _ hx; omega)).ext
      clear c0 c1 a0 a1 a2 a3 a4 o1 o2 o3 o4 o5 o6 k11 hd1 hd2 hd3
      have a4 := cell_at (j := 4) hr11 rfl
      have hz11 := heap_alloc_top w11 (.cells #[.int .u64 0, .int .u8 0, .int .u8 0, .int .i64 0, .int .i64 0] 41)
      have ez11 := ext_alloc w11 (.cells #[.int .u64 0, .int .u8 0, .int .u8 0, .int .i64 0, .int .i64 0] 41)
      unfold fillV fillCells
      simp only
      go_wp2_with (
        refine wpList_row rfl rfl 41 _ _ rfl w11.heap.size _ rfl rfl 41 _ hz11 (by kernel_rfl) (by rfl) (by rfl) ?_
        intro w12 hb12 _ hs12
        have e12 : Ext w11 w12 := hb12 _ _ (Nat.le_refl _) ez11
        have d3 := cell_at (j := 3) hs12 rfl
        have d4 := cell_at (j := 4) hs12 rfl
        have a4 := cell_at (j := 4) (e12.at hr11) rfl
        )
      refine (lives_any _).mono ?_
      rintro e w13 ⟨rfl, e13⟩
      go_wp2
      go_ret
      exact ⟨rfl, Ext.trans E11 (Ext.trans e12 e13)⟩
end Go.Proofs.Ytjddfopebpmaeaa
