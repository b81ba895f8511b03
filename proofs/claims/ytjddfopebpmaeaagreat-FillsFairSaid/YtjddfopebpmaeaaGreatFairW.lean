/- The walk of FillsFair: whatever the world and the fill, it answers true. FillsFair's row: whatever the world and the ask, the answer is true and both read as they did. -/
import Derived.Test.YtjddfopebpmaeaaGreatStands
import Derived.Test.YtjddfopebpmaeaaGreatAgain
import Derived.Test.YtjddfopebpmaeaaGreatMore
import Derived.Test.YtjddfopebpmaeaaGreatLives
import Derived.Test.YtjddfopebpmaeaaGreatRows
import Derived.Test.YtjddfopebpmaeaaGreatMade

namespace Go.Proofs.YtjddfopebpmaeaaGreat
open Go.RowKit Go.Rg Go.BigFrame

theorem eql_fill10 (w : World) : (binOp .eql 48 (.agg #[.int .u64 0, .int .u8 0, .int .u8 0, .int .i64 0, .int .i64 0]) (.agg #[.int .u64 0, .int .u8 0, .int .u8 0, .int .i64 0, .int .i64 0])).run Tryz.prog w = .ok (.bool true) w := by
  have hS : Tryz.prog.underlying 48 = some (.struct (Tryz.prog.fieldsOf 48)) := by kernel_rfl
  have hp : Tryz.prog.stoodInHeld 48 = false := by kernel_rfl
  rw [run_eql_struct]
  rw [show (10000 : Nat) = 9999 + 1 from rfl, run_equalIn_agg w 9999 48 _ _ hS hp]
  simp only [Program.fieldsOf, Tryz.underlying48]
  go_simp

/-- What a fill leaves of an offer. -/
theorem take_find {B : Bk} (hs : SeqN B) {seq n : Int} {o : Off} (hf : findR B.offs seq = some o) (h1 : 1 ≤ n) (h2 : n ≤ o.left) :
    findR (takeR B seq n).2.offs seq = (if o.left = n then none else some { o with left := o.left - n }) ∧ B.offs.length - 1 ≤ (takeR B seq n).2.offs.length ∧ (takeR B seq n).2.offs.length ≤ B.offs.length := by
  rcases idxR_spec B.offs seq with ⟨_, h4⟩ | ⟨j, hj, h3, h4⟩
  · rw [hf] at h4; cases h4
  · have hoj : B.offs[j]'hj = o := by rw [hf] at h4; injection h4 with h4; exact h4.symm
    have hoseq := (findR_mem hf).2
    unfold takeR
    rw [hf, h3]
    simp only [Int.toNat_natCast]
    rw [if_neg (by omega)]
    have hnd : (B.offs.map Off.seq).Nodup := hs
    rw [List.nodup_iff_pairwise_ne, List.pairwise_iff_getElem] at hnd
    by_cases hz : o.left = n
    · rw [if_pos hz, if_pos hz]
      refine ⟨?_, by simp only [List.length_eraseIdx, if_pos hj]; omega, by simp only [List.length_eraseIdx, if_pos hj]; omega⟩
      unfold findR
      rw [List.find?_eq_none]
      intro x hx
      obtain ⟨i, hi, rfl⟩ := List.getElem_of_mem hx
      simp only [List.length_eraseIdx, if_pos hj] at hi
      rw [List.getElem_eraseIdx]
      simp only [beq_iff_eq]
      intro e
      split at e
      · rename_i hij
        have := hnd i j (by simp; omega) (by simpa using hj) hij
        simp only [List.getElem_map] at this
        exact this (by rw [e, hoj, hoseq])
      · rename_i hij
        have := hnd j (i + 1) (by simpa using hj) (by simp; omega) (by omega)
        simp only [List.getElem_map] at this
        exact this (by rw [e, hoj, hoseq])
    · rw [if_neg hz, if_neg hz]
      refine ⟨?_, by simp, by simp⟩
      unfold findR
      rw [List.find?_eq_some_iff_getElem]
      refine ⟨by simp [hoseq], j, by simpa using hj, by simp, fun i hi => ?_⟩
      rw [List.getElem_set_ne (by omega)]
      have := hnd i j (by simp; omega) (by simpa using hj) hi
      simp only [List.getElem_map] at this
      simp only [Bool.not_eq_true', beq_eq_false_iff_ne, ne_eq]
      intro e
      exact this (by rw [e, hoj, hoseq])

/-- What stands ahead of the fill. -/
structure FF (w : World) (hA hC p m pb p' m' pb' : Nat) (g g' : Option Nat) (L : Led) (B : Bk) (seq taker to n0 most : Int) (full : Bool) (W : World) : Prop where
  led : IsLed W p m L
  book : IsBook W pb g B
  led' : IsLed W p' m' L
  book' : IsBook W pb' g' B
  row1 : W.heap[w.heap.size + 1]? = some (.cells #[.int .u64 seq, .int .u8 taker, .int .u8 to, .int .i64 n0, .int .i64 most, .bool full] 45 (0, 0))
  rowA : W.heap[hA]? = some (.cells #[.pointer (some ⟨p, 0, none⟩), .pointer (some ⟨pb, 0, none⟩)] 32 (0, 0))
  rowC : W.heap[hC]? = some (.cells #[.pointer (some ⟨p', 0, none⟩), .pointer (some ⟨pb', 0, none⟩)] 32 (0, 0))
  lo : ∀ x ∈ m :: pb :: g.toList, w.heap.size + 1 < x ∧ x < hA
  hi : hA < p' ∧ hA < m' ∧ hA < pb' ∧ (∀ x, g' = some x → hA < x) ∧ hA < hC
  ex : Ext w W
theorem FF.ext {w : World} {hA hC p m pb p' m' pb' : Nat} {g g' : Option Nat} {L : Led} {B : Bk} {seq taker to n0 most : Int} {full : Bool} {W W' : World} (h : FF w hA hC p m pb p' m' pb' g g' L B seq taker to n0 most full W) (k : Ext W W') :
    FF w hA hC p m pb p' m' pb' g g' L B seq taker to n0 most full W' :=
  { h with led := h.led.ext k, book := h.book.ext k, led' := h.led'.ext k, book' := h.book'.ext k, row1 := k.at h.row1, rowA := k.at h.rowA, rowC := k.at h.rowC, ex := Ext.trans h.ex k }


set_option maxRecDepth 100000 in
set_option maxHeartbeats 12800000 in
theorem fair10_any (va vo : Value) (acts : List Act5) (offs : List Off) (w : World) (ha : ArgSl w 5 va acts.length (actCells acts)) (hoa : ∀ x ∈ acts, x.ok) (ho : ArgSl w 7 vo offs.length (offCells offs)) (hoo : ∀ x ∈ offs, x.in64)
    (seq taker to n0 most : Int) (full : Bool) (hn0 : n0 ≤ 9223372036854775807) :
    Calls Tryz.prog 4 #[.agg #[va, vo], .agg #[.int .u64 seq, .int .u8 taker, .int .u8 to, .int .i64 n0, .int .i64 most, .bool full]] w (Ret (.bool true) w) := by
  have hgr := fun w' (k : Ext w w') => great10_any va vo acts offs w' (ha.ext k) (ho.ext k)
  have hmd := fun w' (k : Ext w w') => made10_any va vo acts offs w' (ha.ext k) hoa (ho.ext k) hoo
  obtain ⟨Aa, capa, rfl, _⟩ := ha
  obtain ⟨A, cap, rfl, _⟩ := ho
  clear hoa hoo
  have hb := heap_alloc_top w (.cells #[.slice Aa acts.length capa, .slice A offs.length cap] 25)
  have eb := ext_alloc w (.cells #[.slice Aa acts.length capa, .slice A offs.length cap] 25)
  have sb := size_alloc w (.cells #[.slice Aa acts.length capa, .slice A offs.length cap] 25)
  have hr := heap_alloc_top (w.alloc (.cells #[.slice Aa acts.length capa, .slice A offs.length cap] 25)) (.cells #[.int .u64 seq, .int .u8 taker, .int .u8 to, .int .i64 n0, .int .i64 most, .bool full] 45)
  have er := ext_alloc (w.alloc (.cells #[.slice Aa acts.length capa, .slice A offs.length cap] 25)) (.cells #[.int .u64 seq, .int .u8 taker, .int .u8 to, .int .i64 n0, .int .i64 most, .bool full] 45)
  rw [sb] at hr
  have hb := er.at hb
  have E0 := Ext.trans eb er
  clear eb er sb
  have c00 := cell_at (j := 0) hb rfl
  have c01 := cell_at (j := 1) hb rfl
  go_enter Tryz.func4, Tryz.ntmps4
  go_wp2_with fail
  refine (hgr _ E0).mono ?_
  rintro e w1 ⟨rfl, e1⟩
  have E1 := Ext.trans E0 e1
  have hb1 := e1.at hb
  have hr1 := e1.at hr
  clear c00 c01 hgr hb hr e1 E0
  have c00 := cell_at (j := 0) hb1 rfl
  have c01 := cell_at (j := 1) hb1 rfl
  generalize (decide (120 < acts.length) || decide (40 < offs.length)) = gr at *
  cases gr with
  | true =>
    clear hmd
    go_wp2_with fail
    refine (lives_any _).mono ?_
    rintro e w2 ⟨rfl, e2⟩
    go_wp2
    go_ret
    exact ⟨rfl, Ext.trans E1 e2⟩
  | false =>
    go_wp2_with fail
    refine (hmd _ E1).mono ?_
    rintro e w2 ⟨⟨p, m, pb, g, rfl, e2, hL, hB, hp1, hm1, hpb1, hg1⟩, hwf, hok⟩
    have hsn := (seqLt_made offs).1
    have hlt1 := lt_of_heap hr1
    have HSL := Lib.hid (show ∀ x ∈ m :: pb :: g.toList, w.heap.size + 1 < x ∧ x < w2.heap.size from fun x hx => by
      rcases List.mem_cons.1 hx with rfl | hx
      · exact ⟨by omega, hL.ltm⟩
      · rcases List.mem_cons.1 hx with rfl | hx
        · exact ⟨by omega, hB.ltp⟩
        · have := hg1 x (by simpa using hx)
          exact ⟨by omega, hB.ltg x (by simpa using hx)⟩)
    clear hmd c00 c01 hb1 hp1 hm1 hpb1 hg1
    generalize madeL acts = L at *
    generalize madeB offs = B at *
    have E2 := Ext.trans E1 e2
    have hr2 := e2.at hr1
    have hz2 := heap_alloc_top w2 (.cells #[.pointer none, .pointer none] 32)
    have ez2 := ext_alloc w2 (.cells #[.pointer none, .pointer none] 32)
    go_wp2_with (first
      | (refine wpList_load_at rfl 32 _ _ _ rfl rfl ldh ?_)
      | (refine wpList_row rfl rfl 32 _ _ rfl w2.heap.size _ rfl rfl 32 _ hz2 (by kernel_rfl) (by rfl) (by rfl) ?_
         intro w3 hb3 ho3 hs3
         have e3 : Ext w2 w3 := hb3 _ _ (Nat.le_refl _) ez2
         have ldh := run_loadVar_row (P := Tryz.prog) w3 w2.heap.size _ 32 _ _ _ hs3 Tryz.underlying32 rfl (by kernel_rfl)))
    have hL3 := hL.ext e3
    have hB3 := hB.ext e3
    have hr3 := e3.at hr2
    have E3 := Ext.trans E2 e3
    obtain ⟨hA, hhA⟩ : ∃ hA, hA = w2.heap.size := ⟨_, rfl⟩
    have HHA := Lib.hid hhA
    rw [← hhA] at hs3 ldh ⊢
    clear hhA
    refine (hcopy_any p m pb g L B w3 hL3 hB3).mono ?_
    rintro e w4 ⟨p', m', pb', g', rfl, e4, hL', hB', hp9, hm9, hpb9, hg9⟩
    have h3l := lt_of_heap hs3
    clear ldh hz2 ez2 hb3 ho3 hr1 hr2 hL hB e2 E1 E2 hlt1
    have hz4 := heap_alloc_top w4 (.cells #[.pointer none, .pointer none] 32)
    have ez4 := ext_alloc w4 (.cells #[.pointer none, .pointer none] 32)
    have hs34 := e4.at hs3
    have hAC : hA < w4.heap.size := lt_of_heap hs34
    cases full with
    | true =>
      go_wp2_with (first
        | (refine wpList_load_at rfl 32 _ _ _ rfl rfl ldh ?_)
        | (refine wpList_row rfl rfl 32 _ _ rfl w4.heap.size _ rfl rfl 32 _ hz4 (by kernel_rfl) (by rfl) (by rfl) ?_
           intro w5 hb5 ho5 hs5
           have e5 : Ext w4 w5 := hb5 _ _ (Nat.le_refl _) ez4
           have HI := Lib.hid (show FF w hA w4.heap.size p m pb p' m' pb' g g' L B seq taker to _ most _ w5 from
             { led := hL3.ext (Ext.trans e4 e5), book := hB3.ext (Ext.trans e4 e5), led' := hL'.ext e5, book' := hB'.ext e5, row1 := e5.at (e4.at hr3), rowA := e5.at hs34, rowC := hs5
               lo := fun x hx => by have := HSL.out x hx; have := HHA.out; omega
               hi := ⟨by omega, by omega, by omega, fun x hx => by have := hg9 x hx; omega, hAC⟩
               ex := Ext.trans E3 (Ext.trans e4 e5) })
           have ldh := run_loadVar_row (P := Tryz.prog) _ hA _ 32 _ _ _ HI.out.rowA Tryz.underlying32 rfl (by kernel_rfl)
           have a0 := cell_at (j := 0) HI.out.row1 rfl
           have a1 := cell_at (j := 1) HI.out.row1 rfl
           have a2 := cell_at (j := 2) HI.out.row1 rfl
           have a3 := cell_at (j := 3) HI.out.row1 rfl
           have a4 := cell_at (j := 4) HI.out.row1 rfl
           have a5 := cell_at (j := 5) HI.out.row1 rfl))
      obtain ⟨hC, hhC⟩ : ∃ hC, hC = w4.heap.size := ⟨_, rfl⟩
      rw [← hhC] at HI ⊢
      clear hL3 hB3 hr3 hs3 E3 hL' hB' e4 hs34 hz4 ez4 hb5 ho5 hs5 e5 hAC hhC
      refine (hmay_any p m pb g L B seq taker to n0 most _ HI.out.led hwf HI.out.book hok).mono ?_
      rintro e w6 ⟨rfl, e6⟩
      obtain ⟨nq, hnqe⟩ : ∃ nq, nq = mayT L B seq taker to n0 most := ⟨_, rfl⟩
      have hnq : nq ≤ 9223372036854775807 := by rw [hnqe]; have := (may_bd L B seq taker to n0 most).2.2; omega
      have HG := Lib.hid (show true = true → 1 ≤ nq → (doR L B seq taker to nq).1.2.2.2.2 ≤ most from fun _ h1 => by
        rw [hnqe] at h1 ⊢
        obtain ⟨given, d1, _, d3⟩ := may_done (L := L) (B := B) (seq := seq) (taker := taker) (to := to) (want := n0) (most := most) hok h1
        rw [d1]
        exact d3)
      rw [← hnqe]
      have HI := Lib.hid (HI.out.ext e6)
      clear hnqe ldh a0 a1 a2 a3 a4 a5 e6
      have ldh := run_loadVar_row (P := Tryz.prog) _ hA _ 32 _ _ _ HI.out.rowA Tryz.underlying32 rfl (by kernel_rfl)
      have a0 := cell_at (j := 0) HI.out.row1 rfl
      have a1 := cell_at (j := 1) HI.out.row1 rfl
      have a2 := cell_at (j := 2) HI.out.row1 rfl
      go_wp2_with (refine wpList_load_at rfl 32 _ _ _ rfl rfl ldh ?_)
      clear ldh a0 a1 a2
      have HQ := Lib.hid hnq
      clear hnq
      refine (do_any p m pb g L B seq taker to nq _ HI.out.led hwf HI.out.book hok HQ.out).mono ?_
      rintro e w7 ⟨rfl, k7, hL7, g4, hB7, _⟩
      have hlo := HI.out.lo
      have hhi := HI.out.hi
      have r71 := k7.at HI.out.row1 (fun hx => by have := hlo _ hx; omega)
      have r7A := k7.at HI.out.rowA (fun hx => by have := hlo _ hx; omega)
      have r7C := k7.at HI.out.rowC (fun hx => by have := hlo _ hx; omega)
      have hL7' := HI.out.led'.keep k7 (fun hx => by have := hlo _ hx; omega) (fun hx => by have := hlo _ hx; omega)
      have hB7' := HI.out.book'.keep k7 (fun hx => by have := hlo _ hx; omega) (fun x hx hx2 => by have := hlo _ hx2; have := hhi.2.2.2.1 x hx; omega)
      have E7 : Ext w w7 := (Keep.trans_fresh (S := []) (Keep.of_ext HI.out.ex) k7 (fun x hx => by right; have := hlo x hx; omega)).ext
      have hfo := fun o hf h1 hn => fill_ok (L := L) (B := B) (seq := seq) (taker := taker) (to := to) (n := nq) (o := o) hwf hok hf h1 hn
      have hmn := may_none (L := L) (B := B) (seq := seq) (taker := taker) (to := to) (want := nq) (most := 1099511627776)
      have hdr : (doR L B seq taker to nq) = if nq < 1 ∨ mayT L B seq taker to nq 1099511627776 < nq then ((0, 0, 0, 0, 0), 1, L, B) else doR L B seq taker to nq := by
        split
        · rename_i hc
          unfold doR
          rw [if_pos hc]
        · rfl
      clear k7 hlo HI
      have hz7 := heap_alloc_top w7 (.cells #[.int .u64 0, .int .u8 0, .int .u8 0, .int .i64 0, .int .i64 0] 48)
      have ez7 := ext_alloc w7 (.cells #[.int .u64 0, .int .u8 0, .int .u8 0, .int .i64 0, .int .i64 0] 48)
      by_cases hc : nq < 1 ∨ mayT L B seq taker to nq 1099511627776 < nq
      · rw [if_pos hc] at hdr
        rw [hdr] at hL7 hB7 ⊢
        simp only [fillV, fillCells] at hL7 hB7 ⊢
        have hfd := fun w9 h9 => find_any pb' g' B seq w9 h9
        have hfv : findV (findR B.offs seq) = .tuple #[((findR B.offs seq).getD zeroOff).agg, .bool (findR B.offs seq).isSome] := by cases findR B.offs seq <;> rfl
        rw [hfv] at hfd
        generalize (findR B.offs seq).getD zeroOff = oo at *
        obtain ⟨o0, o1, o2, o3, o4, o5, o6⟩ := oo
        generalize (findR B.offs seq).isSome = is at *
        simp only [Off.agg] at hfd
        clear hfo hmn hdr hfv hc HG
        go_wp2_with (first
          | (refine wpList_row rfl rfl 48 _ _ rfl w7.heap.size _ rfl rfl 48 _ hz7 (by kernel_rfl) (by rfl) (by rfl) ?_
             intro w8 hb8 ho8 hs8
             have e8 : Ext w7 w8 := hb8 _ _ (Nat.le_refl _) ez7
             have r81 := e8.at r71
             have r8A := e8.at r7A
             have r8C := e8.at r7C
             have a0 := cell_at (j := 0) r81 rfl
             have c1 := cell_at (j := 1) r8C rfl))
        refine (hfd _ (hB7'.ext e8)).mono ?_
        rintro e w9 ⟨rfl, e9⟩
        have hz9 := heap_alloc_top w9 (.cells #[.int .u64 0, .int .u8 0, .int .u8 0, .int .u8 0, .int .i64 0, .int .i64 0, .int .i64 0] 60)
        have ez9 := ext_alloc w9 (.cells #[.int .u64 0, .int .u8 0, .int .u8 0, .int .u8 0, .int .i64 0, .int .i64 0, .int .i64 0] 60)
        clear a0 c1
        go_wp2_with (refine wpList_row rfl rfl 60 _ _ rfl w9.heap.size _ rfl rfl 60 _ hz9 (by kernel_rfl) (by rfl) (by rfl) ?_; intro w10 hb10 ho10 hs10; have e10 : Ext w9 w10 := hb10 _ _ (Nat.le_refl _) ez9)
        have e810 := Ext.trans e9 e10
        have hs8' := e810.at hs8
        have r1A := e810.at r8A
        have r1C := e810.at r8C
        have hL10 := (hL7.ext e8).ext e810
        have hB10 := (hB7.ext e8).ext e810
        have hL10' := (hL7'.ext e8).ext e810
        have hB10' := (hB7'.ext e8).ext e810
        have E10 := Ext.trans E7 (Ext.trans e8 e810)
        clear hL7 hB7 hL7' hB7' E7 e8 e9 e10 e810 hb8 ho8 hs8 hb10 ho10 hs10 r71 r7A r7C r81 r8A r8C hz7 ez7 hz9 ez9 hfd
        have q0 := eql_fill10
        refine wp_region_hat waiter 28 [10, 13, 14, 15, 16, 17, 18, 19, 20, 21, 22, 23, 24, 25, 26, 27] (by kernel_rfl) (by kernel_rfl) ?_
        intro w1 hw1
        have ld : ∀ w', Cls w1 w' → (loadVar 48 ⟨w7.heap.size, 0, none⟩).run Tryz.prog w' = .ok (.agg #[.int .u64 0, .int .u8 0, .int .u8 0, .int .i64 0, .int .i64 0]) w' := by
          rintro _ ⟨u, rfl⟩
          exact run_loadVar_row u.to w7.heap.size _ _ _ _ _ ((Ext.trans hw1 u.h).at hs8') Tryz.underlying48 rfl (by kernel_rfl)
        have x0 : ∀ u : ExtOf w1, u.to.cell? ⟨hA, 0, none⟩ = _ := fun u => cell_at (j := 0) ((Ext.trans hw1 u.h).at r1A) rfl
        have y0 : ∀ u : ExtOf w1, u.to.cell? ⟨hC, 0, none⟩ = _ := fun u => cell_at (j := 0) ((Ext.trans hw1 u.h).at r1C) rfl
        simp only [heads, List.take_succ_cons, List.take_zero, List.contains_cons, List.contains_nil, Nat.reduceBEq, Bool.or_false, Bool.false_eq_true, Nat.reduceAdd, Bool.or_true, Bool.true_or, ↓reduceIte, Bool.or_self]
        repeat (first | go_big_quiet_step (fail) | (go_big_quiet_want; refine quiet_load 48 _ _ _ rfl rfl ld ?_; go_big_quiet_on; simp only [Act.put, List.setIfInBounds_toArray, List.set_cons_zero, List.set_cons_succ]))
        refine wpQuiet_nil ?_
        clear ld x0 y0
        refine wpX_callg 10 22 _ #[.pointer (some ⟨p, 0, none⟩)] _ (by rfl) _ _ (by rfl) Tryz.func22 rfl rfl (by kernel_rfl) (by rfl) (by kernel_rfl) (by decide) ?_
        intro v4 h04 h4
        refine (lines_any p m L v4 (hL10.ext h04) hwf).mono ?_
        rintro e v5 ⟨va, rfl, e5, howna⟩
        refine ⟨_, rfl, Ext.trans h04 e5, ?_⟩
        refine wpX_callg 13 22 _ #[.pointer (some ⟨p', 0, none⟩)] _ (by rfl) _ _ (by rfl) Tryz.func22 rfl rfl (by kernel_rfl) (by rfl) (by kernel_rfl) (by decide) ?_
        intro v6 h06 h6
        refine (lines_any p' m' L v6 (hL10'.ext h06) hwf).mono ?_
        rintro e v7 ⟨vb, rfl, e7, hownb⟩
        refine ⟨_, rfl, Ext.trans h06 e7, ?_⟩
        refine wpX_callg 14 21 _ #[va, vb] _ (by rfl) _ _ (by rfl) Tryz.func21 rfl rfl (by kernel_rfl) (by rfl) (by kernel_rfl) (by decide) ?_
        intro v8 h08 h8
        refine (sameLines_any v4.heap.size v6.heap.size va vb (linesR L.lines) v8 (SlAt.of_own (own_ext howna (Ext.trans h6 (Ext.trans e7 h8)))) (SlAt.of_own (own_ext hownb h8))).mono ?_
        rintro e v9 ⟨rfl, e9⟩
        refine ⟨_, rfl, Ext.trans h08 e9, ?_⟩
        have h09 := Ext.trans h08 e9
        clear howna hownb h4 e5 h6 e7 h8 e9 h04 h06 h08
        refine wpX_again waiter 15 [19, 22, 23, 24, 25, 26, 27] (by kernel_rfl) h09 ?_
        intro w1 hw1
        simp only [Act.put, List.getElem_toArray, List.getElem_cons_succ, List.getElem_cons_zero, List.setIfInBounds_toArray, List.set_cons_zero, List.set_cons_succ]
        have x1 : ∀ u : ExtOf w1, u.to.cell? ⟨hA, 1, none⟩ = _ := fun u => cell_at (j := 1) ((Ext.trans h09 (Ext.trans hw1 u.h)).at r1A) rfl
        have y1 : ∀ u : ExtOf w1, u.to.cell? ⟨hC, 1, none⟩ = _ := fun u => cell_at (j := 1) ((Ext.trans h09 (Ext.trans hw1 u.h)).at r1C) rfl
        simp only [heads, List.take_succ_cons, List.take_zero, List.drop_succ_cons, List.drop_zero, List.contains_cons, List.contains_nil, Nat.reduceBEq, Bool.or_false, Bool.false_eq_true, Nat.reduceAdd, Bool.or_true, Bool.true_or, ↓reduceIte, Bool.or_self]
        repeat (go_big_quiet_step (fail))
        refine wpQuiet_nil ?_
        clear x1 y1
        refine wpX_callg 19 24 _ #[.pointer (some ⟨pb, 0, none⟩)] _ (by rfl) _ _ (by rfl) Tryz.func24 rfl rfl (by kernel_rfl) (by rfl) (by kernel_rfl) (by decide) ?_
        intro v10 h010 h10
        refine (ball_any pb g4 B v10 (hB10.ext (Ext.trans h09 h010))).mono ?_
        rintro e v11 ⟨vc, rfl, e11, hsc⟩
        refine ⟨_, rfl, Ext.trans h010 e11, ?_⟩
        refine wpX_callg 22 24 _ #[.pointer (some ⟨pb', 0, none⟩)] _ (by rfl) _ _ (by rfl) Tryz.func24 rfl rfl (by kernel_rfl) (by rfl) (by kernel_rfl) (by decide) ?_
        intro v12 h012 h12
        refine (ball_any pb' g' B v12 (hB10'.ext (Ext.trans h09 h012))).mono ?_
        rintro e v13 ⟨vd, rfl, e13, hsd⟩
        refine ⟨_, rfl, Ext.trans h012 e13, ?_⟩
        refine wpX_callg 23 23 _ #[vc, vd] _ (by rfl) _ _ (by rfl) Tryz.func23 rfl rfl (by kernel_rfl) (by rfl) (by kernel_rfl) (by decide) ?_
        intro v14 h014 h14
        refine (sameOffers_any v10.heap.size v12.heap.size vc vd B.offs v14 (hsc.ext (Ext.trans h12 (Ext.trans e13 h14))) (hsd.ext h14)).mono ?_
        rintro e v15 ⟨rfl, e15⟩
        refine ⟨_, rfl, Ext.trans h014 e15, ?_⟩
        have h015 := Ext.trans h014 e15
        have E15 := Ext.trans E10 (Ext.trans h09 h015)
        clear hsc hsd h10 e11 h12 e13 h14 e15 h010 h012 h014
        refine wpX_again waiter 24 [] (by kernel_rfl) h015 ?_
        intro w1 hw1
        simp only [Act.put, List.getElem_toArray, List.getElem_cons_succ, List.getElem_cons_zero, List.setIfInBounds_toArray, List.set_cons_zero, List.set_cons_succ]
        simp only [heads, List.take_succ_cons, List.take_zero, List.drop_succ_cons, List.drop_zero, List.contains_cons, List.contains_nil, Nat.reduceBEq, Bool.or_false, Bool.false_eq_true, Nat.reduceAdd, Bool.or_true, Bool.true_or, ↓reduceIte, Bool.or_self]
        repeat (go_big_quiet_step ((go_at_call 10; exact Ret.cls (lives_any _))))
        refine wpQuiet_nil ?_
        refine wpX_tail (by kernel_rfl) ?_
        intro v16 e16 e16'
        simp only [Act.put, List.setIfInBounds_toArray, List.set_cons_zero, List.set_cons_succ, List.drop_succ_cons, List.drop_zero]
        clear h015
        go_wp2
        go_ret
        exact ⟨rfl, Ext.trans E15 e16⟩
      · have h1 : 1 ≤ nq := by omega
        have hn2 : nq ≤ mayT L B seq taker to nq 1099511627776 := by omega
        obtain ⟨o, hfd⟩ : ∃ o, findR B.offs seq = some o := by
          cases hfe : findR B.offs seq with
          | none => have := hmn hfe; omega
          | some o => exact ⟨o, rfl⟩
        have hF := hfo o hfd h1 hn2
        have hgm := fun hx => HG.out hx h1
        have hoo := hok o (findR_mem hfd).1
        have htf := take_find hsn hfd h1 hF.left
        clear hfo hmn hdr hc HG hn2
        have hdo := hF.doo
        simp only at hdo
        rw [hdo] at hgm ⊢
        have hL2 := hL7
        have hB2 := hB7
        clear hL7 hB7
        generalize (doR L B seq taker to nq).2.2.1 = L2 at *
        generalize (doR L B seq taker to nq).2.2.2 = B2 at *
        generalize (rupR nq o.num o.den).1 = gv at *
        simp only at hgm
        have hbk := hF.bk
        simp only at hbk
        rw [← hbk] at htf
        clear hbk hdo
        unfold offOk at hoo
        rw [decide_eq_true_eq] at hoo
        simp only [fillV, fillCells]
        have hfq := fun w9 h9 => find_any pb' g' B seq w9 h9
        have hfv : findV (findR B.offs seq) = .tuple #[o.agg, .bool true] := by rw [hfd]; rfl
        rw [hfv] at hfq
        obtain ⟨o0, own, sell, buy, left, num, den⟩ := o
        have hown := hF.own
        have hleft := hF.left
        have hfair := hF.fair
        simp only [Off.agg] at *
        have d1 : decide (nq < 1) = false := by simp; omega
        have d2 : decide (left < nq) = false := by simp; omega
        have d3 : (taker == own) = false := by rw [beq_eq_false_iff_ne]; exact fun e => hown e.symm
        first
          | (have d5 : gv ≤ most := hgm)
          | (have d5 : gv ≤ most := hgm rfl)
          | (have d5 : gv ≤ most := hgm trivial)
          | skip
        have HLE := Lib.hid hoo
        have HLEFT := Lib.hid hleft
        have HGM := Lib.hid hgm
        have HF := Lib.hid hF
        have HTF := Lib.hid htf
        have HFAIR := Lib.hid hfair
        have HOWN := Lib.hid hown
        clear hF htf hfair hown hoo hleft hgm hfv hfd
        go_wp2_with (first
          | (refine wpList_row rfl rfl 48 _ _ rfl w7.heap.size _ rfl rfl 48 _ hz7 (by kernel_rfl) (by rfl) (by rfl) ?_
             intro w8 hb8 ho8 hs8
             have e8 : Ext w7 w8 := hb8 _ _ (Nat.le_refl _) ez7
             have r81 := e8.at r71
             have r8A := e8.at r7A
             have r8C := e8.at r7C
             have a0 := cell_at (j := 0) r81 rfl
             have c1 := cell_at (j := 1) r8C rfl))
        refine (hfq _ (hB7'.ext e8)).mono ?_
        rintro e w9 ⟨rfl, e9⟩
        have hz9 := heap_alloc_top w9 (.cells #[.int .u64 0, .int .u8 0, .int .u8 0, .int .u8 0, .int .i64 0, .int .i64 0, .int .i64 0] 60)
        have ez9 := ext_alloc w9 (.cells #[.int .u64 0, .int .u8 0, .int .u8 0, .int .u8 0, .int .i64 0, .int .i64 0, .int .i64 0] 60)
        have hs9 := e9.at hs8
        have r91 := e9.at r81
        have r9A := e9.at r8A
        have r9C := e9.at r8C
        clear a0 c1 hs8 hz7 ez7 r71 r7A r7C r81 r8A r8C
        have hL9 := hL2.ext (Ext.trans e8 e9)
        have hB9 := hB2.ext (Ext.trans e8 e9)
        have hL9' := hL7'.ext (Ext.trans e8 e9)
        have hB9' := hB7'.ext (Ext.trans e8 e9)
        have E9 := Ext.trans E7 (Ext.trans e8 e9)
        obtain ⟨hf, hhf⟩ : ∃ hf, hf = w7.heap.size := ⟨_, rfl⟩
        rw [← hhf] at hs9 ⊢
        clear hhf hb8 ho8 e8 e9 hL2 hB2 hL7' hB7' E7 hfq
        go_wp2_with (refine wpList_row rfl rfl 60 _ _ rfl w9.heap.size _ rfl rfl 60 _ hz9 (by kernel_rfl) (by rfl) (by rfl) ?_
                     intro w10 hb10 ho10 hs10
                     have e10 : Ext w9 w10 := hb10 _ _ (Nat.le_refl _) ez9
                     have r1 := e10.at r91
                     have rA := e10.at r9A
                     have rC := e10.at r9C
                     have rF := e10.at hs9
                     have f0 := cell_at (j := 0) rF rfl
                     have f1 := cell_at (j := 1) rF rfl
                     have f2 := cell_at (j := 2) rF rfl
                     have f3 := cell_at (j := 3) rF rfl
                     have f4 := cell_at (j := 4) rF rfl
                     have x0 := cell_at (j := 0) r1 rfl
                     have x1 := cell_at (j := 1) r1 rfl
                     have x2 := cell_at (j := 2) r1 rfl
                     have x4 := cell_at (j := 4) r1 rfl
                     have x5 := cell_at (j := 5) r1 rfl
                     have o0 := cell_at (j := 0) hs10 rfl
                     have o1 := cell_at (j := 1) hs10 rfl
                     have o2 := cell_at (j := 2) hs10 rfl
                     have o3 := cell_at (j := 3) hs10 rfl
                     have o4 := cell_at (j := 4) hs10 rfl
                     have o5 := cell_at (j := 5) hs10 rfl
                     have o6 := cell_at (j := 6) hs10 rfl)
        refine (fair_any nq gv num den _ HFAIR.out).mono ?_
        rintro e w11 ⟨rfl, e11⟩
        have E11 := Ext.trans E9 (Ext.trans e10 e11)
        have hL11 := hL9.ext (Ext.trans e10 e11)
        have hB11 := hB9.ext (Ext.trans e10 e11)
        have hL11' := hL9'.ext (Ext.trans e10 e11)
        have hB11' := hB9'.ext (Ext.trans e10 e11)
        have r1 := e11.at r1
        have rA := e11.at rA
        have rC := e11.at rC
        have rF := e11.at rF
        have rO := e11.at hs10
        obtain ⟨ho, hho⟩ : ∃ ho, ho = w9.heap.size := ⟨_, rfl⟩
        rw [← hho] at rO ⊢
        clear hho f0 f1 f2 f3 f4 x0 x1 x2 x4 x5 o0 o1 o2 o3 o4 o5 o6 e10 e11 hs10 r91 r9A r9C hs9 hz9 ez9 hb10 ho10 E9 hL9 hB9 hL9' hB9'
        have ca0 := cell_at (j := 0) rA rfl
        have ca1 := cell_at (j := 1) rA rfl
        have cc0 := cell_at (j := 0) rC rfl
        have cc1 := cell_at (j := 1) rC rfl
        have f0 := cell_at (j := 0) rF rfl
        have f1 := cell_at (j := 1) rF rfl
        have f2 := cell_at (j := 2) rF rfl
        have f3 := cell_at (j := 3) rF rfl
        have f4 := cell_at (j := 4) rF rfl
        have o0 := cell_at (j := 0) rO rfl
        have o1 := cell_at (j := 1) rO rfl
        have o2 := cell_at (j := 2) rO rfl
        have o3 := cell_at (j := 3) rO rfl
        have o4 := cell_at (j := 4) rO rfl
        have o5 := cell_at (j := 5) rO rfl
        have o6 := cell_at (j := 6) rO rfl
        go_wp2_with fail
        refine (stands_any p m p' m' _ _ L2 L ⟨_, own, sell, buy, left, num, den⟩ (seq, taker, to, nq, gv) _ hL11 HF.out.wf hL11' hwf HF.out.lims HF.out.pos HLE.out.2.2.2.2.2.2.1 HFAIR.out HOWN.out).mono ?_
        rintro e w12 ⟨rfl, e12⟩
        clear ca0 ca1 cc0 cc1 f0 f1 f2 f3 f4 o0 o1 o2 o3 o4 o5 o6 d1 d2 d3
        have E12 := Ext.trans E11 e12
        have r1 := e12.at r1
        have rA := e12.at rA
        have rC := e12.at rC
        have rO := e12.at rO
        have hB12 := hB11.ext e12
        have hB12' := hB11'.ext e12
        have hlenB := HTF.out.2
        have hfb := find_any pb g4 B2 seq w12 hB12
        rw [HTF.out.1] at hfb
        try simp only at hfb
        clear E11 hL11 hL11' hB11 hB11' rF e12
        have ca1 := cell_at (j := 1) rA rfl
        have x0 := cell_at (j := 0) r1 rfl
        by_cases hz : left = nq
        · rw [if_pos hz] at hfb
          have hfv : findV (none : Option Off) = .tuple #[zeroOff.agg, .bool false] := rfl
          rw [hfv] at hfb
          simp only [Off.agg, zeroOff] at hfb
          have hd : decide (nq < left) = false := by simp; omega
          have HZ := Lib.hid hz
          clear hz
          go_wp2_with fail
          refine hfb.mono ?_
          rintro e w13 ⟨rfl, e13⟩
          have hz13 := heap_alloc_top w13 (.cells #[.int .u64 0, .int .u8 0, .int .u8 0, .int .u8 0, .int .i64 0, .int .i64 0, .int .i64 0] 60)
          have ez13 := ext_alloc w13 (.cells #[.int .u64 0, .int .u8 0, .int .u8 0, .int .u8 0, .int .i64 0, .int .i64 0, .int .i64 0] 60)
          clear ca1 x0
          go_wp2_with (refine wpList_row rfl rfl 60 _ _ rfl w13.heap.size _ rfl rfl 60 _ hz13 (by kernel_rfl) (by rfl) (by rfl) ?_; intro w14 hb14 ho14 hs14; have e14 : Ext w13 w14 := hb14 _ _ (Nat.le_refl _) ez13)
          have e134 := Ext.trans e13 e14
          have rA := e134.at rA
          have rC := e134.at rC
          have rO := e134.at rO
          have hB14 := hB12.ext e134
          have hB14' := hB12'.ext e134
          have E14 := Ext.trans E12 e134
          clear hB12 hB12' E12 e13 e14 e134 hz13 ez13 hb14 ho14 r1
          refine wp_region_all waiter [21, 22, 25, 26, 27, 28, 29] (by kernel_rfl) (by kernel_rfl) ?_
          intro w1 hw1
          have xo : ∀ u : ExtOf w1, u.to.cell? ⟨ho, 4, none⟩ = _ := fun u => cell_at (j := 4) ((Ext.trans hw1 u.h).at rO) rfl
          have xp : ∀ u : ExtOf w1, u.to.cell? ⟨w13.heap.size, 4, none⟩ = _ := fun u => cell_at (j := 4) ((Ext.trans hw1 u.h).at hs14) rfl
          have xa : ∀ u : ExtOf w1, u.to.cell? ⟨hA, 1, none⟩ = _ := fun u => cell_at (j := 1) ((Ext.trans hw1 u.h).at rA) rfl
          have xc : ∀ u : ExtOf w1, u.to.cell? ⟨hC, 1, none⟩ = _ := fun u => cell_at (j := 1) ((Ext.trans hw1 u.h).at rC) rfl
          simp only [heads, List.take_succ_cons, List.take_zero, List.contains_cons, List.contains_nil, Nat.reduceBEq, Bool.or_false, Bool.false_eq_true, Nat.reduceAdd, Bool.or_true, Bool.true_or, ↓reduceIte, Bool.or_self]
          repeat (go_big_quiet_step (fail))
          refine wpQuiet_nil ?_
          clear xo xp xa xc
          refine wpX_callg 21 24 _ #[.pointer (some ⟨pb, 0, none⟩)] _ (by rfl) _ _ (by rfl) Tryz.func24 rfl rfl (by kernel_rfl) (by rfl) (by kernel_rfl) (by decide) ?_
          intro v10 h010 h10
          refine (ball_any pb g4 B2 v10 (hB14.ext h010)).mono ?_
          rintro e v11 ⟨vc, rfl, e11, hsc⟩
          obtain ⟨Ac, capc, rfl, hc1, hc2, _⟩ := hsc
          refine ⟨_, rfl, Ext.trans h010 e11, ?_⟩
          have h011 := Ext.trans h010 e11
          refine wpX_again_all waiter 22 [23, 24, 25, 26, 27, 28, 29] 5 (by kernel_rfl) h011 ?_
          intro w1 hw1
          simp only [Act.put, List.getElem_toArray, List.getElem_cons_succ, List.getElem_cons_zero, List.setIfInBounds_toArray, List.set_cons_zero, List.set_cons_succ]
          simp only [heads, List.take_succ_cons, List.take_zero, List.drop_succ_cons, List.drop_zero, List.contains_cons, List.contains_nil, Nat.reduceBEq, Bool.or_false, Bool.false_eq_true, Nat.reduceAdd, Bool.or_true, Bool.true_or, ↓reduceIte, Bool.or_self]
          repeat (go_big_quiet_step (fail))
          refine wpQuiet_nil ?_
          refine wpX_callg 25 24 _ #[.pointer (some ⟨pb', 0, none⟩)] _ (by rfl) _ _ (by rfl) Tryz.func24 rfl rfl (by kernel_rfl) (by rfl) (by kernel_rfl) (by decide) ?_
          intro v12 h012 h12
          refine (ball_any pb' g' B v12 (hB14'.ext (Ext.trans h011 h012))).mono ?_
          rintro e v13 ⟨vd, rfl, e13, hsd⟩
          obtain ⟨Ad, capd, rfl, hd1, hd2, _⟩ := hsd
          refine ⟨_, rfl, Ext.trans h012 e13, ?_⟩
          have h013 := Ext.trans h011 (Ext.trans h012 e13)
          have hq1 : (0 : Int) ≤ (B.offs.length : Int) := by omega
          have hq2 : (B.offs.length : Int) ≤ 9223372036854775807 := by unfold maxLen at hd2; omega
          have hq3 : decide ((B2.offs.length : Int) < (B.offs.length : Int) - 1) = false := by have := hlenB.1; simp; omega
          refine wpX_again_all waiter 26 [] 0 (by kernel_rfl) (Ext.trans h012 e13) ?_
          intro w1 hw1
          simp only [Act.put, List.getElem_toArray, List.getElem_cons_succ, List.getElem_cons_zero, List.setIfInBounds_toArray, List.set_cons_zero, List.set_cons_succ]
          simp only [heads, List.take_succ_cons, List.take_zero, List.drop_succ_cons, List.drop_zero, List.contains_cons, List.contains_nil, Nat.reduceBEq, Bool.or_false, Bool.false_eq_true, Nat.reduceAdd, Bool.or_true, Bool.true_or, ↓reduceIte, Bool.or_self]
          repeat (go_big_quiet_step (fail))
          refine wpQuiet_nil ?_
          refine wpX_done (by kernel_rfl) ?_
          intro v14 e14 e14'
          try simp only [Act.put, List.getElem_toArray, List.getElem_cons_succ, List.getElem_cons_zero, List.setIfInBounds_toArray, List.set_cons_zero, List.set_cons_succ]
          have E15 := Ext.trans E14 (Ext.trans h013 e14)
          go_wp2_with fail
          refine (lives_any _).mono ?_
          rintro e w16 ⟨rfl, e16⟩
          go_wp2
          go_ret
          exact ⟨rfl, Ext.trans E15 e16⟩
        · rw [if_neg hz] at hfb
          have hfv : findV (some (⟨o0, own, sell, buy, left - nq, num, den⟩ : Off)) = .tuple #[(⟨o0, own, sell, buy, left - nq, num, den⟩ : Off).agg, .bool true] := rfl
          rw [hfv] at hfb
          simp only [Off.agg] at hfb
          have hb2 : nq < left := by have := HLEFT.out; omega
          have hd : decide (nq < left) = true := by simpa using hb2
          have hb3 : left ≤ 1099511627776 := HLE.out.2.2.2.2.2.2.2.2.1
          go_wp2_with fail
          refine hfb.mono ?_
          rintro e w13 ⟨rfl, e13⟩
          have hz13 := heap_alloc_top w13 (.cells #[.int .u64 0, .int .u8 0, .int .u8 0, .int .u8 0, .int .i64 0, .int .i64 0, .int .i64 0] 60)
          have ez13 := ext_alloc w13 (.cells #[.int .u64 0, .int .u8 0, .int .u8 0, .int .u8 0, .int .i64 0, .int .i64 0, .int .i64 0] 60)
          clear ca1 x0
          go_wp2_with (refine wpList_row rfl rfl 60 _ _ rfl w13.heap.size _ rfl rfl 60 _ hz13 (by kernel_rfl) (by rfl) (by rfl) ?_; intro w14 hb14 ho14 hs14; have e14 : Ext w13 w14 := hb14 _ _ (Nat.le_refl _) ez13)
          have e134 := Ext.trans e13 e14
          have rA := e134.at rA
          have rC := e134.at rC
          have rO := e134.at rO
          have hB14 := hB12.ext e134
          have hB14' := hB12'.ext e134
          have E14 := Ext.trans E12 e134
          clear hB12 hB12' E12 e13 e14 e134 hz13 ez13 hb14 ho14 r1
          refine wp_region_all waiter [21, 22, 25, 26, 27, 28, 29] (by kernel_rfl) (by kernel_rfl) ?_
          intro w1 hw1
          have xo : ∀ u : ExtOf w1, u.to.cell? ⟨ho, 4, none⟩ = _ := fun u => cell_at (j := 4) ((Ext.trans hw1 u.h).at rO) rfl
          have xp : ∀ u : ExtOf w1, u.to.cell? ⟨w13.heap.size, 4, none⟩ = _ := fun u => cell_at (j := 4) ((Ext.trans hw1 u.h).at hs14) rfl
          have xa : ∀ u : ExtOf w1, u.to.cell? ⟨hA, 1, none⟩ = _ := fun u => cell_at (j := 1) ((Ext.trans hw1 u.h).at rA) rfl
          have xc : ∀ u : ExtOf w1, u.to.cell? ⟨hC, 1, none⟩ = _ := fun u => cell_at (j := 1) ((Ext.trans hw1 u.h).at rC) rfl
          simp only [heads, List.take_succ_cons, List.take_zero, List.contains_cons, List.contains_nil, Nat.reduceBEq, Bool.or_false, Bool.false_eq_true, Nat.reduceAdd, Bool.or_true, Bool.true_or, ↓reduceIte, Bool.or_self]
          repeat (go_big_quiet_step (fail))
          refine wpQuiet_nil ?_
          clear xo xp xa xc
          refine wpX_callg 21 24 _ #[.pointer (some ⟨pb, 0, none⟩)] _ (by rfl) _ _ (by rfl) Tryz.func24 rfl rfl (by kernel_rfl) (by rfl) (by kernel_rfl) (by decide) ?_
          intro v10 h010 h10
          refine (ball_any pb g4 B2 v10 (hB14.ext h010)).mono ?_
          rintro e v11 ⟨vc, rfl, e11, hsc⟩
          obtain ⟨Ac, capc, rfl, hc1, hc2, _⟩ := hsc
          refine ⟨_, rfl, Ext.trans h010 e11, ?_⟩
          have h011 := Ext.trans h010 e11
          refine wpX_again_all waiter 22 [23, 24, 25, 26, 27, 28, 29] 5 (by kernel_rfl) h011 ?_
          intro w1 hw1
          simp only [Act.put, List.getElem_toArray, List.getElem_cons_succ, List.getElem_cons_zero, List.setIfInBounds_toArray, List.set_cons_zero, List.set_cons_succ]
          simp only [heads, List.take_succ_cons, List.take_zero, List.drop_succ_cons, List.drop_zero, List.contains_cons, List.contains_nil, Nat.reduceBEq, Bool.or_false, Bool.false_eq_true, Nat.reduceAdd, Bool.or_true, Bool.true_or, ↓reduceIte, Bool.or_self]
          repeat (go_big_quiet_step (fail))
          refine wpQuiet_nil ?_
          refine wpX_callg 25 24 _ #[.pointer (some ⟨pb', 0, none⟩)] _ (by rfl) _ _ (by rfl) Tryz.func24 rfl rfl (by kernel_rfl) (by rfl) (by kernel_rfl) (by decide) ?_
          intro v12 h012 h12
          refine (ball_any pb' g' B v12 (hB14'.ext (Ext.trans h011 h012))).mono ?_
          rintro e v13 ⟨vd, rfl, e13, hsd⟩
          obtain ⟨Ad, capd, rfl, hd1, hd2, _⟩ := hsd
          refine ⟨_, rfl, Ext.trans h012 e13, ?_⟩
          have h013 := Ext.trans h011 (Ext.trans h012 e13)
          have hq1 : (0 : Int) ≤ (B.offs.length : Int) := by omega
          have hq2 : (B.offs.length : Int) ≤ 9223372036854775807 := by unfold maxLen at hd2; omega
          have hq3 : decide ((B2.offs.length : Int) < (B.offs.length : Int) - 1) = false := by have := hlenB.1; simp; omega
          refine wpX_again_all waiter 26 [] 0 (by kernel_rfl) (Ext.trans h012 e13) ?_
          intro w1 hw1
          simp only [Act.put, List.getElem_toArray, List.getElem_cons_succ, List.getElem_cons_zero, List.setIfInBounds_toArray, List.set_cons_zero, List.set_cons_succ]
          simp only [heads, List.take_succ_cons, List.take_zero, List.drop_succ_cons, List.drop_zero, List.contains_cons, List.contains_nil, Nat.reduceBEq, Bool.or_false, Bool.false_eq_true, Nat.reduceAdd, Bool.or_true, Bool.true_or, ↓reduceIte, Bool.or_self]
          repeat (go_big_quiet_step (fail))
          refine wpQuiet_nil ?_
          refine wpX_done (by kernel_rfl) ?_
          intro v14 e14 e14'
          try simp only [Act.put, List.getElem_toArray, List.getElem_cons_succ, List.getElem_cons_zero, List.setIfInBounds_toArray, List.set_cons_zero, List.set_cons_succ]
          have E15 := Ext.trans E14 (Ext.trans h013 e14)
          go_wp2_with fail
          refine (lives_any _).mono ?_
          rintro e w16 ⟨rfl, e16⟩
          go_wp2
          go_ret
          exact ⟨rfl, Ext.trans E15 e16⟩
    | false =>
      obtain ⟨nq, hnqe⟩ : ∃ nq, nq = n0 := ⟨_, rfl⟩
      subst hnqe
      have hnq := hn0
      have HG := Lib.hid (show false = true → 1 ≤ nq → (doR L B seq taker to nq).1.2.2.2.2 ≤ most from fun h => nomatch h)
      go_wp2_with (first
        | (refine wpList_load_at rfl 32 _ _ _ rfl rfl ldh ?_)
        | (refine wpList_row rfl rfl 32 _ _ rfl w4.heap.size _ rfl rfl 32 _ hz4 (by kernel_rfl) (by rfl) (by rfl) ?_
           intro w5 hb5 ho5 hs5
           have e5 : Ext w4 w5 := hb5 _ _ (Nat.le_refl _) ez4
           have HI := Lib.hid (show FF w hA w4.heap.size p m pb p' m' pb' g g' L B seq taker to _ most _ w5 from
             { led := hL3.ext (Ext.trans e4 e5), book := hB3.ext (Ext.trans e4 e5), led' := hL'.ext e5, book' := hB'.ext e5, row1 := e5.at (e4.at hr3), rowA := e5.at hs34, rowC := hs5
               lo := fun x hx => by have := HSL.out x hx; have := HHA.out; omega
               hi := ⟨by omega, by omega, by omega, fun x hx => by have := hg9 x hx; omega, hAC⟩
               ex := Ext.trans E3 (Ext.trans e4 e5) })
           have ldh := run_loadVar_row (P := Tryz.prog) _ hA _ 32 _ _ _ HI.out.rowA Tryz.underlying32 rfl (by kernel_rfl)
           have a0 := cell_at (j := 0) HI.out.row1 rfl
           have a1 := cell_at (j := 1) HI.out.row1 rfl
           have a2 := cell_at (j := 2) HI.out.row1 rfl
           have a3 := cell_at (j := 3) HI.out.row1 rfl
           have a4 := cell_at (j := 4) HI.out.row1 rfl
           have a5 := cell_at (j := 5) HI.out.row1 rfl))
      obtain ⟨hC, hhC⟩ : ∃ hC, hC = w4.heap.size := ⟨_, rfl⟩
      rw [← hhC] at HI ⊢
      clear hL3 hB3 hr3 hs3 E3 hL' hB' e4 hs34 hz4 ez4 hb5 ho5 hs5 e5 hAC hhC
      clear ldh a0 a1 a2 a3 a4 a5
      have HQ := Lib.hid hnq
      clear hnq
      refine (do_any p m pb g L B seq taker to nq _ HI.out.led hwf HI.out.book hok HQ.out).mono ?_
      rintro e w7 ⟨rfl, k7, hL7, g4, hB7, _⟩
      have hlo := HI.out.lo
      have hhi := HI.out.hi
      have r71 := k7.at HI.out.row1 (fun hx => by have := hlo _ hx; omega)
      have r7A := k7.at HI.out.rowA (fun hx => by have := hlo _ hx; omega)
      have r7C := k7.at HI.out.rowC (fun hx => by have := hlo _ hx; omega)
      have hL7' := HI.out.led'.keep k7 (fun hx => by have := hlo _ hx; omega) (fun hx => by have := hlo _ hx; omega)
      have hB7' := HI.out.book'.keep k7 (fun hx => by have := hlo _ hx; omega) (fun x hx hx2 => by have := hlo _ hx2; have := hhi.2.2.2.1 x hx; omega)
      have E7 : Ext w w7 := (Keep.trans_fresh (S := []) (Keep.of_ext HI.out.ex) k7 (fun x hx => by right; have := hlo x hx; omega)).ext
      have hfo := fun o hf h1 hn => fill_ok (L := L) (B := B) (seq := seq) (taker := taker) (to := to) (n := nq) (o := o) hwf hok hf h1 hn
      have hmn := may_none (L := L) (B := B) (seq := seq) (taker := taker) (to := to) (want := nq) (most := 1099511627776)
      have hdr : (doR L B seq taker to nq) = if nq < 1 ∨ mayT L B seq taker to nq 1099511627776 < nq then ((0, 0, 0, 0, 0), 1, L, B) else doR L B seq taker to nq := by
        split
        · rename_i hc
          unfold doR
          rw [if_pos hc]
        · rfl
      clear k7 hlo HI
      have hz7 := heap_alloc_top w7 (.cells #[.int .u64 0, .int .u8 0, .int .u8 0, .int .i64 0, .int .i64 0] 48)
      have ez7 := ext_alloc w7 (.cells #[.int .u64 0, .int .u8 0, .int .u8 0, .int .i64 0, .int .i64 0] 48)
      by_cases hc : nq < 1 ∨ mayT L B seq taker to nq 1099511627776 < nq
      · rw [if_pos hc] at hdr
        rw [hdr] at hL7 hB7 ⊢
        simp only [fillV, fillCells] at hL7 hB7 ⊢
        have hfd := fun w9 h9 => find_any pb' g' B seq w9 h9
        have hfv : findV (findR B.offs seq) = .tuple #[((findR B.offs seq).getD zeroOff).agg, .bool (findR B.offs seq).isSome] := by cases findR B.offs seq <;> rfl
        rw [hfv] at hfd
        generalize (findR B.offs seq).getD zeroOff = oo at *
        obtain ⟨o0, o1, o2, o3, o4, o5, o6⟩ := oo
        generalize (findR B.offs seq).isSome = is at *
        simp only [Off.agg] at hfd
        clear hfo hmn hdr hfv hc HG
        go_wp2_with (first
          | (refine wpList_row rfl rfl 48 _ _ rfl w7.heap.size _ rfl rfl 48 _ hz7 (by kernel_rfl) (by rfl) (by rfl) ?_
             intro w8 hb8 ho8 hs8
             have e8 : Ext w7 w8 := hb8 _ _ (Nat.le_refl _) ez7
             have r81 := e8.at r71
             have r8A := e8.at r7A
             have r8C := e8.at r7C
             have a0 := cell_at (j := 0) r81 rfl
             have c1 := cell_at (j := 1) r8C rfl))
        refine (hfd _ (hB7'.ext e8)).mono ?_
        rintro e w9 ⟨rfl, e9⟩
        have hz9 := heap_alloc_top w9 (.cells #[.int .u64 0, .int .u8 0, .int .u8 0, .int .u8 0, .int .i64 0, .int .i64 0, .int .i64 0] 60)
        have ez9 := ext_alloc w9 (.cells #[.int .u64 0, .int .u8 0, .int .u8 0, .int .u8 0, .int .i64 0, .int .i64 0, .int .i64 0] 60)
        clear a0 c1
        go_wp2_with (refine wpList_row rfl rfl 60 _ _ rfl w9.heap.size _ rfl rfl 60 _ hz9 (by kernel_rfl) (by rfl) (by rfl) ?_; intro w10 hb10 ho10 hs10; have e10 : Ext w9 w10 := hb10 _ _ (Nat.le_refl _) ez9)
        have e810 := Ext.trans e9 e10
        have hs8' := e810.at hs8
        have r1A := e810.at r8A
        have r1C := e810.at r8C
        have hL10 := (hL7.ext e8).ext e810
        have hB10 := (hB7.ext e8).ext e810
        have hL10' := (hL7'.ext e8).ext e810
        have hB10' := (hB7'.ext e8).ext e810
        have E10 := Ext.trans E7 (Ext.trans e8 e810)
        clear hL7 hB7 hL7' hB7' E7 e8 e9 e10 e810 hb8 ho8 hs8 hb10 ho10 hs10 r71 r7A r7C r81 r8A r8C hz7 ez7 hz9 ez9 hfd
        have q0 := eql_fill10
        refine wp_region_hat waiter 28 [10, 13, 14, 15, 16, 17, 18, 19, 20, 21, 22, 23, 24, 25, 26, 27] (by kernel_rfl) (by kernel_rfl) ?_
        intro w1 hw1
        have ld : ∀ w', Cls w1 w' → (loadVar 48 ⟨w7.heap.size, 0, none⟩).run Tryz.prog w' = .ok (.agg #[.int .u64 0, .int .u8 0, .int .u8 0, .int .i64 0, .int .i64 0]) w' := by
          rintro _ ⟨u, rfl⟩
          exact run_loadVar_row u.to w7.heap.size _ _ _ _ _ ((Ext.trans hw1 u.h).at hs8') Tryz.underlying48 rfl (by kernel_rfl)
        have x0 : ∀ u : ExtOf w1, u.to.cell? ⟨hA, 0, none⟩ = _ := fun u => cell_at (j := 0) ((Ext.trans hw1 u.h).at r1A) rfl
        have y0 : ∀ u : ExtOf w1, u.to.cell? ⟨hC, 0, none⟩ = _ := fun u => cell_at (j := 0) ((Ext.trans hw1 u.h).at r1C) rfl
        simp only [heads, List.take_succ_cons, List.take_zero, List.contains_cons, List.contains_nil, Nat.reduceBEq, Bool.or_false, Bool.false_eq_true, Nat.reduceAdd, Bool.or_true, Bool.true_or, ↓reduceIte, Bool.or_self]
        repeat (first | go_big_quiet_step (fail) | (go_big_quiet_want; refine quiet_load 48 _ _ _ rfl rfl ld ?_; go_big_quiet_on; simp only [Act.put, List.setIfInBounds_toArray, List.set_cons_zero, List.set_cons_succ]))
        refine wpQuiet_nil ?_
        clear ld x0 y0
        refine wpX_callg 10 22 _ #[.pointer (some ⟨p, 0, none⟩)] _ (by rfl) _ _ (by rfl) Tryz.func22 rfl rfl (by kernel_rfl) (by rfl) (by kernel_rfl) (by decide) ?_
        intro v4 h04 h4
        refine (lines_any p m L v4 (hL10.ext h04) hwf).mono ?_
        rintro e v5 ⟨va, rfl, e5, howna⟩
        refine ⟨_, rfl, Ext.trans h04 e5, ?_⟩
        refine wpX_callg 13 22 _ #[.pointer (some ⟨p', 0, none⟩)] _ (by rfl) _ _ (by rfl) Tryz.func22 rfl rfl (by kernel_rfl) (by rfl) (by kernel_rfl) (by decide) ?_
        intro v6 h06 h6
        refine (lines_any p' m' L v6 (hL10'.ext h06) hwf).mono ?_
        rintro e v7 ⟨vb, rfl, e7, hownb⟩
        refine ⟨_, rfl, Ext.trans h06 e7, ?_⟩
        refine wpX_callg 14 21 _ #[va, vb] _ (by rfl) _ _ (by rfl) Tryz.func21 rfl rfl (by kernel_rfl) (by rfl) (by kernel_rfl) (by decide) ?_
        intro v8 h08 h8
        refine (sameLines_any v4.heap.size v6.heap.size va vb (linesR L.lines) v8 (SlAt.of_own (own_ext howna (Ext.trans h6 (Ext.trans e7 h8)))) (SlAt.of_own (own_ext hownb h8))).mono ?_
        rintro e v9 ⟨rfl, e9⟩
        refine ⟨_, rfl, Ext.trans h08 e9, ?_⟩
        have h09 := Ext.trans h08 e9
        clear howna hownb h4 e5 h6 e7 h8 e9 h04 h06 h08
        refine wpX_again waiter 15 [19, 22, 23, 24, 25, 26, 27] (by kernel_rfl) h09 ?_
        intro w1 hw1
        simp only [Act.put, List.getElem_toArray, List.getElem_cons_succ, List.getElem_cons_zero, List.setIfInBounds_toArray, List.set_cons_zero, List.set_cons_succ]
        have x1 : ∀ u : ExtOf w1, u.to.cell? ⟨hA, 1, none⟩ = _ := fun u => cell_at (j := 1) ((Ext.trans h09 (Ext.trans hw1 u.h)).at r1A) rfl
        have y1 : ∀ u : ExtOf w1, u.to.cell? ⟨hC, 1, none⟩ = _ := fun u => cell_at (j := 1) ((Ext.trans h09 (Ext.trans hw1 u.h)).at r1C) rfl
        simp only [heads, List.take_succ_cons, List.take_zero, List.drop_succ_cons, List.drop_zero, List.contains_cons, List.contains_nil, Nat.reduceBEq, Bool.or_false, Bool.false_eq_true, Nat.reduceAdd, Bool.or_true, Bool.true_or, ↓reduceIte, Bool.or_self]
        repeat (go_big_quiet_step (fail))
        refine wpQuiet_nil ?_
        clear x1 y1
        refine wpX_callg 19 24 _ #[.pointer (some ⟨pb, 0, none⟩)] _ (by rfl) _ _ (by rfl) Tryz.func24 rfl rfl (by kernel_rfl) (by rfl) (by kernel_rfl) (by decide) ?_
        intro v10 h010 h10
        refine (ball_any pb g4 B v10 (hB10.ext (Ext.trans h09 h010))).mono ?_
        rintro e v11 ⟨vc, rfl, e11, hsc⟩
        refine ⟨_, rfl, Ext.trans h010 e11, ?_⟩
        refine wpX_callg 22 24 _ #[.pointer (some ⟨pb', 0, none⟩)] _ (by rfl) _ _ (by rfl) Tryz.func24 rfl rfl (by kernel_rfl) (by rfl) (by kernel_rfl) (by decide) ?_
        intro v12 h012 h12
        refine (ball_any pb' g' B v12 (hB10'.ext (Ext.trans h09 h012))).mono ?_
        rintro e v13 ⟨vd, rfl, e13, hsd⟩
        refine ⟨_, rfl, Ext.trans h012 e13, ?_⟩
        refine wpX_callg 23 23 _ #[vc, vd] _ (by rfl) _ _ (by rfl) Tryz.func23 rfl rfl (by kernel_rfl) (by rfl) (by kernel_rfl) (by decide) ?_
        intro v14 h014 h14
        refine (sameOffers_any v10.heap.size v12.heap.size vc vd B.offs v14 (hsc.ext (Ext.trans h12 (Ext.trans e13 h14))) (hsd.ext h14)).mono ?_
        rintro e v15 ⟨rfl, e15⟩
        refine ⟨_, rfl, Ext.trans h014 e15, ?_⟩
        have h015 := Ext.trans h014 e15
        have E15 := Ext.trans E10 (Ext.trans h09 h015)
        clear hsc hsd h10 e11 h12 e13 h14 e15 h010 h012 h014
        refine wpX_again waiter 24 [] (by kernel_rfl) h015 ?_
        intro w1 hw1
        simp only [Act.put, List.getElem_toArray, List.getElem_cons_succ, List.getElem_cons_zero, List.setIfInBounds_toArray, List.set_cons_zero, List.set_cons_succ]
        simp only [heads, List.take_succ_cons, List.take_zero, List.drop_succ_cons, List.drop_zero, List.contains_cons, List.contains_nil, Nat.reduceBEq, Bool.or_false, Bool.false_eq_true, Nat.reduceAdd, Bool.or_true, Bool.true_or, ↓reduceIte, Bool.or_self]
        repeat (go_big_quiet_step ((go_at_call 10; exact Ret.cls (lives_any _))))
        refine wpQuiet_nil ?_
        refine wpX_tail (by kernel_rfl) ?_
        intro v16 e16 e16'
        simp only [Act.put, List.setIfInBounds_toArray, List.set_cons_zero, List.set_cons_succ, List.drop_succ_cons, List.drop_zero]
        clear h015
        go_wp2
        go_ret
        exact ⟨rfl, Ext.trans E15 e16⟩
      · have h1 : 1 ≤ nq := by omega
        have hn2 : nq ≤ mayT L B seq taker to nq 1099511627776 := by omega
        obtain ⟨o, hfd⟩ : ∃ o, findR B.offs seq = some o := by
          cases hfe : findR B.offs seq with
          | none => have := hmn hfe; omega
          | some o => exact ⟨o, rfl⟩
        have hF := hfo o hfd h1 hn2
        have hgm := fun hx => HG.out hx h1
        have hoo := hok o (findR_mem hfd).1
        have htf := take_find hsn hfd h1 hF.left
        clear hfo hmn hdr hc HG hn2
        have hdo := hF.doo
        simp only at hdo
        rw [hdo] at hgm ⊢
        have hL2 := hL7
        have hB2 := hB7
        clear hL7 hB7
        generalize (doR L B seq taker to nq).2.2.1 = L2 at *
        generalize (doR L B seq taker to nq).2.2.2 = B2 at *
        generalize (rupR nq o.num o.den).1 = gv at *
        simp only at hgm
        have hbk := hF.bk
        simp only at hbk
        rw [← hbk] at htf
        clear hbk hdo
        unfold offOk at hoo
        rw [decide_eq_true_eq] at hoo
        simp only [fillV, fillCells]
        have hfq := fun w9 h9 => find_any pb' g' B seq w9 h9
        have hfv : findV (findR B.offs seq) = .tuple #[o.agg, .bool true] := by rw [hfd]; rfl
        rw [hfv] at hfq
        obtain ⟨o0, own, sell, buy, left, num, den⟩ := o
        have hown := hF.own
        have hleft := hF.left
        have hfair := hF.fair
        simp only [Off.agg] at *
        have d1 : decide (nq < 1) = false := by simp; omega
        have d2 : decide (left < nq) = false := by simp; omega
        have d3 : (taker == own) = false := by rw [beq_eq_false_iff_ne]; exact fun e => hown e.symm
        first
          | (have d5 : gv ≤ most := hgm)
          | (have d5 : gv ≤ most := hgm rfl)
          | (have d5 : gv ≤ most := hgm trivial)
          | skip
        have HLE := Lib.hid hoo
        have HLEFT := Lib.hid hleft
        have HGM := Lib.hid hgm
        have HF := Lib.hid hF
        have HTF := Lib.hid htf
        have HFAIR := Lib.hid hfair
        have HOWN := Lib.hid hown
        clear hF htf hfair hown hoo hleft hgm hfv hfd
        go_wp2_with (first
          | (refine wpList_row rfl rfl 48 _ _ rfl w7.heap.size _ rfl rfl 48 _ hz7 (by kernel_rfl) (by rfl) (by rfl) ?_
             intro w8 hb8 ho8 hs8
             have e8 : Ext w7 w8 := hb8 _ _ (Nat.le_refl _) ez7
             have r81 := e8.at r71
             have r8A := e8.at r7A
             have r8C := e8.at r7C
             have a0 := cell_at (j := 0) r81 rfl
             have c1 := cell_at (j := 1) r8C rfl))
        refine (hfq _ (hB7'.ext e8)).mono ?_
        rintro e w9 ⟨rfl, e9⟩
        have hz9 := heap_alloc_top w9 (.cells #[.int .u64 0, .int .u8 0, .int .u8 0, .int .u8 0, .int .i64 0, .int .i64 0, .int .i64 0] 60)
        have ez9 := ext_alloc w9 (.cells #[.int .u64 0, .int .u8 0, .int .u8 0, .int .u8 0, .int .i64 0, .int .i64 0, .int .i64 0] 60)
        have hs9 := e9.at hs8
        have r91 := e9.at r81
        have r9A := e9.at r8A
        have r9C := e9.at r8C
        clear a0 c1 hs8 hz7 ez7 r71 r7A r7C r81 r8A r8C
        have hL9 := hL2.ext (Ext.trans e8 e9)
        have hB9 := hB2.ext (Ext.trans e8 e9)
        have hL9' := hL7'.ext (Ext.trans e8 e9)
        have hB9' := hB7'.ext (Ext.trans e8 e9)
        have E9 := Ext.trans E7 (Ext.trans e8 e9)
        obtain ⟨hf, hhf⟩ : ∃ hf, hf = w7.heap.size := ⟨_, rfl⟩
        rw [← hhf] at hs9 ⊢
        clear hhf hb8 ho8 e8 e9 hL2 hB2 hL7' hB7' E7 hfq
        go_wp2_with (refine wpList_row rfl rfl 60 _ _ rfl w9.heap.size _ rfl rfl 60 _ hz9 (by kernel_rfl) (by rfl) (by rfl) ?_
                     intro w10 hb10 ho10 hs10
                     have e10 : Ext w9 w10 := hb10 _ _ (Nat.le_refl _) ez9
                     have r1 := e10.at r91
                     have rA := e10.at r9A
                     have rC := e10.at r9C
                     have rF := e10.at hs9
                     have f0 := cell_at (j := 0) rF rfl
                     have f1 := cell_at (j := 1) rF rfl
                     have f2 := cell_at (j := 2) rF rfl
                     have f3 := cell_at (j := 3) rF rfl
                     have f4 := cell_at (j := 4) rF rfl
                     have x0 := cell_at (j := 0) r1 rfl
                     have x1 := cell_at (j := 1) r1 rfl
                     have x2 := cell_at (j := 2) r1 rfl
                     have x4 := cell_at (j := 4) r1 rfl
                     have x5 := cell_at (j := 5) r1 rfl
                     have o0 := cell_at (j := 0) hs10 rfl
                     have o1 := cell_at (j := 1) hs10 rfl
                     have o2 := cell_at (j := 2) hs10 rfl
                     have o3 := cell_at (j := 3) hs10 rfl
                     have o4 := cell_at (j := 4) hs10 rfl
                     have o5 := cell_at (j := 5) hs10 rfl
                     have o6 := cell_at (j := 6) hs10 rfl)
        refine (fair_any nq gv num den _ HFAIR.out).mono ?_
        rintro e w11 ⟨rfl, e11⟩
        have E11 := Ext.trans E9 (Ext.trans e10 e11)
        have hL11 := hL9.ext (Ext.trans e10 e11)
        have hB11 := hB9.ext (Ext.trans e10 e11)
        have hL11' := hL9'.ext (Ext.trans e10 e11)
        have hB11' := hB9'.ext (Ext.trans e10 e11)
        have r1 := e11.at r1
        have rA := e11.at rA
        have rC := e11.at rC
        have rF := e11.at rF
        have rO := e11.at hs10
        obtain ⟨ho, hho⟩ : ∃ ho, ho = w9.heap.size := ⟨_, rfl⟩
        rw [← hho] at rO ⊢
        clear hho f0 f1 f2 f3 f4 x0 x1 x2 x4 x5 o0 o1 o2 o3 o4 o5 o6 e10 e11 hs10 r91 r9A r9C hs9 hz9 ez9 hb10 ho10 E9 hL9 hB9 hL9' hB9'
        have ca0 := cell_at (j := 0) rA rfl
        have ca1 := cell_at (j := 1) rA rfl
        have cc0 := cell_at (j := 0) rC rfl
        have cc1 := cell_at (j := 1) rC rfl
        have f0 := cell_at (j := 0) rF rfl
        have f1 := cell_at (j := 1) rF rfl
        have f2 := cell_at (j := 2) rF rfl
        have f3 := cell_at (j := 3) rF rfl
        have f4 := cell_at (j := 4) rF rfl
        have o0 := cell_at (j := 0) rO rfl
        have o1 := cell_at (j := 1) rO rfl
        have o2 := cell_at (j := 2) rO rfl
        have o3 := cell_at (j := 3) rO rfl
        have o4 := cell_at (j := 4) rO rfl
        have o5 := cell_at (j := 5) rO rfl
        have o6 := cell_at (j := 6) rO rfl
        go_wp2_with fail
        refine (stands_any p m p' m' _ _ L2 L ⟨_, own, sell, buy, left, num, den⟩ (seq, taker, to, nq, gv) _ hL11 HF.out.wf hL11' hwf HF.out.lims HF.out.pos HLE.out.2.2.2.2.2.2.1 HFAIR.out HOWN.out).mono ?_
        rintro e w12 ⟨rfl, e12⟩
        clear ca0 ca1 cc0 cc1 f0 f1 f2 f3 f4 o0 o1 o2 o3 o4 o5 o6 d1 d2 d3
        have E12 := Ext.trans E11 e12
        have r1 := e12.at r1
        have rA := e12.at rA
        have rC := e12.at rC
        have rO := e12.at rO
        have hB12 := hB11.ext e12
        have hB12' := hB11'.ext e12
        have hlenB := HTF.out.2
        have hfb := find_any pb g4 B2 seq w12 hB12
        rw [HTF.out.1] at hfb
        try simp only at hfb
        clear E11 hL11 hL11' hB11 hB11' rF e12
        have ca1 := cell_at (j := 1) rA rfl
        have x0 := cell_at (j := 0) r1 rfl
        by_cases hz : left = nq
        · rw [if_pos hz] at hfb
          have hfv : findV (none : Option Off) = .tuple #[zeroOff.agg, .bool false] := rfl
          rw [hfv] at hfb
          simp only [Off.agg, zeroOff] at hfb
          have hd : decide (nq < left) = false := by simp; omega
          have HZ := Lib.hid hz
          clear hz
          go_wp2_with fail
          refine hfb.mono ?_
          rintro e w13 ⟨rfl, e13⟩
          have hz13 := heap_alloc_top w13 (.cells #[.int .u64 0, .int .u8 0, .int .u8 0, .int .u8 0, .int .i64 0, .int .i64 0, .int .i64 0] 60)
          have ez13 := ext_alloc w13 (.cells #[.int .u64 0, .int .u8 0, .int .u8 0, .int .u8 0, .int .i64 0, .int .i64 0, .int .i64 0] 60)
          clear ca1 x0
          go_wp2_with (refine wpList_row rfl rfl 60 _ _ rfl w13.heap.size _ rfl rfl 60 _ hz13 (by kernel_rfl) (by rfl) (by rfl) ?_; intro w14 hb14 ho14 hs14; have e14 : Ext w13 w14 := hb14 _ _ (Nat.le_refl _) ez13)
          have e134 := Ext.trans e13 e14
          have rA := e134.at rA
          have rC := e134.at rC
          have rO := e134.at rO
          have hB14 := hB12.ext e134
          have hB14' := hB12'.ext e134
          have E14 := Ext.trans E12 e134
          clear hB12 hB12' E12 e13 e14 e134 hz13 ez13 hb14 ho14 r1
          refine wp_region_all waiter [21, 22, 25, 26, 27, 28, 29] (by kernel_rfl) (by kernel_rfl) ?_
          intro w1 hw1
          have xo : ∀ u : ExtOf w1, u.to.cell? ⟨ho, 4, none⟩ = _ := fun u => cell_at (j := 4) ((Ext.trans hw1 u.h).at rO) rfl
          have xp : ∀ u : ExtOf w1, u.to.cell? ⟨w13.heap.size, 4, none⟩ = _ := fun u => cell_at (j := 4) ((Ext.trans hw1 u.h).at hs14) rfl
          have xa : ∀ u : ExtOf w1, u.to.cell? ⟨hA, 1, none⟩ = _ := fun u => cell_at (j := 1) ((Ext.trans hw1 u.h).at rA) rfl
          have xc : ∀ u : ExtOf w1, u.to.cell? ⟨hC, 1, none⟩ = _ := fun u => cell_at (j := 1) ((Ext.trans hw1 u.h).at rC) rfl
          simp only [heads, List.take_succ_cons, List.take_zero, List.contains_cons, List.contains_nil, Nat.reduceBEq, Bool.or_false, Bool.false_eq_true, Nat.reduceAdd, Bool.or_true, Bool.true_or, ↓reduceIte, Bool.or_self]
          repeat (go_big_quiet_step (fail))
          refine wpQuiet_nil ?_
          clear xo xp xa xc
          refine wpX_callg 21 24 _ #[.pointer (some ⟨pb, 0, none⟩)] _ (by rfl) _ _ (by rfl) Tryz.func24 rfl rfl (by kernel_rfl) (by rfl) (by kernel_rfl) (by decide) ?_
          intro v10 h010 h10
          refine (ball_any pb g4 B2 v10 (hB14.ext h010)).mono ?_
          rintro e v11 ⟨vc, rfl, e11, hsc⟩
          obtain ⟨Ac, capc, rfl, hc1, hc2, _⟩ := hsc
          refine ⟨_, rfl, Ext.trans h010 e11, ?_⟩
          have h011 := Ext.trans h010 e11
          refine wpX_again_all waiter 22 [23, 24, 25, 26, 27, 28, 29] 5 (by kernel_rfl) h011 ?_
          intro w1 hw1
          simp only [Act.put, List.getElem_toArray, List.getElem_cons_succ, List.getElem_cons_zero, List.setIfInBounds_toArray, List.set_cons_zero, List.set_cons_succ]
          simp only [heads, List.take_succ_cons, List.take_zero, List.drop_succ_cons, List.drop_zero, List.contains_cons, List.contains_nil, Nat.reduceBEq, Bool.or_false, Bool.false_eq_true, Nat.reduceAdd, Bool.or_true, Bool.true_or, ↓reduceIte, Bool.or_self]
          repeat (go_big_quiet_step (fail))
          refine wpQuiet_nil ?_
          refine wpX_callg 25 24 _ #[.pointer (some ⟨pb', 0, none⟩)] _ (by rfl) _ _ (by rfl) Tryz.func24 rfl rfl (by kernel_rfl) (by rfl) (by kernel_rfl) (by decide) ?_
          intro v12 h012 h12
          refine (ball_any pb' g' B v12 (hB14'.ext (Ext.trans h011 h012))).mono ?_
          rintro e v13 ⟨vd, rfl, e13, hsd⟩
          obtain ⟨Ad, capd, rfl, hd1, hd2, _⟩ := hsd
          refine ⟨_, rfl, Ext.trans h012 e13, ?_⟩
          have h013 := Ext.trans h011 (Ext.trans h012 e13)
          have hq1 : (0 : Int) ≤ (B.offs.length : Int) := by omega
          have hq2 : (B.offs.length : Int) ≤ 9223372036854775807 := by unfold maxLen at hd2; omega
          have hq3 : decide ((B2.offs.length : Int) < (B.offs.length : Int) - 1) = false := by have := hlenB.1; simp; omega
          refine wpX_again_all waiter 26 [] 0 (by kernel_rfl) (Ext.trans h012 e13) ?_
          intro w1 hw1
          simp only [Act.put, List.getElem_toArray, List.getElem_cons_succ, List.getElem_cons_zero, List.setIfInBounds_toArray, List.set_cons_zero, List.set_cons_succ]
          simp only [heads, List.take_succ_cons, List.take_zero, List.drop_succ_cons, List.drop_zero, List.contains_cons, List.contains_nil, Nat.reduceBEq, Bool.or_false, Bool.false_eq_true, Nat.reduceAdd, Bool.or_true, Bool.true_or, ↓reduceIte, Bool.or_self]
          repeat (go_big_quiet_step (fail))
          refine wpQuiet_nil ?_
          refine wpX_done (by kernel_rfl) ?_
          intro v14 e14 e14'
          try simp only [Act.put, List.getElem_toArray, List.getElem_cons_succ, List.getElem_cons_zero, List.setIfInBounds_toArray, List.set_cons_zero, List.set_cons_succ]
          have E15 := Ext.trans E14 (Ext.trans h013 e14)
          go_wp2_with fail
          refine (lives_any _).mono ?_
          rintro e w16 ⟨rfl, e16⟩
          go_wp2
          go_ret
          exact ⟨rfl, Ext.trans E15 e16⟩
        · rw [if_neg hz] at hfb
          have hfv : findV (some (⟨o0, own, sell, buy, left - nq, num, den⟩ : Off)) = .tuple #[(⟨o0, own, sell, buy, left - nq, num, den⟩ : Off).agg, .bool true] := rfl
          rw [hfv] at hfb
          simp only [Off.agg] at hfb
          have hb2 : nq < left := by have := HLEFT.out; omega
          have hd : decide (nq < left) = true := by simpa using hb2
          have hb3 : left ≤ 1099511627776 := HLE.out.2.2.2.2.2.2.2.2.1
          go_wp2_with fail
          refine hfb.mono ?_
          rintro e w13 ⟨rfl, e13⟩
          have hz13 := heap_alloc_top w13 (.cells #[.int .u64 0, .int .u8 0, .int .u8 0, .int .u8 0, .int .i64 0, .int .i64 0, .int .i64 0] 60)
          have ez13 := ext_alloc w13 (.cells #[.int .u64 0, .int .u8 0, .int .u8 0, .int .u8 0, .int .i64 0, .int .i64 0, .int .i64 0] 60)
          clear ca1 x0
          go_wp2_with (refine wpList_row rfl rfl 60 _ _ rfl w13.heap.size _ rfl rfl 60 _ hz13 (by kernel_rfl) (by rfl) (by rfl) ?_; intro w14 hb14 ho14 hs14; have e14 : Ext w13 w14 := hb14 _ _ (Nat.le_refl _) ez13)
          have e134 := Ext.trans e13 e14
          have rA := e134.at rA
          have rC := e134.at rC
          have rO := e134.at rO
          have hB14 := hB12.ext e134
          have hB14' := hB12'.ext e134
          have E14 := Ext.trans E12 e134
          clear hB12 hB12' E12 e13 e14 e134 hz13 ez13 hb14 ho14 r1
          refine wp_region_all waiter [21, 22, 25, 26, 27, 28, 29] (by kernel_rfl) (by kernel_rfl) ?_
          intro w1 hw1
          have xo : ∀ u : ExtOf w1, u.to.cell? ⟨ho, 4, none⟩ = _ := fun u => cell_at (j := 4) ((Ext.trans hw1 u.h).at rO) rfl
          have xp : ∀ u : ExtOf w1, u.to.cell? ⟨w13.heap.size, 4, none⟩ = _ := fun u => cell_at (j := 4) ((Ext.trans hw1 u.h).at hs14) rfl
          have xa : ∀ u : ExtOf w1, u.to.cell? ⟨hA, 1, none⟩ = _ := fun u => cell_at (j := 1) ((Ext.trans hw1 u.h).at rA) rfl
          have xc : ∀ u : ExtOf w1, u.to.cell? ⟨hC, 1, none⟩ = _ := fun u => cell_at (j := 1) ((Ext.trans hw1 u.h).at rC) rfl
          simp only [heads, List.take_succ_cons, List.take_zero, List.contains_cons, List.contains_nil, Nat.reduceBEq, Bool.or_false, Bool.false_eq_true, Nat.reduceAdd, Bool.or_true, Bool.true_or, ↓reduceIte, Bool.or_self]
          repeat (go_big_quiet_step (fail))
          refine wpQuiet_nil ?_
          clear xo xp xa xc
          refine wpX_callg 21 24 _ #[.pointer (some ⟨pb, 0, none⟩)] _ (by rfl) _ _ (by rfl) Tryz.func24 rfl rfl (by kernel_rfl) (by rfl) (by kernel_rfl) (by decide) ?_
          intro v10 h010 h10
          refine (ball_any pb g4 B2 v10 (hB14.ext h010)).mono ?_
          rintro e v11 ⟨vc, rfl, e11, hsc⟩
          obtain ⟨Ac, capc, rfl, hc1, hc2, _⟩ := hsc
          refine ⟨_, rfl, Ext.trans h010 e11, ?_⟩
          have h011 := Ext.trans h010 e11
          refine wpX_again_all waiter 22 [23, 24, 25, 26, 27, 28, 29] 5 (by kernel_rfl) h011 ?_
          intro w1 hw1
          simp only [Act.put, List.getElem_toArray, List.getElem_cons_succ, List.getElem_cons_zero, List.setIfInBounds_toArray, List.set_cons_zero, List.set_cons_succ]
          simp only [heads, List.take_succ_cons, List.take_zero, List.drop_succ_cons, List.drop_zero, List.contains_cons, List.contains_nil, Nat.reduceBEq, Bool.or_false, Bool.false_eq_true, Nat.reduceAdd, Bool.or_true, Bool.true_or, ↓reduceIte, Bool.or_self]
          repeat (go_big_quiet_step (fail))
          refine wpQuiet_nil ?_
          refine wpX_callg 25 24 _ #[.pointer (some ⟨pb', 0, none⟩)] _ (by rfl) _ _ (by rfl) Tryz.func24 rfl rfl (by kernel_rfl) (by rfl) (by kernel_rfl) (by decide) ?_
          intro v12 h012 h12
          refine (ball_any pb' g' B v12 (hB14'.ext (Ext.trans h011 h012))).mono ?_
          rintro e v13 ⟨vd, rfl, e13, hsd⟩
          obtain ⟨Ad, capd, rfl, hd1, hd2, _⟩ := hsd
          refine ⟨_, rfl, Ext.trans h012 e13, ?_⟩
          have h013 := Ext.trans h011 (Ext.trans h012 e13)
          have hq1 : (0 : Int) ≤ (B.offs.length : Int) := by omega
          have hq2 : (B.offs.length : Int) ≤ 9223372036854775807 := by unfold maxLen at hd2; omega
          have hq3 : decide ((B2.offs.length : Int) < (B.offs.length : Int) - 1) = false := by have := hlenB.1; simp; omega
          refine wpX_again_all waiter 26 [] 0 (by kernel_rfl) (Ext.trans h012 e13) ?_
          intro w1 hw1
          simp only [Act.put, List.getElem_toArray, List.getElem_cons_succ, List.getElem_cons_zero, List.setIfInBounds_toArray, List.set_cons_zero, List.set_cons_succ]
          simp only [heads, List.take_succ_cons, List.take_zero, List.drop_succ_cons, List.drop_zero, List.contains_cons, List.contains_nil, Nat.reduceBEq, Bool.or_false, Bool.false_eq_true, Nat.reduceAdd, Bool.or_true, Bool.true_or, ↓reduceIte, Bool.or_self]
          repeat (go_big_quiet_step (fail))
          refine wpQuiet_nil ?_
          refine wpX_done (by kernel_rfl) ?_
          intro v14 e14 e14'
          try simp only [Act.put, List.getElem_toArray, List.getElem_cons_succ, List.getElem_cons_zero, List.setIfInBounds_toArray, List.set_cons_zero, List.set_cons_succ]
          have E15 := Ext.trans E14 (Ext.trans h013 e14)
          go_wp2_with fail
          refine (lives_any _).mono ?_
          rintro e w16 ⟨rfl, e16⟩
          go_wp2
          go_ret
          exact ⟨rfl, Ext.trans E15 e16⟩
end Go.Proofs.YtjddfopebpmaeaaGreat

namespace Go.Proofs.YtjddfopebpmaeaaGreat
open Go.Joins Go.Deep Go.WideElems Go.Maps Go.ChangeShapes Go.WideShapes Go.ChangeAt Go.RowKit Go.Rg Go.BigFrame

set_option maxRecDepth 100000 in
theorem fillsFair_lifted (os : Os) (started : os.Started) (H : Type) (enc : TypeId × Value → H) :
    ReturnsInHanded {} Tryz.checked os 4 .any (Rows.fillsFairSpec.pre6 enc Tryz.prog Tryz.f4 Rows.fillsFairRow.domain false) (Rows.fillsFairSpec.post enc Tryz.prog Tryz.f4 false true false false) := by
  refine returnsInHanded_of_change (C := Tryz.checked) ownK started (by kernel_rfl) Tryz.func4
    (ChangeSpec.witness6 (enc := enc) (C := Tryz.checked) false ⟨#[], #[.agg #[.slice none 0 0, .slice none 0 0], .agg #[.int .u64 0, .int .u8 0, .int .u8 0, .int .i64 0, .int .i64 0, .bool false]], []⟩ 8 (by kernel_rfl) (by kernel_rfl) (by kernel_rfl) (by kernel_rfl)) ?_
  intro W base args ds gs before hval0 hW hcnd _
  have hval : ∀ (j : Nat) t v, Tryz.f4.params[j]? = some t → args[j]? = some v → Value.okWide Tryz.prog W .any base t v := hval0
  have hW' := hW
  obtain ⟨p, q, hA0, hV, rfl, hfz, hnd⟩ := hW
  have hA : DataW.TrodAll enc Tryz.prog W 0 (fun _ => true) true Tryz.f4.params.toList args.toList ds p := hA0
  rw [Tryz.params4] at hA hval
  obtain ⟨v0, v1, d0, d1, p0, p1, rfl, rfl, rfl, h0, h1⟩ := trodAll_two hA
  obtain ⟨rfl, rfl⟩ := trodVars_none hV
  obtain ⟨va, vo, acts, offs, rfl, ha, hoa, ho, hoo⟩ := open_world (hval 0 25 v0 rfl rfl) h0
  obtain ⟨seq, taker, to, n, most, full, rfl, _, _, _, wn, wm⟩ := open_ask (hval 1 45 v1 rfl rfl) h1
  clear hA0 hval0
  simp only [List.append_nil] at hW'
  have hlt : ∀ x ∈ p0 ++ p1, x.block < W.heap.size := fun x hx => by simpa using hW'.lt x hx
  refine (fair10_any va vo acts offs W ha hoa ho hoo seq taker to n most full (bounds_i64 wn).2).mono fun e W' ⟨he, hw⟩ => ?_
  subst he
  have bel : Below W.heap.size W W' := hw
  exact ⟨_, rfl, _, _, _, [], p0 ++ p1, [], hW', trodAll_mk1 (shut_bool Tryz.underlying4 true), trodAll_mk2 (Below.trod laidOutK (by kernel_rfl) (of_decide_eq_true (by kernel_rfl)) h0 bel (fun x hx => hlt x (by simp [hx]))) (Below.trod laidOutK (by kernel_rfl) (of_decide_eq_true (by kernel_rfl)) h1 bel (fun x hx => hlt x (by simp [hx]))), rfl, bel.frame _, fun h => by cases h⟩

/-- FillsFair, whatever the world and the ask: true. -/
theorem fillsFair_holds : Rows.FillsFairSaid :=
  OpenClaim.holds_of_wide 4 Tryz.f4 rfl rfl rfl rfl rfl rfl rfl ⟨rfl, rfl, rfl, rfl, rfl⟩ rfl rfl rfl rfl rfl (by kernel_rfl) Tryz.func4 (by kernel_rfl)
    (of_decide_eq_true (by kernel_rfl)) (by unfold Func.isWrapper; first | (rw [if_pos (by decide +kernel)]; kernel_rfl) | (rw [if_neg (by decide +kernel)]; exact ⟨rfl, rfl⟩))
    (fun os started H enc _ => fillsFair_lifted os started H enc)

#print axioms fillsFair_holds

end Go.Proofs.YtjddfopebpmaeaaGreat
