/- The walk of PlacesBest: whatever the world and the offer that comes, it answers true. PlacesBest's row: whatever the world and the offer that comes, the answer is true. -/
import Derived.Test.YtahdgojcebajkaaGreatWhP
import Derived.Test.YtahdgojcebajkaaGreatPLives
import Derived.Test.YtahdgojcebajkaaGreatFirsts
import Derived.Test.YtahdgojcebajkaaGreatMade

namespace Go.Proofs.YtahdgojcebajkaaGreat
open Go.RowKit Go.Rg Go.BigFrame

/-- What stands behind what came. -/
structure BX (w : World) (hA p m pb : Nat) (g : Option Nat) (L : Led) (B : Bk) (o0 o1 o2 o3 o4 o5 o6 : Int) (W : World) : Prop where
  led : IsLed W p m L
  book : IsBook W pb g B
  row1 : W.heap[w.heap.size + 1]? = some (.cells #[.int .u64 o0, .int .u8 o1, .int .u8 o2, .int .u8 o3, .int .i64 o4, .int .i64 o5, .int .i64 o6] 32 (0, 0))
  rowA : W.heap[hA]? = some (.cells #[.pointer (some ⟨p, 0, none⟩), .pointer (some ⟨pb, 0, none⟩)] 38 (0, 0))
  ex : Ext w W
theorem BX.ext {w : World} {hA p m pb : Nat} {g : Option Nat} {L : Led} {B : Bk} {o0 o1 o2 o3 o4 o5 o6 : Int} {W W' : World} (h : BX w hA p m pb g L B o0 o1 o2 o3 o4 o5 o6 W) (k : Ext W W') :
    BX w hA p m pb g L B o0 o1 o2 o3 o4 o5 o6 W' :=
  ⟨h.led.ext k, h.book.ext k, k.at h.row1, k.at h.rowA, Ext.trans h.ex k⟩
theorem BX.keep {S : List Nat} {w : World} {hA p m pb : Nat} {g : Option Nat} {L : Led} {B : Bk} {o0 o1 o2 o3 o4 o5 o6 : Int} {W W' : World} (h : BX w hA p m pb g L B o0 o1 o2 o3 o4 o5 o6 W) (k : Keep S W W') (hS : ∀ x ∈ S, W.heap.size ≤ x ∨ (w.heap.size + 1 < x ∧ x ≠ hA ∧ x ≠ p ∧ x ≠ m ∧ x ≠ pb ∧ g ≠ some x)) :
    BX w hA p m pb g L B o0 o1 o2 o3 o4 o5 o6 W' := by
  have l1 := h.led.ltp
  have l2 := h.led.ltm
  have l3 := h.book.ltp
  have l4 := lt_of_heap h.row1
  have l5 := lt_of_heap h.rowA
  refine ⟨h.led.keep k (fun hx => ?_) (fun hx => ?_), h.book.keep k (fun hx => ?_) (fun x hg hx => ?_), k.at h.row1 (fun hx => ?_), k.at h.rowA (fun hx => ?_), (Keep.trans_fresh (S := []) (Keep.of_ext h.ex) k (fun x hx => ?_)).ext⟩
  · rcases hS _ hx with q | ⟨_, _, q, _⟩ <;> omega
  · rcases hS _ hx with q | ⟨_, _, _, q, _⟩ <;> omega
  · rcases hS _ hx with q | ⟨_, _, _, _, q, _⟩ <;> omega
  · have := h.book.ltg x hg
    rcases hS _ hx with q | ⟨_, _, _, _, _, q⟩
    · omega
    · exact q hg
  · rcases hS _ hx with q | ⟨q, _⟩ <;> omega
  · rcases hS _ hx with q | ⟨_, q, _⟩ <;> omega
  · right
    have := h.ex.size
    rcases hS _ hx with q | ⟨q, _⟩ <;> omega


set_option maxRecDepth 100000 in
set_option maxHeartbeats 12800000 in
theorem pbest_any (va vo : Value) (acts : List Act5) (offs : List Off) (w : World) (ha : ArgSl w 5 va acts.length (actCells acts)) (hoa : ∀ x ∈ acts, x.ok) (ho : ArgSl w 7 vo offs.length (offCells offs)) (hoo : ∀ x ∈ offs, x.in64)
    (o0 o1 o2 o3 o4 o5 o6 : Int) (b3 : o4 ≤ 9223372036854775807) (b1 : o5 ≤ 9223372036854775807) (b2 : o6 ≤ 9223372036854775807) :
    Calls Tryz.prog 3 #[.agg #[va, vo], .agg #[.int .u64 o0, .int .u8 o1, .int .u8 o2, .int .u8 o3, .int .i64 o4, .int .i64 o5, .int .i64 o6]] w (Ret (.bool true) w) := by
  have hgr := fun w' (k : Ext w w') => great10_any va vo acts offs w' (ha.ext k) (ho.ext k)
  have hmd := fun w' (k : Ext w w') => made10_any va vo acts offs w' (ha.ext k) hoa (ho.ext k) hoo
  obtain ⟨Aa, capa, rfl, _⟩ := ha
  obtain ⟨A, cap, rfl, _⟩ := ho
  clear hoa hoo
  have hb := heap_alloc_top w (.cells #[.slice Aa acts.length capa, .slice A offs.length cap] 25)
  have eb := ext_alloc w (.cells #[.slice Aa acts.length capa, .slice A offs.length cap] 25)
  have sb := size_alloc w (.cells #[.slice Aa acts.length capa, .slice A offs.length cap] 25)
  have hr := heap_alloc_top (w.alloc (.cells #[.slice Aa acts.length capa, .slice A offs.length cap] 25)) (.cells #[.int .u64 o0, .int .u8 o1, .int .u8 o2, .int .u8 o3, .int .i64 o4, .int .i64 o5, .int .i64 o6] 32)
  have er := ext_alloc (w.alloc (.cells #[.slice Aa acts.length capa, .slice A offs.length cap] 25)) (.cells #[.int .u64 o0, .int .u8 o1, .int .u8 o2, .int .u8 o3, .int .i64 o4, .int .i64 o5, .int .i64 o6] 32)
  rw [sb] at hr
  have hb := er.at hb
  have E0 := Ext.trans eb er
  clear eb er sb
  have c00 := cell_at (j := 0) hb rfl
  have c01 := cell_at (j := 1) hb rfl
  go_enter Tryz.func3, Tryz.ntmps3
  go_wp2_with fail
  refine (hgr _ E0).mono ?_
  rintro e w1 ⟨rfl, e1⟩
  have E1 := Ext.trans E0 e1
  have hb1 := e1.at hb
  have hr1 := e1.at hr
  clear c00 c01 hgr hb hr e1 E0
  have c00 := cell_at (j := 0) hb1 rfl
  have c01 := cell_at (j := 1) hb1 rfl
  generalize (decide (120 < acts.length) || decide (40 < offs.length)) = gr at *
  cases gr with
  | true =>
    clear hmd
    go_wp2_with fail
    refine (lives12_any _).mono ?_
    rintro e w2 ⟨rfl, e2⟩
    go_wp2
    go_ret
    exact ⟨rfl, Ext.trans E1 e2⟩
  | false =>
    go_wp2_with fail
    refine (hmd _ E1).mono ?_
    rintro e w2 ⟨⟨p, m, pb, g, rfl, e2, hL, hB, hp1, hm1, hpb1, hg1⟩, hwf, hok⟩
    have hsl := seqLt_made offs
    clear hmd c00 c01 hb1 hp1 hm1 hpb1 hg1
    generalize madeL acts = L at *
    generalize madeB offs = B at *
    have E2 := Ext.trans E1 e2
    have hr2 := e2.at hr1
    have hz2 := heap_alloc_top w2 (.cells #[.pointer none, .pointer none] 38)
    have ez2 := ext_alloc w2 (.cells #[.pointer none, .pointer none] 38)
    go_wp2_with (first
      | (refine wpList_load_at rfl 38 _ _ _ rfl rfl ldh ?_)
      | (refine wpList_load_at rfl 32 _ _ _ rfl rfl ldo ?_)
      | (refine wpList_row rfl rfl 38 _ _ rfl w2.heap.size _ rfl rfl 38 _ hz2 (by kernel_rfl) (by rfl) (by rfl) ?_
         intro w5 hb5 ho5 hs5
         have e5 : Ext w2 w5 := hb5 _ _ (Nat.le_refl _) ez2
         have HI := Lib.hid (show BX w w2.heap.size p m pb g L B o0 o1 o2 o3 o4 o5 o6 w5 from
           ⟨hL.ext e5, hB.ext e5, e5.at hr2, hs5, Ext.trans E2 e5⟩)
         have ldh := run_loadVar_row (P := Tryz.prog) _ w2.heap.size _ 38 _ _ _ HI.out.rowA Tryz.underlying38 rfl (by kernel_rfl)
         have ldo := run_loadVar_row (P := Tryz.prog) _ (w.heap.size + 1) _ 32 _ _ _ HI.out.row1 Tryz.underlying32 rfl (by kernel_rfl)))
    obtain ⟨hA, hhA⟩ : ∃ hA, hA = w2.heap.size := ⟨_, rfl⟩
    rw [← hhA] at HI ldh ⊢
    clear hz2 ez2 hr1 hr2 hL hB e2 E1 E2 hb5 ho5 hs5 e5 hhA
    have hcm := come_any p m pb g L B ⟨o0, o1, o2, o3, o4, o5, o6⟩ w5 HI.out.led HI.out.book hwf hok hsl.1 b1 b2 b3
    have hch := fun h0 => come_ok (L := L) (B := B) (o := ⟨o0, o1, o2, o3, o4, o5, o6⟩) hwf hok hsl h0
    generalize comeR L B ⟨o0, o1, o2, o3, o4, o5, o6⟩ = r at *
    obtain ⟨re, rq, rL, rB, rf⟩ := r
    simp only at hch
    refine hcm.mono ?_
    rintro e w6 ⟨hv, av, rfl, e6, hbad, hgood⟩
    simp only at hbad hgood
    have hl1 := lt_of_heap HI.out.row1
    have HI := Lib.hid (HI.out.ext e6)
    have s56 := e6.size
    clear ldo hcm ldh e6
    have hz6 := heap_alloc_top w6 (.cells #[.pointer none, .pointer none] 38)
    have ez6 := ext_alloc w6 (.cells #[.pointer none, .pointer none] 38)
    by_cases hre : re = 0
    · subst hre
      obtain ⟨B1, left, ⟨k1, k2, k3, k4, k5, k6, hwf2, k8, k9, k10, k11, k12, k13, k14⟩⟩ := hch rfl
      try simp only at k1
      try simp only at k6
      try simp only at k11
      try simp only at k14
      try simp only at hwf2
      obtain ⟨p2, m2, pb2, g2, rfl, hL2, hB2, hsl2⟩ := hgood rfl
      have hmr := (offOk_rat k12).2.2
      unfold offOk at k12
      rw [decide_eq_true_eq] at k12
      simp only at k12 hmr
      have hno := fun (hl : 0 < left) => come_none (L := rL) (B' := B1) (o := ⟨o0, o1, o2, o3, left, o5, o6⟩) k8 hmr (k6 hl)
      simp only at hno
      obtain ⟨av1, avc, rfl, hsl1⟩ := hsl2
      have KS := Lib.hid (show SlAt w6 w5.heap.size 5 (.slice av1 rf.length avc) rf.length (flCells rf) from ⟨_, _, rfl, hsl1⟩)
      have KC := Lib.hid k1
      have HRF := Lib.hid k11
      have HNO := Lib.hid hno
      have HMR := Lib.hid hmr
      have HB1 := Lib.hid k9
      have HNX := Lib.hid k10
      have HFIN := Lib.hid k14
      have HOK1 := Lib.hid k8
      clear hbad hgood hch k1 k2 k3 k4 k6 k8 k9 k10 k11 k13 k14 hsl1 hmr hno
      go_wp2_with (first
        | (refine wpList_load_at rfl 38 _ _ _ rfl rfl ldh ?_)
        | (refine wpList_row rfl rfl 38 _ _ rfl w6.heap.size _ rfl rfl 38 _ hz6 (by kernel_rfl) (by rfl) (by rfl) ?_
           intro w7 hb7 ho7 hs7
           have e7 : Ext w6 w7 := hb7 _ _ (Nat.le_refl _) ez6
           have HI := Lib.hid (HI.out.ext e7)
           have KS := Lib.hid (KS.out.ext e7)
           have hL2 := hL2.ext e7
           have hB2 := hB2.ext e7
           have ldh := run_loadVar_row (P := Tryz.prog) _ w6.heap.size _ 38 _ _ _ hs7 Tryz.underlying38 rfl (by kernel_rfl)))
      have s67 := e7.size
      have hlt7 := lt_of_heap hs7
      obtain ⟨hE, hhE⟩ : ∃ hE, hE = w6.heap.size := ⟨_, rfl⟩
      rw [← hhE] at hs7 hlt7 ⊢
      clear hz6 ez6 hb7 ho7 e7 hhE
      refine (hcopy_any p2 m2 pb2 g2 rL rB w7 hL2 hB2).mono ?_
      rintro e w8 ⟨p3, m3, pb3, g3, rfl, e8, hL3, hB3, hp3, hm3, hpb3, hg3⟩
      have hz8 := heap_alloc_top w8 (.cells #[.pointer none, .pointer none] 38)
      have ez8 := ext_alloc w8 (.cells #[.pointer none, .pointer none] 38)
      clear ldh
      have hl7r := lt_of_heap HI.out.row1
      have hl7A := lt_of_heap HI.out.rowA
      have hl7p := HI.out.led.ltp
      have hl7m := HI.out.led.ltm
      have hl7b := HI.out.book.ltp
      have hl7g := HI.out.book.ltg
      have hB3' := hB3
      have hlb3 : pb3 < w8.heap.size := hB3'.ltp
      have hlg3 : ∀ x, g3 = some x → x < w8.heap.size := hB3'.ltg
      have s78 := e8.size
      rcases HFIN.out with ⟨hl0, hq0, hrB⟩ | ⟨hl1', hq0, hrB, hlen⟩
      · subst hq0
        have hrB := hrB.symm
        subst hrB
        go_wp2_with (first
          | (refine wpList_row rfl rfl 38 _ _ rfl w8.heap.size _ rfl rfl 38 _ hz8 (by kernel_rfl) (by rfl) (by rfl) ?_
             intro w9 hb9 ho9 hs9
             have e9 : Ext w8 w9 := hb9 _ _ (Nat.le_refl _) ez8
             have e79 := Ext.trans e8 e9
             have HI := Lib.hid (HI.out.ext e79)
             have x0 := cell_at (j := 0) HI.out.rowA rfl
             have x1 := cell_at (j := 1) HI.out.rowA rfl
             have y0 := cell_at (j := 0) hs9 rfl
             have y1 := cell_at (j := 1) hs9 rfl
             have a1 := cell_at (j := 1) HI.out.row1 rfl
             have a2 := cell_at (j := 2) HI.out.row1 rfl
             have a3 := cell_at (j := 3) HI.out.row1 rfl
             have a4 := cell_at (j := 4) HI.out.row1 rfl))
        have HQ := HI
        have hLE := hL3.ext e9
        have hBE := hB3.ext e9
        have HSL := Lib.hid (KS.out.ext e79)
        refine (firsts_any p m pb p3 m3 pb3 g _ L rL B _ B1 w5.heap.size _ rf o1 o1 o3 o2 1099511627776 o4 true _ HQ.out.led hwf HQ.out.book hok hsl.1 hLE hwf2 hBE HSL.out HRF.out (by decide) b3 (by decide) (by omega) KC.out rfl).mono ?_
        rintro e z1 ⟨rfl, ez1⟩
        clear x0 x1 y0 y1 a1 a2 a3 a4
        go_wp2_with fail
        refine (lives12_any _).mono ?_
        rintro e z2 ⟨rfl, ez2⟩
        go_wp2
        go_ret
        exact ⟨rfl, Ext.trans HQ.out.ex (Ext.trans ez1 ez2)⟩
      · subst hq0
        subst hrB
        have hn0 := HI.out.book.made
        have hnt := hB2.top
        simp only at hnt
        have hq0' : decide (0 < B.next) = true := by simpa using hn0
        have hsq1 : ∀ o ∈ B1.offs, o.seq < B.next := fun o ho => by have := HB1.out.2 o ho; have := HNX.out; omega
        have hcn := fun W hB => cancel_any pb3 g3 ⟨B1.offs ++ [⟨B.next, o1, o2, o3, left, o5, o6⟩], B.next + 1⟩ o1 B.next W hB
        rw [cancel_placed hsq1 rfl rfl] at hcn
        simp only at hcn
        have hfp := (find_placed hsq1 (x := ⟨B.next, o1, o2, o3, left, o5, o6⟩) rfl).1
        have hS : ∀ x ∈ pb3 :: g3.toList, w7.heap.size ≤ x ∧ x < w8.heap.size := fun x hx => by
          rcases List.mem_cons.1 hx with rfl | hx
          · exact ⟨hpb3, hlb3⟩
          · exact ⟨hg3 x (by simpa using hx), hlg3 x (by simpa using hx)⟩
        have HFP := Lib.hid hfp
        have HS := Lib.hid hS
        clear hfp hS HFIN hsq1 hl7g hlg3 hB3'
        go_wp2_with (first
          | (refine wpList_row rfl rfl 38 _ _ rfl w8.heap.size _ rfl rfl 38 _ hz8 (by kernel_rfl) (by rfl) (by rfl) ?_
             intro w9 hb9 ho9 hs9
             have e9 : Ext w8 w9 := hb9 _ _ (Nat.le_refl _) ez8
             have e79 := Ext.trans e8 e9
             have x1 := cell_at (j := 1) hs9 rfl
             have a1 := cell_at (j := 1) (e79.at HI.out.row1) rfl))
        have hL3 := hL3.ext e9
        have hB3 := hB3.ext e9
        have hap := apart_hb hL3 hB3
        refine (hcn _ hB3).mono ?_
        rintro e w10 ⟨rfl, g4, k10, hB4, hg4⟩
        have E710 : Ext w7 w10 := (Keep.trans_fresh (S := []) (Keep.of_ext e79) k10 (fun x hx => .inr (HS.out x hx).1)).ext
        have HI := Lib.hid (HI.out.ext E710)
        have KS := Lib.hid (KS.out.ext E710)
        have hB2 := hB2.ext E710
        have hs7 := E710.at hs7
        have hL3 := hL3.keep k10 hap.1 hap.2
        have hs9 := k10.at hs9 (fun hx => by have := HS.out _ hx; omega)
        have hfv : findV (findR (B1.offs ++ [⟨B.next, o1, o2, o3, left, o5, o6⟩]) B.next) = .tuple #[.agg #[.int .u64 B.next, .int .u8 o1, .int .u8 o2, .int .u8 o3, .int .i64 left, .int .i64 o5, .int .i64 o6], .bool true] := by rw [HFP.out]; rfl
        have hfd := find_any pb2 g2 _ B.next w10 hB2
        simp only at hfd
        rw [hfv] at hfd
        have y1 := cell_at (j := 1) hs7 rfl
        clear x1 a1 hcn E710 k10 hap hg4 hfv hB2 hL2 e79 e8 e9 HFP HS hz8 ez8 hb9 ho9
        go_wp2_with fail
        refine hfd.mono ?_
        rintro e w11 ⟨rfl, e11⟩
        have hz11 := heap_alloc_top w11 (.cells #[.int .u64 0, .int .u8 0, .int .u8 0, .int .u8 0, .int .i64 0, .int .i64 0, .int .i64 0] 32)
        have ez11 := ext_alloc w11 (.cells #[.int .u64 0, .int .u8 0, .int .u8 0, .int .u8 0, .int .i64 0, .int .i64 0, .int .i64 0] 32)
        clear y1 hfd
        go_wp2_with (first
          | (refine wpList_row rfl rfl 32 _ _ rfl w11.heap.size _ rfl rfl 32 _ hz11 (by kernel_rfl) (by rfl) (by rfl) ?_
             intro w12 hb12 ho12 hs12
             have e12 : Ext w11 w12 := hb12 _ _ (Nat.le_refl _) ez11
             have HI := Lib.hid (HI.out.ext (Ext.trans e11 e12))
             have hs9' := (Ext.trans e11 e12).at hs9
             have x1 := cell_at (j := 1) hs9' rfl
             have a2 := cell_at (j := 2) HI.out.row1 rfl
             have a3 := cell_at (j := 3) HI.out.row1 rfl))
        have E112 := Ext.trans e11 e12
        have KS := Lib.hid (KS.out.ext E112)
        have hL3 := hL3.ext E112
        have hB4 := hB4.ext E112
        obtain ⟨hX, hhX⟩ : ∃ hX, hX = w11.heap.size := ⟨_, rfl⟩
        rw [← hhX] at hs12 ⊢
        clear hhX hz11 ez11 hb12 ho12 e11 e12 E112 hs9
        refine (best_any pb3 g4 _ o3 o2 w12 hB4 HOK1.out HB1.out.1.b).mono ?_
        rintro e w13 ⟨bv, rfl, e13, hown13⟩
        have hno := HNO.out hl1'
        simp only at hown13
        have hmem : ∀ y ∈ bestR B1.offs o3 o2, offOk y = true := fun y hy => HOK1.out y (mem_bestR hy).1
        generalize bestR B1.offs o3 o2 = l at *
        have HI := Lib.hid (HI.out.ext e13)
        have KS := Lib.hid (KS.out.ext e13)
        have hL3 := hL3.ext e13
        have hB4 := hB4.ext e13
        have hs12 := e13.at hs12
        have hs9 := e13.at hs9'
        obtain ⟨bA, bcap, rfl, hv1, hv2, _, hv4⟩ := SlAt.of_own hown13
        have hl63 : (l.length : Int) ≤ 9223372036854775807 := by unfold maxLen at hv2; omega
        have HV := Lib.hid hv4
        have HNO2 := Lib.hid hno
        have HMEM := Lib.hid hmem
        clear x1 a2 a3 hs9' e13 hown13 hv1 hv2 hv4 hno hmem HNO
        go_wp2_with fail
        go_loopw [16] (fun iv wr => ∃ i : Nat, i ≤ l.length ∧ iv = .int .i64 i ∧ Ext w13 wr) (fun iv _ => l.length - (intOf iv).toNat)
        case atStart => exact ⟨0, Nat.zero_le _, rfl, Ext.refl _⟩
        case round =>
          obtain ⟨i, hi, rfl, er⟩ := hrel
          by_cases hin : i < l.length
          · obtain ⟨gb, rfl, _, hgl, hgc⟩ : ∃ g, bA = some ⟨g, 0, none⟩ ∧ w12.heap.size ≤ g ∧ g < w13.heap.size ∧ ∀ j u, (offCells l)[j]? = some u → w13.cell? ⟨g, j, none⟩ = some u := by
              rcases HV.out with h | h
              · omega
              · exact h
            have hcel : ∀ W, Ext w13 W → ∀ j, j < 7 → W.cell? ⟨gb, i * 7 + j, none⟩ = (l[i]'hin).cells[j]? := fun W q j hj => by
              rw [cell_block (q.block hgl)]
              have := offCells_at l i j hin hj
              rw [← this]
              have hj2 : i * 7 + j < (offCells l).length := by rw [offCells_len]; omega
              rw [List.getElem?_eq_getElem hj2]
              exact hgc _ _ (List.getElem?_eq_getElem hj2)
            have hy := HMEM.out _ (List.getElem_mem hin)
            have hn := HNO2.out _ (List.getElem_mem hin)
            have HCEL := Lib.hid hcel
            clear hgc hcel
            generalize l[i]'hin = y at *
            obtain ⟨sq, ow, se, bu, le, nu, de⟩ := y
            have hmy := (offOk_rat hy).2.2
            unfold mayR at hmy
            rw [decide_eq_true_eq] at hmy
            simp only at hmy hn
            have hib : (invR o5 o6).1 ≤ 9223372036854775807 ∧ (invR o5 o6).2 ≤ 9223372036854775807 := by unfold invR; split <;> simp only <;> omega
            have hinv := fun w => inverse_any o5 o6 w b1 b2
            have hcmp := fun w => rcompare_x nu de (invR o5 o6).1 (invR o5 o6).2 w (by omega) (by omega) hib.1 hib.2
            have hmay := fun W (q : Ext w13 W) => hmay_any p3 m3 pb3 g4 rL ⟨B1.offs, B.next + 1⟩ sq o1 o1 1099511627776 left W (hL3.ext q) hwf2 (hB4.ext q) HOK1.out
            have hmq : mayT rL ⟨B1.offs, B.next + 1⟩ sq o1 o1 1099511627776 left = mayT rL B1 sq o1 o1 1099511627776 left := rfl
            rw [hmq] at hmay
            unfold overR at hn
            simp only at hn
            generalize invR o5 o6 = iv at *
            obtain ⟨mn, md⟩ := iv
            simp only [rat] at hinv hcmp hn
            generalize cmpR nu de mn md = cv at *
            generalize mayT rL B1 sq o1 o1 1099511627776 left = mv at *
            have hi1 : (0 : Int) ≤ (i : Int) := by omega
            have hi2 : (i : Int) < (l.length : Int) := by omega
            have hi3 : decide ((i : Int) < (l.length : Int)) = true := by simpa using hin
            have HMY := Lib.hid hmy
            clear hmq hib hy hmy
            by_cases hcv : cv ≤ 0
            · have hcv1 : decide (cv ≤ 0) = true := by simpa using hcv
              have hmv : mv = 0 := hn (by rw [decide_eq_false_iff_not]; omega)
              subst hmv
              clear hn hcv
              go_wp2_with fail
              refine wp_region_all waiter [] (by kernel_rfl) (by kernel_rfl) ?_
              intro w1 hw1
              have x5 : ∀ u : ExtOf w1, u.to.cell? ⟨gb, i * 7 + 5, none⟩ = some (.int .i64 nu) := fun u => HCEL.out u.to (Ext.trans er (Ext.trans hw1 u.h)) 5 (by omega)
              have x6 : ∀ u : ExtOf w1, u.to.cell? ⟨gb, i * 7 + 6, none⟩ = some (.int .i64 de) := fun u => HCEL.out u.to (Ext.trans er (Ext.trans hw1 u.h)) 6 (by omega)
              have x0 : ∀ u : ExtOf w1, u.to.cell? ⟨gb, i * 7, none⟩ = some (.int .u64 sq) := fun u => HCEL.out u.to (Ext.trans er (Ext.trans hw1 u.h)) 0 (by omega)
              have y1 : ∀ u : ExtOf w1, u.to.cell? ⟨w.heap.size + 1, 1, none⟩ = _ := fun u => cell_at (j := 1) ((Ext.trans er (Ext.trans hw1 u.h)).at HI.out.row1) rfl
              have y5 : ∀ u : ExtOf w1, u.to.cell? ⟨w.heap.size + 1, 5, none⟩ = _ := fun u => cell_at (j := 5) ((Ext.trans er (Ext.trans hw1 u.h)).at HI.out.row1) rfl
              have y6 : ∀ u : ExtOf w1, u.to.cell? ⟨w.heap.size + 1, 6, none⟩ = _ := fun u => cell_at (j := 6) ((Ext.trans er (Ext.trans hw1 u.h)).at HI.out.row1) rfl
              have z0 : ∀ u : ExtOf w1, u.to.cell? ⟨w8.heap.size, 0, none⟩ = _ := fun u => cell_at (j := 0) ((Ext.trans er (Ext.trans hw1 u.h)).at hs9) rfl
              have z1 : ∀ u : ExtOf w1, u.to.cell? ⟨w8.heap.size, 1, none⟩ = _ := fun u => cell_at (j := 1) ((Ext.trans er (Ext.trans hw1 u.h)).at hs9) rfl
              have q4 : ∀ u : ExtOf w1, u.to.cell? ⟨hX, 4, none⟩ = _ := fun u => cell_at (j := 4) ((Ext.trans er (Ext.trans hw1 u.h)).at hs12) rfl
              have hm7 := fun u : ExtOf w1 => hmay u.to (Ext.trans er (Ext.trans hw1 u.h))
              simp only [heads, List.take_succ_cons, List.take_zero, List.contains_cons, List.contains_nil, Nat.reduceBEq, Bool.or_false, Bool.false_eq_true, Nat.reduceAdd, Bool.or_true, Bool.true_or, ↓reduceIte, Bool.or_self]
              repeat (go_big_quiet_step ((first | (go_at_call 19; exact Ret.cls (hinv _)) | (go_at_call 18; exact Ret.cls (hcmp _)) | (go_at_call 20; exact Ret.cls (hm7 _)))))
              refine wpQuiet_nil ?_
              refine wpX_done (by kernel_rfl) ?_
              intro wz ez ez'
              try simp only [Act.put, List.getElem_toArray, List.getElem_cons_succ, List.getElem_cons_zero, List.setIfInBounds_toArray, List.set_cons_zero, List.set_cons_succ]
              clear x5 x6 x0 y1 y5 y6 z0 z1 q4 hm7 hinv hcmp hmay HCEL hw1
              go_wp2
              exact ⟨⟨i + 1, by omega, by go_num, Ext.trans er ez⟩, by simp [intOf]; omega⟩
            · have hcv1 : decide (cv ≤ 0) = false := by simpa using hcv
              clear hn hcv hmay
              go_wp2_with fail
              refine wp_region_all waiter [] (by kernel_rfl) (by kernel_rfl) ?_
              intro w1 hw1
              have x5 : ∀ u : ExtOf w1, u.to.cell? ⟨gb, i * 7 + 5, none⟩ = some (.int .i64 nu) := fun u => HCEL.out u.to (Ext.trans er (Ext.trans hw1 u.h)) 5 (by omega)
              have x6 : ∀ u : ExtOf w1, u.to.cell? ⟨gb, i * 7 + 6, none⟩ = some (.int .i64 de) := fun u => HCEL.out u.to (Ext.trans er (Ext.trans hw1 u.h)) 6 (by omega)
              have y5 : ∀ u : ExtOf w1, u.to.cell? ⟨w.heap.size + 1, 5, none⟩ = _ := fun u => cell_at (j := 5) ((Ext.trans er (Ext.trans hw1 u.h)).at HI.out.row1) rfl
              have y6 : ∀ u : ExtOf w1, u.to.cell? ⟨w.heap.size + 1, 6, none⟩ = _ := fun u => cell_at (j := 6) ((Ext.trans er (Ext.trans hw1 u.h)).at HI.out.row1) rfl
              simp only [heads, List.take_succ_cons, List.take_zero, List.contains_cons, List.contains_nil, Nat.reduceBEq, Bool.or_false, Bool.false_eq_true, Nat.reduceAdd, Bool.or_true, Bool.true_or, ↓reduceIte, Bool.or_self]
              repeat (go_big_quiet_step ((first | (go_at_call 19; exact Ret.cls (hinv _)) | (go_at_call 18; exact Ret.cls (hcmp _)))))
              refine wpQuiet_nil ?_
              refine wpX_done (by kernel_rfl) ?_
              intro wz ez ez'
              try simp only [Act.put, List.getElem_toArray, List.getElem_cons_succ, List.getElem_cons_zero, List.setIfInBounds_toArray, List.set_cons_zero, List.set_cons_succ]
              clear x5 x6 y5 y6 hinv hcmp HCEL hw1
              go_wp2
              exact ⟨⟨i + 1, by omega, by go_num, Ext.trans er ez⟩, by simp [intOf]; omega⟩
          · have hil : i = l.length := by omega
            subst hil
            have hi3 : decide ((l.length : Int) < (l.length : Int)) = false := by simp
            have HQ := Lib.hid (HI.out.ext er)
            have HSL := Lib.hid (KS.out.ext er)
            have hLE := hL3.ext er
            have hBE := hB4.ext er
            have hs9r := er.at hs9
            have x0 := cell_at (j := 0) HQ.out.rowA rfl
            have x1 := cell_at (j := 1) HQ.out.rowA rfl
            have y0 := cell_at (j := 0) hs9r rfl
            have y1 := cell_at (j := 1) hs9r rfl
            have a1 := cell_at (j := 1) HQ.out.row1 rfl
            have a2 := cell_at (j := 2) HQ.out.row1 rfl
            have a3 := cell_at (j := 3) HQ.out.row1 rfl
            have a4 := cell_at (j := 4) HQ.out.row1 rfl
            clear HI KS hL3 hB4 hs9 hs9r hs12 HV HNO2 HMEM er
            go_wp2_with fail
            refine (firsts_any p m pb p3 m3 pb3 g _ L rL B _ B1 w5.heap.size _ rf o1 o1 o3 o2 1099511627776 o4 true _ HQ.out.led hwf HQ.out.book hok hsl.1 hLE hwf2 hBE HSL.out HRF.out (by decide) b3 (by decide) (by omega) KC.out rfl).mono ?_
            rintro e z1 ⟨rfl, ez1⟩
            clear x0 x1 y0 y1 a1 a2 a3 a4
            go_wp2_with fail
            refine (lives12_any _).mono ?_
            rintro e z2 ⟨rfl, ez2⟩
            go_wp2
            go_ret
            exact ⟨rfl, Ext.trans HQ.out.ex (Ext.trans ez1 ez2)⟩
    · have hre' : (re == 0) = false := by simpa using hre
      obtain ⟨rfl, rfl⟩ := hbad hre
      have hre2 : (re != 0) = true := by simp [bne, hre']
      clear hch hgood hbad hre
      go_wp2_with (refine wpList_row rfl rfl 38 _ _ rfl w6.heap.size _ rfl rfl 38 _ hz6 (by kernel_rfl) (by rfl) (by rfl) ?_; intro w7 hb7 ho7 hs7; have e7 : Ext w6 w7 := hb7 _ _ (Nat.le_refl _) ez6)
      refine (lives12_any _).mono ?_
      rintro e w8 ⟨rfl, e8⟩
      go_wp2
      go_ret
      exact ⟨rfl, Ext.trans HI.out.ex (Ext.trans e7 e8)⟩
end Go.Proofs.YtahdgojcebajkaaGreat

namespace Go.Proofs.YtahdgojcebajkaaGreat
open Go.Joins Go.Deep Go.WideElems Go.Maps Go.ChangeShapes Go.WideShapes Go.ChangeAt Go.RowKit Go.Rg Go.BigFrame

set_option maxRecDepth 100000 in
theorem placesBest_lifted (os : Os) (started : os.Started) (H : Type) (enc : TypeId × Value → H) :
    ReturnsInHanded {} Tryz.checked os 3 .any (Rows.placesBestSpec.pre6 enc Tryz.prog Tryz.f3 Rows.placesBestRow.domain false) (Rows.placesBestSpec.post enc Tryz.prog Tryz.f3 false true false false) := by
  refine returnsInHanded_of_change (C := Tryz.checked) ownK started (by kernel_rfl) Tryz.func3
    (ChangeSpec.witness6 (enc := enc) (C := Tryz.checked) false ⟨#[], #[.agg #[.slice none 0 0, .slice none 0 0], .agg #[.int .u64 0, .int .u8 0, .int .u8 0, .int .u8 0, .int .i64 0, .int .i64 0, .int .i64 0]], []⟩ 8 (by kernel_rfl) (by kernel_rfl) (by kernel_rfl) (by kernel_rfl)) ?_
  intro W base args ds gs before hval0 hW hcnd _
  have hval : ∀ (j : Nat) t v, Tryz.f3.params[j]? = some t → args[j]? = some v → Value.okWide Tryz.prog W .any base t v := hval0
  have hW' := hW
  obtain ⟨p, q, hA0, hV, rfl, hfz, hnd⟩ := hW
  have hA : DataW.TrodAll enc Tryz.prog W 0 (fun _ => true) true Tryz.f3.params.toList args.toList ds p := hA0
  rw [Tryz.params3] at hA hval
  obtain ⟨v0, v1, d0, d1, p0, p1, rfl, rfl, rfl, h0, h1⟩ := trodAll_two hA
  obtain ⟨rfl, rfl⟩ := trodVars_none hV
  obtain ⟨va, vo, acts, offs, rfl, ha, hoa, ho, hoo⟩ := open_world (hval 0 25 v0 rfl rfl) h0
  obtain ⟨a, rfl, wl, wn, wd⟩ := open_offer (hval 1 32 v1 rfl rfl) h1
  clear hA0 hval0
  simp only [List.append_nil] at hW'
  have hlt : ∀ x ∈ p0 ++ p1, x.block < W.heap.size := fun x hx => by simpa using hW'.lt x hx
  refine (pbest_any va vo acts offs W ha hoa ho hoo a.seq a.owner a.sell a.buy a.left a.num a.den wl wn wd).mono fun e W' ⟨he, hw⟩ => ?_
  subst he
  have bel : Below W.heap.size W W' := hw
  exact ⟨_, rfl, _, _, _, [], p0 ++ p1, [], hW', trodAll_mk1 (shut_bool Tryz.underlying4 true), trodAll_mk2 (Below.trod laidOutK (by kernel_rfl) (of_decide_eq_true (by kernel_rfl)) h0 bel (fun x hx => hlt x (by simp [hx]))) (Below.trod laidOutK (by kernel_rfl) (of_decide_eq_true (by kernel_rfl)) h1 bel (fun x hx => hlt x (by simp [hx]))), rfl, bel.frame _, fun h => by cases h⟩

/-- PlacesBest, whatever the world and the offer: true. -/
theorem placesBest_holds : Rows.PlacesBestSaid :=
  OpenClaim.holds_of_wide 3 Tryz.f3 rfl rfl rfl rfl rfl rfl rfl ⟨rfl, rfl, rfl, rfl, rfl⟩ rfl rfl rfl rfl rfl (by kernel_rfl) Tryz.func3 (by kernel_rfl)
    (of_decide_eq_true (by kernel_rfl)) (by unfold Func.isWrapper; first | (rw [if_pos (by decide +kernel)]; kernel_rfl) | (rw [if_neg (by decide +kernel)]; exact ⟨rfl, rfl⟩))
    (fun os started H enc _ => placesBest_lifted os started H enc)

#print axioms placesBest_holds

end Go.Proofs.YtahdgojcebajkaaGreat
