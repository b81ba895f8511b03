/- Places: the offers against one that comes. -/
import Derived.Test.YtahdgojcebajkaaGreatPlace1
import Derived.Test.YtahdgojcebajkaaGreatIterK
import Derived.Test.YtahdgojcebajkaaGreatAll
namespace Go.Proofs.YtahdgojcebajkaaGreat
open Go.RowKit Go.Rg Go.BigFrame

/-- At block c lies an offer that comes, in a house. -/
structure Coming (W : World) (c p m pb : Nat) (g : Option Nat) (L : Led) (B : Bk) (o : Off) (av : Value) : Prop where
  row : W.heap[c]? = some (.cells #[.pointer (some ⟨p, 0, none⟩), .pointer (some ⟨pb, 0, none⟩), .int .u64 o.seq, .int .u8 o.owner, .int .u8 o.sell, .int .u8 o.buy, .int .i64 o.left, .int .i64 o.num, .int .i64 o.den, av] 119 (0, 0))
  led : IsLed W p m L
  book : IsBook W pb g B
theorem Coming.ext {W W' : World} {c p m pb : Nat} {g : Option Nat} {L : Led} {B : Bk} {o : Off} {av : Value} (h : Coming W c p m pb g L B o av) (k : Ext W W') : Coming W' c p m pb g L B o av :=
  ⟨k.at h.row, h.led.ext k, h.book.ext k⟩
theorem Coming.keep {S : List Nat} {W W' : World} {c p m pb : Nat} {g : Option Nat} {L : Led} {B : Bk} {o : Off} {av : Value} (h : Coming W c p m pb g L B o av) (k : Keep S W W') (h1 : c ∉ S) (h2 : p ∉ S) (h3 : m ∉ S) (h4 : pb ∉ S) (h5 : ∀ x, g = some x → x ∉ S) :
    Coming W' c p m pb g L B o av :=
  ⟨k.at h.row h1, h.led.keep k h2 h3, h.book.keep k h4 h5⟩

/-- Those that stand against it, the best one first. -/
def agR (B : Bk) (o : Off) : List Off := bestR B.offs o.buy o.sell
/-- Is its rate too great? -/
def overR (o x : Off) : Bool := decide (0 < cmpR x.num x.den (invR o.num o.den).1 (invR o.num o.den).2)

theorem rcompare_x (n d m q : Int) (w : World) (b1 : n ≤ 9223372036854775807) (b2 : d ≤ 9223372036854775807) (b3 : m ≤ 9223372036854775807) (b4 : q ≤ 9223372036854775807) :
    Calls Tryz.prog 18 #[rat (n, d), rat (m, q)] w (Ret (.int .i64 (cmpR n d m q)) w) :=
  (D.rcompare_any n d m q w b1 b2 b3 b4).mono fun _ _ ⟨h1, h2⟩ => ⟨h1, h2.to⟩

def cBox (b : Nat) : Array Value := #[.pointer (some ⟨b, 0, none⟩)]

set_option maxRecDepth 100000 in
set_option maxHeartbeats 1600000 in
theorem against_iter (b c p m pb : Nat) (g : Option Nat) (L : Led) (B : Bk) (o : Off) (av : Value) (hok : ∀ x ∈ B.offs, offOk x = true) (hsq : SeqB B.offs) (b1 : o.num ≤ 9223372036854775807) (b2 : o.den ≤ 9223372036854775807) :
    IterKp Tryz.prog 170 (cBox b) (fun (_ : Nat) W => Coming W c p m pb g L B o av ∧ W.heap[b]? = some (.cells #[.pointer (some ⟨c, 0, none⟩)] 117 (0, 0)))
      (fun s _ _ x => ∃ y, (agR B o)[s]? = some y ∧ overR o y = false ∧ x = y.agg) (fun s s' => s' = s + 1) (fun s => ∀ y, (agR B o)[s]? = some y → overR o y = true) 0 := by
  intro l J Jx W hE hBs hJl hR h0
  refine (callsIn_wide (n := 0)).1 ?_
  show CallsIn Fence.wide 0 Tryz.prog 170 #[.func (.yield l) #[] #[], .pointer (some ⟨b, 0, none⟩)] W _
  refine callsIn_of_wp Tryz.func170 rfl trivial ?_ rfl
  simp only [Tryz.ntmps170, List.size_toArray, List.length_cons, List.length_nil, Nat.reduceAdd, Nat.reduceSub, Array.replicate_succ, Array.replicate_zero, List.push_toArray, List.append_toArray, List.nil_append, List.cons_append]
  obtain ⟨hC, hbx⟩ := hBs 0 W h0
  have hrow := hC.row
  obtain ⟨oseq, own, sell, buy, left, num, den⟩ := o
  simp only at hrow b1 b2
  have d0 := cell_at (j := 0) hbx rfl
  have r7 := cell_at (j := 7) hrow rfl
  have r8 := cell_at (j := 8) hrow rfl
  have hinv := fun w => inverse_any num den w b1 b2
  simp only [rat] at hinv
  obtain ⟨mn, md, hmd⟩ : ∃ mn md, invR num den = (mn, md) := ⟨_, _, rfl⟩
  have HMD := Lib.hid hmd
  rw [hmd] at hinv
  clear hmd
  simp only at hinv
  gi_wp2
  refine ⟨trivial, rfl, CallsIn.mono (callsIn_wide.2 (hinv W)) ?_⟩
  rintro e w2 ⟨rfl, e2⟩
  gi_wp2
  have e3 := ext_alloc w2 (.cells #[.int .i64 mn, .int .i64 md] 30)
  have h3 := heap_alloc_top w2 (.cells #[.int .i64 mn, .int .i64 md] 30)
  have s2 := e2.size
  obtain ⟨mb, hmb⟩ : ∃ mb, mb = w2.heap.size := ⟨_, rfl⟩
  rw [← hmb] at h3 ⊢
  have hmW : W.heap.size ≤ mb := by omega
  clear hmb
  generalize hW3 : w2.alloc (.cells #[.int .i64 mn, .int .i64 md] 30) = W3 at *
  have E3 := Ext.trans e2 e3
  have hC3 := hC.ext E3
  have hb3 := E3.at hbx
  have hrow3 := hC3.row
  simp only at hrow3
  clear hW3 e2 e3 d0 r7 r8 hinv
  refine wpIn_wide.2 ?_
  refine wp_region_all waiter [15, 16] (by kernel_rfl) (by kernel_rfl) ?_
  intro w1 hw1
  have d0 : ∀ u : ExtOf w1, u.to.cell? ⟨b, 0, none⟩ = _ := fun u => cell_at (j := 0) ((Ext.trans hw1 u.h).at hb3) rfl
  have r1 : ∀ u : ExtOf w1, u.to.cell? ⟨c, 1, none⟩ = _ := fun u => cell_at (j := 1) ((Ext.trans hw1 u.h).at hrow3) rfl
  have r4 : ∀ u : ExtOf w1, u.to.cell? ⟨c, 4, none⟩ = _ := fun u => cell_at (j := 4) ((Ext.trans hw1 u.h).at hrow3) rfl
  have r5 : ∀ u : ExtOf w1, u.to.cell? ⟨c, 5, none⟩ = _ := fun u => cell_at (j := 5) ((Ext.trans hw1 u.h).at hrow3) rfl
  simp only [heads, List.contains_cons, List.contains_nil, Nat.reduceBEq, Bool.or_false, Bool.false_eq_true, Nat.reduceAdd, Bool.or_true, ↓reduceIte, Bool.or_self]
  repeat (go_big_quiet_step (fail))
  refine wpQuiet_nil ?_
  clear d0 r1 r4 r5
  refine wpX_callf 15 17 _ #[.pointer (some ⟨pb, 0, none⟩), .int .u8 buy, .int .u8 sell] _ (by rfl) _ _ (by rfl) Tryz.func17 rfl rfl (by kernel_rfl) (by rfl) (by kernel_rfl) (by decide) ?_
  intro w4 h04 h4
  refine (best_any pb g B buy sell w4 (hC3.book.ext h04) hok hsq).mono ?_
  rintro e w5 ⟨v, rfl, e5, hown⟩
  refine ⟨_, rfl, Ext.trans h04 e5, ?_⟩
  obtain ⟨A, cap, rfl⟩ := own_slice hown
  refine wpX_again_all waiter 16 [17] 0 (by kernel_rfl) (Ext.trans h04 e5) ?_
  intro w1 hw1
  simp only [Act.put, List.getElem_toArray, List.getElem_cons_succ, List.getElem_cons_zero, List.setIfInBounds_toArray, List.set_cons_zero, List.set_cons_succ]
  simp only [heads, List.drop_succ_cons, List.drop_zero, List.contains_cons, List.contains_nil, Nat.reduceBEq, Bool.or_false, Bool.false_eq_true, Nat.reduceAdd, ↓reduceIte, Bool.or_self]
  repeat (go_big_quiet_step (fail))
  refine wpQuiet_nil ?_
  refine wpX_done (by kernel_rfl) ?_
  intro w6 e6 e6'
  try simp only [Act.put, List.getElem_toArray, List.getElem_cons_succ, List.getElem_cons_zero, List.setIfInBounds_toArray, List.set_cons_zero, List.set_cons_succ]
  try simp only [Exit.then]
  gi_wp2
  have hag : agR B ⟨oseq, own, sell, buy, left, num, den⟩ = bestR B.offs buy sell := rfl
  have hov : ∀ y : Off, overR ⟨oseq, own, sell, buy, left, num, den⟩ y = decide (0 < cmpR y.num y.den mn md) := fun y => by unfold overR; simp only; rw [HMD.out]
  have hmb : mn ≤ 9223372036854775807 ∧ md ≤ 9223372036854775807 := by
    have h1 := HMD.out
    unfold invR at h1
    split at h1
    · simp only [Prod.mk.injEq] at h1; omega
    · simp only [Prod.mk.injEq] at h1; omega
  have hlen : (bestR B.offs buy sell).length ≤ 32 := by
    rw [(bestR_perm B.offs buy sell).length_eq]
    exact Nat.le_trans (List.length_filter_le _ _) hC.book.few
  have hrat : ∀ y ∈ bestR B.offs buy sell, y.num ≤ 9223372036854775807 ∧ y.den ≤ 9223372036854775807 := fun y hy => by
    have := offOk_rat (hok y (mem_bestR hy).1)
    omega
  have E6 : Ext W w6 := Ext.trans E3 (Ext.trans h04 (Ext.trans e5 e6))
  have hsl6 : OffSl w6 W.heap.size (.slice A (bestR B.offs buy sell).length cap) (bestR B.offs buy sell) := by
    have hs := (SlAt.of_own hown).ext e6
    obtain ⟨A2, cap2, q0, q1, q2, q3, q4⟩ := hs
    have := E3.size
    have := h04.size
    exact ⟨A2, cap2, q0, q1, q2, q3, by rcases q4 with q4 | ⟨g', q4, q5, q6⟩; exact .inl q4; exact .inr ⟨g', q4, by omega, q6⟩⟩
  have hm6 := (Ext.trans h04 (Ext.trans e5 e6)).at h3
  have hJ6 := hE 0 W w6 h0 E6
  have hlW := hJl 0 W h0
  have HAG := Lib.hid hag
  have HOV := Lib.hid hov
  clear hown h3 hC3 hb3 hrow3 hrow hC hbx h0 h04 h4 e5 e6 e6' E3 E6 HMD hag hov
  generalize bestR B.offs buy sell = bst at *
  have hn63 : (bst.length : Int) ≤ 9223372036854775807 := by omega
  gi_loopw [29] (fun i wr => ∃ k : Nat, k ≤ bst.length ∧ i = .int .i64 k ∧ J k wr ∧ wr.heap[mb]? = some (.cells #[.int .i64 mn, .int .i64 md] 30 (0, 0)) ∧ OffSl wr W.heap.size (.slice A bst.length cap) bst) (fun i _ => bst.length - (intOf i).toNat)
  case atStart => exact ⟨0, Nat.zero_le _, rfl, hJ6, hm6, hsl6⟩
  case round =>
    obtain ⟨k, hk, rfl, hJk, hm, hsl⟩ := hrel
    by_cases hkn : k < bst.length
    · obtain ⟨A', cap', hv, q1, q2, q3, q4⟩ := hsl
      injection hv with hv1 _ hv2
      subst hv1 hv2
      rcases q4 with q4 | ⟨gs, rfl, hbs, hlts, hcs⟩
      · omega
      have hg : ∀ (j : Nat) (hj : j < 7) u, (bst[k]'hkn).cells[j]? = some u → wr.cell? ⟨gs, k * 7 + j, none⟩ = some u := fun j hj u hu => hcs _ _ ((offCells_at bst k j hkn hj).trans hu)
      have hgk : (agR B ⟨oseq, own, sell, buy, left, num, den⟩)[k]? = some (bst[k]'hkn) := by rw [HAG.out]; exact List.getElem?_eq_getElem hkn
      have hry := hrat _ (List.getElem_mem hkn)
      generalize (bst[k]'hkn) = y at *
      have hoy := HOV.out y
      have HGK := Lib.hid hgk
      have HOY := Lib.hid hoy
      clear hgk hoy
      obtain ⟨y0, y1, y2, y3, y4, y5, y6⟩ := y
      simp only at hry
      have g0 : wr.cell? ⟨gs, k * 7, none⟩ = some (.int .u64 y0) := hg 0 (by decide) _ rfl
      have g1 : wr.cell? ⟨gs, k * 7 + 1, none⟩ = some (.int .u8 y1) := hg 1 (by decide) _ rfl
      have g2 : wr.cell? ⟨gs, k * 7 + 2, none⟩ = some (.int .u8 y2) := hg 2 (by decide) _ rfl
      have g3 : wr.cell? ⟨gs, k * 7 + 3, none⟩ = some (.int .u8 y3) := hg 3 (by decide) _ rfl
      have g4 : wr.cell? ⟨gs, k * 7 + 4, none⟩ = some (.int .i64 y4) := hg 4 (by decide) _ rfl
      have g5 : wr.cell? ⟨gs, k * 7 + 5, none⟩ = some (.int .i64 y5) := hg 5 (by decide) _ rfl
      have g6 : wr.cell? ⟨gs, k * 7 + 6, none⟩ = some (.int .i64 y6) := hg 6 (by decide) _ rfl
      clear hg
      have m0 := cell_at (j := 0) hm rfl
      have m1 := cell_at (j := 1) hm rfl
      have hltm := lt_of_heap hm
      have hcmp := fun w => rcompare_x y5 y6 mn md w hry.1 hry.2 hmb.1 hmb.2
      simp only [rat] at hcmp
      gi_wp2
      refine ⟨trivial, rfl, CallsIn.mono (callsIn_wide.2 (hcmp _)) ?_⟩
      have e7 := ext_alloc wr (.cells #[.int .u64 y0, .int .u8 y1, .int .u8 y2, .int .u8 y3, .int .i64 y4, .int .i64 y5, .int .i64 y6] 32)
      have h7 := heap_alloc_top wr (.cells #[.int .u64 y0, .int .u8 y1, .int .u8 y2, .int .u8 y3, .int .i64 y4, .int .i64 y5, .int .i64 y6] 32)
      rintro e w8 ⟨rfl, e8⟩
      have h8 := e8.at h7
      have E8 := Ext.trans e7 e8
      have hm8 := E8.at hm
      have hs8 := E8.size
      clear g0 g1 g2 g3 g4 g5 g6 m0 m1 e7 h7 e8 hcmp
      cases hq : decide (0 < cmpR y5 y6 mn md) with
      | true =>
        have HQ := Lib.hid (HOY.out.trans hq)
        gi_wp2
        refine ⟨fun _ _ => trivial, ?_⟩
        gi_wp2
        refine bodyPost_ret (results_none rfl _ _ _) rfl ?_
        exact ⟨⟨_, rfl⟩, .inl ⟨k, hE k _ _ hJk E8, fun y hy => by rw [HGK.out] at hy; injection hy with hy; subst hy; exact HQ.out⟩⟩
      | false =>
        have HQ := Lib.hid (HOY.out.trans hq)
        have c0 := cell_at (j := 0) h8 rfl
        have c1 := cell_at (j := 1) h8 rfl
        have c2 := cell_at (j := 2) h8 rfl
        have c3 := cell_at (j := 3) h8 rfl
        have c4 := cell_at (j := 4) h8 rfl
        have c5 := cell_at (j := 5) h8 rfl
        have c6 := cell_at (j := 6) h8 rfl
        have hr := hR k wr w8 _ hJk E8 ⟨_, HGK.out, HQ.out, rfl⟩
        simp only [Off.agg] at hr
        obtain ⟨fn, tmps, assign, body, hy, hRd⟩ := hr
        gi_wp2
        refine ⟨rfl, RoundIn.mono hRd ?_⟩
        rintro e W3 (⟨rfl, hkp, s', hJ', hs'⟩ | ⟨rfl, hJx⟩)
        · have hS : ∀ x ∈ [l - 1, l], x < W.heap.size := fun x hx => by simp at hx; omega
          gi_wp2
          go_roundw
          case rel => 
            refine ⟨k + 1, by omega, by go_num, by rw [← hs']; exact hJ', hkp.at hm8 (fun hx => by have := hS _ hx; omega), ?_⟩
            exact ⟨_, cap, rfl, q1, q2, q3, .inr ⟨gs, rfl, hbs, by have := hkp.size; omega, fun j u hu => (cell_block ((hkp.block gs (by omega) (fun hx => by have := hS _ hx; omega)).trans (E8.block hlts))).trans (hcs j u hu)⟩⟩
          case measure => simp [intOf]; omega
        · gi_wp2
          refine bodyPost_ret (results_none rfl _ _ _) rfl ?_
          exact ⟨⟨_, rfl⟩, .inr hJx⟩
    · have hk' : k = bst.length := by omega
      subst hk'
      gi_wp2
      go_end0
      exact ⟨⟨_, rfl⟩, .inl ⟨_, hJk, fun y hy => by rw [HAG.out, List.getElem?_eq_none (Nat.le_refl _)] at hy; cases hy⟩⟩
end Go.Proofs.YtahdgojcebajkaaGreat
