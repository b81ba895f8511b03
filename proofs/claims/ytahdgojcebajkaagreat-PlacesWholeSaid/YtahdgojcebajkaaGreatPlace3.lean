/- Places: the next one to be filled. -/
import Derived.Test.YtahdgojcebajkaaGreatPlace2
namespace Go.Proofs.YtahdgojcebajkaaGreat
open Go.RowKit Go.Rg Go.BigFrame

/-- The first one of which something may be filled, and how much. -/
def nextGo (L : Led) (B : Bk) (o : Off) : List Off → Int × Int
  | [] => (0, 0)
  | y :: l => if overR o y then (0, 0) else if 0 < mayT L B y.seq o.owner o.owner 1099511627776 o.left then (y.seq, mayT L B y.seq o.owner o.owner 1099511627776 o.left) else nextGo L B o l
def nextR (L : Led) (B : Bk) (o : Off) : Int × Int := nextGo L B o (agR B o)

set_option maxRecDepth 100000 in
theorem against_any (c : Nat) (w : World) : Calls Tryz.prog 138 #[.pointer (some ⟨c, 0, none⟩)] w
    (fun e w' => e = .returned (.func (.func 170) #[] (cBox w.heap.size)) ∧ Ext w w' ∧ w'.heap[w.heap.size]? = some (.cells #[.pointer (some ⟨c, 0, none⟩)] 117 (0, 0))) := by
  have e0 := ext_alloc w (.cells #[.pointer (some ⟨c, 0, none⟩)] 117)
  have h0 := heap_alloc_top w (.cells #[.pointer (some ⟨c, 0, none⟩)] 117)
  go_enter Tryz.func138, Tryz.ntmps138
  go_wp2
  go_ret
  exact ⟨rfl, e0, h0⟩

theorem load_u64 (w : World) (B : Nat) (u : Value) (t : TypeId) (h : w.heap[B]? = some (.cells #[u] t (0, 0))) : (loadVar 26 ⟨B, 0, none⟩).run Tryz.prog w = .ok u w := by
  have c0 := cell_at (j := 0) h rfl
  unfold loadVar
  go_simp
theorem load_i64 (w : World) (B : Nat) (u : Value) (t : TypeId) (h : w.heap[B]? = some (.cells #[u] t (0, 0))) : (loadVar 2 ⟨B, 0, none⟩).run Tryz.prog w = .ok u w := by
  have c0 := cell_at (j := 0) h rfl
  unfold loadVar
  go_simp
theorem results_next (tmps : Array Value) (w : World) (B1 B2 : Nat) (v u : Value) (h1 : tmps.getD 2 undef = .pointer (some ⟨B1, 0, none⟩)) (h2 : tmps.getD 3 undef = .pointer (some ⟨B2, 0, none⟩))
    (b1 : w.heap[B1]? = some (.cells #[v] 26 (0, 0))) (b2 : w.heap[B2]? = some (.cells #[u] 2 (0, 0))) : (results Tryz.f103 tmps).run Tryz.prog w = .ok (.tuple #[v, u]) w := by
  have hr : Tryz.f103.results = #[.cell 2 26, .cell 3 2] := rfl
  have l1 := load_u64 w B1 v _ b1
  have l2 := load_i64 w B2 u _ b2
  simp only [Array.getD_eq_getD_getElem?] at h1 h2
  simp only [results, hr]
  simp [Sem.run_bind, Result.andThen, h1, h2, asAddr, l1, l2]

/-- What holds between two rounds. -/
structure NI (w : World) (c p m pb : Nat) (g : Option Nat) (L : Led) (B : Bk) (o : Off) (av : Value) (bb : Nat) (s : Nat) (W : World) : Prop where
  cm : Coming W c p m pb g L B o av
  k0 : W.heap[w.heap.size]? = some (.cells #[.pointer (some ⟨c, 0, none⟩)] 117 (0, 0))
  k1 : W.heap[w.heap.size + 1]? = some (.cells #[.int .u64 0] 26 (0, 0))
  k2 : W.heap[w.heap.size + 1 + 1]? = some (.cells #[.int .i64 0] 2 (0, 0))
  kb : W.heap[bb]? = some (.cells #[.pointer (some ⟨c, 0, none⟩)] 117 (0, 0))
  be : Ext w W
  on : nextGo L B o ((agR B o).drop s) = nextR L B o
/-- What holds where it is left. -/
structure NF (w : World) (r : Int × Int) (W : World) : Prop where
  k1 : W.heap[w.heap.size + 1]? = some (.cells #[.int .u64 r.1] 26 (0, 0))
  k2 : W.heap[w.heap.size + 1 + 1]? = some (.cells #[.int .i64 r.2] 2 (0, 0))
  be : Ext w W

theorem NI.keep {w : World} {c p m pb : Nat} {g : Option Nat} {L : Led} {B : Bk} {o : Off} {av : Value} {bb s D : Nat} {W W' : World} (h : NI w c p m pb g L B o av bb s W) (k : Keep [D, D + 1] W W') (hw : w.heap.size + 3 ≤ D) (hb : bb < D)
    (hc : c < w.heap.size) (hp : p < w.heap.size) (hm : m < w.heap.size) (hpb : pb < w.heap.size) (hg : ∀ x, g = some x → x < w.heap.size) : NI w c p m pb g L B o av bb s W' :=
  ⟨h.cm.keep k (by simp; omega) (by simp; omega) (by simp; omega) (by simp; omega) (fun x hx => by have := hg x hx; simp; omega), k.at h.k0 (by simp; omega), k.at h.k1 (by simp; omega), k.at h.k2 (by simp; omega), k.at h.kb (by simp; omega),
    (Keep.trans_fresh (S := []) (Keep.of_ext h.be) k (fun x hx => by simp at hx; right; omega)).ext, h.on⟩
theorem NF.keep {w : World} {r : Int × Int} {D : Nat} {W W' : World} (h : NF w r W) (k : Keep [D, D + 1] W W') (hw : w.heap.size + 3 ≤ D) : NF w r W' :=
  ⟨k.at h.k1 (by simp; omega), k.at h.k2 (by simp; omega), (Keep.trans_fresh (S := []) (Keep.of_ext h.be) k (fun x hx => by simp at hx; right; omega)).ext⟩

theorem next_done (w W : World) (D : Nat) (r : Int × Int) (tmps : Array Value) (h2 : tmps.getD 2 undef = .pointer (some ⟨w.heap.size + 1, 0, none⟩)) (h3 : tmps.getD 3 undef = .pointer (some ⟨w.heap.size + 1 + 1, 0, none⟩))
    (hF : NF w r W) (hD : W.heap[D]? = some (.deferred (some []))) (hb : w.heap.size + 3 ≤ D) :
    LeavesInM Fence.wide 0 Tryz.prog Tryz.f103 tmps (Ret (.tuple #[.int .u64 r.1, .int .i64 r.2]) w) [{ target := .collected D, args := #[] }] .returning W := by
  have kf : Keep [D] W (W.putObj D (.deferred none)) := keep_putObj _ (by simp)
  refine ⟨by simp, .inl ⟨_, _, rfl, run_takeDeferred hD, ?_⟩⟩
  exact ⟨_, results_next _ _ _ _ _ _ h2 h3 (kf.at hF.k1 (by simp; omega)) (kf.at hF.k2 (by simp; omega)), rfl, (Keep.trans_fresh (S := []) (Keep.of_ext hF.be) kf (fun x hx => by simp at hx; right; omega)).ext⟩

set_option maxRecDepth 100000 in
set_option maxHeartbeats 3200000 in
theorem next_any (c p m pb : Nat) (g : Option Nat) (L : Led) (B : Bk) (o : Off) (av : Value) (w : World) (h : Coming w c p m pb g L B o av) (hwf : WF L) (hok : OkB B) (hsq : SeqB B.offs) (b1 : o.num ≤ 9223372036854775807) (b2 : o.den ≤ 9223372036854775807) :
    Calls Tryz.prog 103 #[.pointer (some ⟨c, 0, none⟩)] w (Ret (.tuple #[.int .u64 (nextR L B o).1, .int .i64 (nextR L B o).2]) w) := by
  have e0 := ext_alloc w (.cells #[.pointer (some ⟨c, 0, none⟩)] 117)
  have s0 := size_alloc w (.cells #[.pointer (some ⟨c, 0, none⟩)] 117)
  have h0 := heap_alloc_top w (.cells #[.pointer (some ⟨c, 0, none⟩)] 117)
  generalize hW1 : w.alloc (.cells #[.pointer (some ⟨c, 0, none⟩)] 117) = w1 at *
  have e1 := ext_alloc w1 (.cells #[.int .u64 0] 26)
  have s1 := size_alloc w1 (.cells #[.int .u64 0] 26)
  have h1 := heap_alloc_top w1 (.cells #[.int .u64 0] 26)
  generalize hW2 : w1.alloc (.cells #[.int .u64 0] 26) = w2 at *
  have e2 := ext_alloc w2 (.cells #[.int .i64 0] 2)
  have s2 := size_alloc w2 (.cells #[.int .i64 0] 2)
  have h2 := heap_alloc_top w2 (.cells #[.int .i64 0] 2)
  rw [s0] at h1 s1
  rw [s1] at h2 s2
  have k0 := e2.at (e1.at h0)
  have k1 := e2.at h1
  have E2 := Ext.trans e0 (Ext.trans e1 e2)
  have hC := h.ext E2
  have hlc := lt_of_heap h.row
  have hlp := h.led.ltp
  have hlm := h.led.ltm
  have hlb := h.book.ltp
  have hlg := h.book.ltg
  have hag := against_any c
  subst hW2 hW1
  clear h0 h1 e0 e1 e2
  refine (callsIn_wide (n := 0)).1 ?_
  refine callsIn_of_wp_marks Tryz.func103 rfl trivial ?_ rfl
  simp only [Tryz.ntmps103, List.size_toArray, List.length_cons, List.length_nil, Nat.reduceAdd, Nat.reduceSub, Array.replicate_succ, Array.replicate_zero, List.push_toArray, List.append_toArray, List.nil_append, List.cons_append]
  gi_wp2
  refine ⟨trivial, rfl, CallsIn.mono (callsIn_wide.2 (hag _)) ?_⟩
  rintro e w7 ⟨rfl, e7, hb7⟩
  have hw7 := e7.size
  have hbb : (((w.alloc (.cells #[.pointer (some ⟨c, 0, none⟩)] 117)).alloc (.cells #[.int .u64 0] 26)).alloc (.cells #[.int .i64 0] 2)).heap.size = w.heap.size + 3 := by omega
  have k07 := e7.at k0
  have k17 := e7.at k1
  have k27 := e7.at h2
  have hC7 := hC.ext e7
  have E7 : Ext w w7 := Ext.trans E2 e7
  rw [hbb] at hb7 hw7 ⊢
  have hlt7 := lt_of_heap hb7
  clear k0 k1 h2 hC E2 e7 hag hbb
  gi_wp2
  refine wpIn_rangeFunc_kp rfl (enters_of Tryz.func170 (by kernel_rfl) rfl) rfl (against_iter (w.heap.size + 3) c p m pb g L B o av hok hsq b1 b2)
    (NI w c p m pb g L B o av (w.heap.size + 3)) (fun cd W => cd = .ret ∧ NF w (nextR L B o) W)
    (fun s A B hs hk => hs.keep hk (by omega) (by omega) hlc hlp hlm hlb hlg) (fun cd A B hs hk => ⟨hs.1, hs.2.keep hk (by omega)⟩) (fun s A hs => ⟨hs.cm, hs.kb⟩)
    (fun s A B B' x hx _ _ => hx) ⟨hC7, k07, k17, k27, hb7, E7, rfl⟩ ?asg ?asgk ?assign ?body ?done ?stop
  case asg => exact fun x a W => ∃ y : Off, ∃ eb : Nat, x = y.agg ∧ W.heap[eb]? = some (.cells y.cells.toArray 32 (0, 0)) ∧ w7.heap.size + 2 ≤ eb ∧ a = { tmps := #[.pointer (some ⟨c, 0, none⟩), .pointer (some ⟨w.heap.size, 0, none⟩), .pointer (some ⟨w.heap.size + 1, 0, none⟩), .pointer (some ⟨w.heap.size + 1 + 1, 0, none⟩), .pointer (some ⟨eb, 0, none⟩), undef, .pointer (some ⟨c, 0, none⟩), .func (.func 170) #[] (cBox (w.heap.size + 3)), x, undef, undef, undef, undef, undef, undef, undef, undef, undef, undef, undef, undef, undef, undef, undef, undef, undef, undef, undef, undef, undef, undef, undef, undef, undef, undef, undef], defers := [] }
  case asgk =>
    rintro x a W W' ⟨y, eb, h1, h2, h3, h4⟩ hk
    exact ⟨y, eb, h1, hk.at h2 (by simp; omega), h3, h4⟩
  case assign =>
    rintro l s A x W K ⟨y, _, _, rfl⟩ hsz hK
    have ea := ext_alloc W (.cells y.cells.toArray 32)
    have ha := heap_alloc_top W (.cells y.cells.toArray 32)
    have hKa := hK _ _ ea ⟨y, W.heap.size, rfl, ha, by omega, rfl⟩
    unfold Off.cells at hKa
    unfold Off.agg at hKa ⊢
    clear hK ea ha
    refine wpIn_region_plain (by kernel_rfl) (by rintro ⟨_, _, hh⟩; exact hh) ?_
    go_wp2
    exact hKa
  case body =>
    rintro s A W x aX hIA hk ⟨y, hy, hov, rfl⟩ hsz ⟨y', eb, hxy', heb, hle, rfl⟩
    have hyy : y' = y := by
      cases y
      cases y'
      simp [Off.agg] at hxy'
      simp [hxy']
    subst hyy
    have hI := hIA.keep hk (by omega) (by omega) hlc hlp hlm hlb hlg
    have hszW : w7.heap.size + 2 ≤ W.heap.size := by have := hk.size; omega
    have hmy := fun wq hL hB => hmay_any p m pb g L B y'.seq o.owner o.owner 1099511627776 o.left wq hL hwf hB hok
    have hs : s < (agR B o).length := (List.getElem?_eq_some_iff.1 hy).1
    have hdrop : (agR B o).drop s = y' :: (agR B o).drop (s + 1) := by
      rw [List.drop_eq_getElem_cons hs]
      congr 1
      have := List.getElem?_eq_getElem hs
      rw [hy] at this
      injection this with this
      exact this.symm
    have hon := hI.on
    rw [hdrop] at hon
    unfold nextGo at hon
    rw [hov] at hon
    simp only [Bool.false_eq_true, if_false] at hon
    generalize mayT L B y'.seq o.owner o.owner 1099511627776 o.left = n at *
    have HON := Lib.hid hon
    have hrow := hI.cm.row
    have hbe := hI.be
    have hk0 := hI.k0
    have hk1 := hI.k1
    have hk2 := hI.k2
    have hkb := hI.kb
    have hL := hI.cm.led
    have hB := hI.cm.book
    obtain ⟨y0, y1, y2, y3, y4, y5, y6⟩ := y'
    obtain ⟨oseq, own, sell, buy, left, num, den⟩ := o
    simp only [Off.cells] at heb
    simp only [Off.agg] at *
    clear hIA hk hy hov hxy' hdrop hon hI h hC7 k07 k17 k27 hb7 E7
    gi_wp2
    refine wpIn_region_round (by kernel_rfl) (by kernel_rfl) (by rintro ⟨_, _, hh⟩; exact hh) (wpAny_hat waiter 22 [] (by kernel_rfl) ?_)
    intro w1 hw1
    have d0 : ∀ u : ExtOf w1, u.to.cell? ⟨w.heap.size, 0, none⟩ = _ := fun u => cell_at (j := 0) ((Ext.trans hw1 u.h).at hk0) rfl
    have r0 : ∀ u : ExtOf w1, u.to.cell? ⟨c, 0, none⟩ = _ := fun u => cell_at (j := 0) ((Ext.trans hw1 u.h).at hrow) rfl
    have r1 : ∀ u : ExtOf w1, u.to.cell? ⟨c, 1, none⟩ = _ := fun u => cell_at (j := 1) ((Ext.trans hw1 u.h).at hrow) rfl
    have r3 : ∀ u : ExtOf w1, u.to.cell? ⟨c, 3, none⟩ = _ := fun u => cell_at (j := 3) ((Ext.trans hw1 u.h).at hrow) rfl
    have r6 : ∀ u : ExtOf w1, u.to.cell? ⟨c, 6, none⟩ = _ := fun u => cell_at (j := 6) ((Ext.trans hw1 u.h).at hrow) rfl
    have f0 : ∀ u : ExtOf w1, u.to.cell? ⟨eb, 0, none⟩ = _ := fun u => cell_at (j := 0) ((Ext.trans hw1 u.h).at heb) rfl
    have hLq : ∀ u : ExtOf w1, IsLed u.to p m L := fun u => hL.ext (Ext.trans hw1 u.h)
    have hBq : ∀ u : ExtOf w1, IsBook u.to pb g B := fun u => hB.ext (Ext.trans hw1 u.h)
    simp only [heads, List.take_succ_cons, List.take_zero, List.contains_nil, Bool.false_eq_true, Nat.reduceAdd, ↓reduceIte]
    repeat (go_big_quiet_step ((go_at_call 20; exact Ret.cls (hmy _ (hLq _) (hBq _)))))
    refine wpQuiet_nil ?_
    refine wpX_tail (by kernel_rfl) ?_
    intro w9 e9 e9'
    simp only [List.drop_succ_cons, List.drop_zero]
    clear d0 r0 r1 r3 r6 f0 hLq hBq hmy
    have hk09 := e9.at hk0
    have hk19 := e9.at hk1
    have hk29 := e9.at hk2
    have hkb9 := e9.at hkb
    have hrow9 := e9.at hrow
    have heb9 := e9.at heb
    have hL9 := hL.ext e9
    have hB9 := hB.ext e9
    have hbe9 := Ext.trans hbe e9
    have c1 := cell_at (j := 0) hk19 rfl
    have c2 := cell_at (j := 0) hk29 rfl
    have p1 := frozen_of_row _ _ 0 _ _ hk19
    have p2 := frozen_of_row _ _ 0 _ _ hk29
    have f0 := cell_at (j := 0) heb9 rfl
    have hD0 : w9.heap[w7.heap.size]? = W.heap[w7.heap.size]? := e9.block (by omega)
    have hD1 : w9.heap[w7.heap.size + 1]? = W.heap[w7.heap.size + 1]? := e9.block (by omega)
    by_cases hn : 0 < n
    · have hn' : decide (0 < n) = true := by simpa using hn
      go_wp2
      gi_wp2
      iterate 8 (try (simp only [Oper.semAt]; go_simp; gi_wp2))
      have hrr : nextR L B ⟨oseq, own, sell, buy, left, num, den⟩ = (y0, n) := by
        have := HON.out
        rw [if_pos hn] at this
        exact this.symm
      have k1' : Keep [w.heap.size + 1] w9 (w9.setCell ⟨w.heap.size + 1, 0, none⟩ (.int .u64 y0)) := (Keep.refl _ _).setCell (Or.inl (by simp)) _
      have g1 := heap_setCell_same w9 _ 0 _ _ (.int .u64 y0) hk19
      have g2 := k1'.at hk29 (by simp)
      have k2' : Keep [w.heap.size + 1 + 1] (w9.setCell ⟨w.heap.size + 1, 0, none⟩ (.int .u64 y0)) ((w9.setCell ⟨w.heap.size + 1, 0, none⟩ (.int .u64 y0)).setCell ⟨w.heap.size + 1 + 1, 0, none⟩ (.int .i64 n)) := (Keep.refl _ _).setCell (Or.inl (by simp)) _
      have g3 := k2'.at g1 (by simp)
      have g4 := heap_setCell_same _ _ 0 _ _ (.int .i64 n) g2
      have hs9 := e9.size
      have hs10 := k1'.size
      have hEE : Ext w ((w9.setCell ⟨w.heap.size + 1, 0, none⟩ (.int .u64 y0)).setCell ⟨w.heap.size + 1 + 1, 0, none⟩ (.int .i64 n)) :=
        (Keep.trans_fresh (S := []) (Keep.trans_fresh (S := []) (Keep.of_ext hbe9) k1' (fun x hx => by simp at hx; right; omega)) k2' (fun x hx => by simp at hx; right; omega)).ext
      exact ⟨⟨(k2'.block _ (by omega) (by simp; omega)).trans ((k1'.block _ (by omega) (by simp; omega)).trans hD0), (k2'.block _ (by omega) (by simp; omega)).trans ((k1'.block _ (by omega) (by simp; omega)).trans hD1)⟩, rfl,
        ⟨by rw [hrr]; exact g3, by rw [hrr]; exact g4, hEE⟩⟩
    · have hn' : decide (0 < n) = false := by simpa using hn
      have hon2 : nextGo L B ⟨oseq, own, sell, buy, left, num, den⟩ ((agR B ⟨oseq, own, sell, buy, left, num, den⟩).drop (s + 1)) = nextR L B ⟨oseq, own, sell, buy, left, num, den⟩ := by
        have := HON.out
        rwa [if_neg hn] at this
      have HN2 := Lib.hid hon2
      clear hon2 HON
      go_wp2
      gi_wp2
      simp only [Oper.semAt]
      go_simp
      gi_wp2
      exact ⟨Keep.of_ext e9, ⟨hD0, hD1⟩, s + 1, ⟨⟨hrow9, hL9, hB9⟩, hk09, hk19, hk29, hkb9, hbe9, HN2.out⟩, rfl⟩
  case done =>
    intro s W hend hI hD
    have hr : nextR L B o = (0, 0) := by
      rw [← hI.on]
      cases hq : (agR B o).drop s with
      | nil => rfl
      | cons y ys =>
        have hy : (agR B o)[s]? = some y := by
          have := List.getElem?_drop (xs := agR B o) (i := s) (j := 0)
          rw [hq] at this
          simpa using this.symm
        unfold nextGo
        rw [if_pos (hend y hy)]
    have hk1 := hI.k1
    have hk2 := hI.k2
    have hbe := hI.be
    have HR := Lib.hid hr
    clear hI hr hend
    have c1 := cell_at (j := 0) hk1 rfl
    have c2 := cell_at (j := 0) hk2 rfl
    have p1 := frozen_of_row _ _ 0 _ _ hk1
    have p2 := frozen_of_row _ _ 0 _ _ hk2
    gi_wp2
    have k1' : Keep [w.heap.size + 1] W (W.setCell ⟨w.heap.size + 1, 0, none⟩ (.int .u64 0)) := (Keep.refl _ _).setCell (Or.inl (by simp)) _
    have g1 := heap_setCell_same W _ 0 _ _ (.int .u64 0) hk1
    have g2 := k1'.at hk2 (by simp)
    have k2' : Keep [w.heap.size + 1 + 1] (W.setCell ⟨w.heap.size + 1, 0, none⟩ (.int .u64 0)) ((W.setCell ⟨w.heap.size + 1, 0, none⟩ (.int .u64 0)).setCell ⟨w.heap.size + 1 + 1, 0, none⟩ (.int .i64 0)) := (Keep.refl _ _).setCell (Or.inl (by simp)) _
    have g3 := k2'.at g1 (by simp)
    have g4 := heap_setCell_same _ _ 0 _ _ (.int .i64 0) g2
    have g5 := k2'.at (k1'.at hD (by simp; omega)) (by simp; omega)
    have hEE : Ext w ((W.setCell ⟨w.heap.size + 1, 0, none⟩ (.int .u64 0)).setCell ⟨w.heap.size + 1 + 1, 0, none⟩ (.int .i64 0)) :=
      (Keep.trans_fresh (S := []) (Keep.trans_fresh (S := []) (Keep.of_ext hbe) k1' (fun x hx => by simp at hx; right; omega)) k2' (fun x hx => by simp at hx; right; omega)).ext
    exact next_done w _ w7.heap.size (nextR L B o) _ rfl rfl ⟨by rw [HR.out]; exact g3, by rw [HR.out]; exact g4, hEE⟩ g5 (by omega)
  case stop =>
    rintro cd W ⟨rfl, hF⟩ hD
    gi_wp2
    exact next_done w _ w7.heap.size (nextR L B o) _ rfl rfl hF hD (by omega)
end Go.Proofs.YtahdgojcebajkaaGreat
