/- Firsts: were offers filled in turn, each the first one of which something could be filled? -/
import Derived.Test.YtahdgojcebajkaaGreatFair
import Derived.Test.YtahdgojcebajkaaGreatLines
import Derived.Test.YtahdgojcebajkaaGreatAgain
import Derived.Test.YtahdgojcebajkaaGreatMade
namespace Go.Proofs.YtahdgojcebajkaaGreat
open Go.RowKit Go.Rg Go.BigFrame

theorem neq_fill (a b c d e : Int) (w : World) : (binOp .neq 66 (.agg #[.int .u64 a, .int .u8 b, .int .u8 c, .int .i64 d, .int .i64 e]) (.agg #[.int .u64 a, .int .u8 b, .int .u8 c, .int .i64 d, .int .i64 e])).run Tryz.prog w = .ok (.bool false) w := by
  have hS : Tryz.prog.underlying 66 = some (.struct (Tryz.prog.fieldsOf 66)) := by kernel_rfl
  have hp : Tryz.prog.stoodInHeld 66 = false := by kernel_rfl
  have h : (Op.equalIn 10000 66 (.agg #[.int .u64 a, .int .u8 b, .int .u8 c, .int .i64 d, .int .i64 e]) (.agg #[.int .u64 a, .int .u8 b, .int .u8 c, .int .i64 d, .int .i64 e])).run Tryz.prog w = .ok true w := by
    rw [show (10000 : Nat) = 9999 + 1 from rfl, run_equalIn_agg w 9999 66 _ _ hS hp]
    simp only [Program.fieldsOf, Tryz.underlying66]
    go_simp
  rw [run_neq_struct, h]; rfl

/-- What holds between two fills that are gone through. -/
structure FI (w : World) (hb p m pb p' m' pb' : Nat) (g g' : Option Nat) (L L' : Led) (B B' : Bk) (fr to get give n0 most0 : Int) (W : World) : Prop where
  led : IsLed W p m L
  book : IsBook W pb g B
  wf : WF L
  ok : OkB B
  sn : SeqN B
  led' : IsLed W p' m' L'
  book' : IsBook W pb' g' B'
  rowh : W.heap[hb]? = some (.cells #[.pointer (some ⟨p, 0, none⟩), .pointer (some ⟨pb, 0, none⟩)] 38 (0, 0))
  row1 : W.heap[w.heap.size + 1]? = some (.cells #[.pointer (some ⟨p', 0, none⟩), .pointer (some ⟨pb', 0, none⟩)] 38 (0, 0))
  row2 : W.heap[w.heap.size + 1 + 1]? = some (.cells #[.int .u8 fr, .int .u8 to, .int .u8 get, .int .u8 give, .int .i64 n0, .int .i64 most0] 55 (0, 0))
  lo : ∀ x ∈ m :: pb :: g.toList, w.heap.size + 1 + 1 + 1 ≤ x
  nhb : hb ∉ m :: pb :: g.toList
  hhb : w.heap.size + 1 + 1 + 1 ≤ hb
  ex : Ext w W
theorem FI.ext {w : World} {hb p m pb p' m' pb' : Nat} {g g' : Option Nat} {L L' : Led} {B B' : Bk} {fr to get give n0 most0 : Int} {W W' : World} (h : FI w hb p m pb p' m' pb' g g' L L' B B' fr to get give n0 most0 W) (k : Ext W W') :
    FI w hb p m pb p' m' pb' g g' L L' B B' fr to get give n0 most0 W' :=
  { h with led := h.led.ext k, book := h.book.ext k, led' := h.led'.ext k, book' := h.book'.ext k, rowh := k.at h.rowh, row1 := k.at h.row1, row2 := k.at h.row2, ex := Ext.trans h.ex k }

set_option maxRecDepth 100000 in
set_option maxHeartbeats 12800000 in
theorem firsts_any (p m pb p' m' pb' : Nat) (g g' : Option Nat) (L L' : Led) (B B' Bx : Bk) (base : Nat) (v : Value) (all : List Fl) (fr to get give n most : Int) (falls : Bool) (w : World) (hL : IsLed w p m L) (hwf : WF L) (hB : IsBook w pb g B) (hok : OkB B) (hsn : SeqN B)
    (hL' : IsLed w p' m' L') (hwf' : WF L') (hB' : IsBook w pb' g' B') (hs : SlAt w base 5 v all.length (flCells all)) (hlen : all.length ≤ 64) (hn : n ≤ 9223372036854775807) (hm : most ≤ 9223372036854775807) (hn0 : 0 ≤ n) (hm0 : 0 ≤ most) (hc : ChainOk get give falls all L B n most L' Bx) (hbx : Bx.offs = B'.offs) :
    Calls Tryz.prog 21 #[.agg #[.pointer (some ⟨p, 0, none⟩), .pointer (some ⟨pb, 0, none⟩)], .agg #[.pointer (some ⟨p', 0, none⟩), .pointer (some ⟨pb', 0, none⟩)], v, .agg #[.int .u8 fr, .int .u8 to, .int .u8 get, .int .u8 give, .int .i64 n, .int .i64 most], .bool falls] w (Ret (.bool true) w) := by
  obtain ⟨A, cap, rfl, hs1, hs2, hs3, hs4⟩ := hs
  have hn63 : (all.length : Int) ≤ 9223372036854775807 := by omega
  have e0 := ext_alloc w (.cells #[.pointer (some ⟨p, 0, none⟩), .pointer (some ⟨pb, 0, none⟩)] 38)
  have k0 := heap_alloc_top w (.cells #[.pointer (some ⟨p, 0, none⟩), .pointer (some ⟨pb, 0, none⟩)] 38)
  have s0 := size_alloc w (.cells #[.pointer (some ⟨p, 0, none⟩), .pointer (some ⟨pb, 0, none⟩)] 38)
  generalize hW1 : w.alloc (.cells #[.pointer (some ⟨p, 0, none⟩), .pointer (some ⟨pb, 0, none⟩)] 38) = w1 at *
  have e1 := ext_alloc w1 (.cells #[.pointer (some ⟨p', 0, none⟩), .pointer (some ⟨pb', 0, none⟩)] 38)
  have k1 := heap_alloc_top w1 (.cells #[.pointer (some ⟨p', 0, none⟩), .pointer (some ⟨pb', 0, none⟩)] 38)
  have s1 := size_alloc w1 (.cells #[.pointer (some ⟨p', 0, none⟩), .pointer (some ⟨pb', 0, none⟩)] 38)
  generalize hW2 : w1.alloc (.cells #[.pointer (some ⟨p', 0, none⟩), .pointer (some ⟨pb', 0, none⟩)] 38) = w2 at *
  have e2 := ext_alloc w2 (.cells #[.int .u8 fr, .int .u8 to, .int .u8 get, .int .u8 give, .int .i64 n, .int .i64 most] 55)
  have k2 := heap_alloc_top w2 (.cells #[.int .u8 fr, .int .u8 to, .int .u8 get, .int .u8 give, .int .i64 n, .int .i64 most] 55)
  have s2 := size_alloc w2 (.cells #[.int .u8 fr, .int .u8 to, .int .u8 get, .int .u8 give, .int .i64 n, .int .i64 most] 55)
  rw [s0] at k1 s1
  rw [s1] at k2 s2
  have k0 := e2.at (e1.at k0)
  have k1 := e2.at k1
  have E2 := Ext.trans e0 (Ext.trans e1 e2)
  subst hW2 hW1
  have c4 := cell_at (j := 4) k2 rfl
  have c5 := cell_at (j := 5) k2 rfl
  have ldh := run_loadVar_row (P := Tryz.prog) _ w.heap.size _ 38 _ _ _ k0 Tryz.underlying38 rfl (by kernel_rfl)
  clear e0 e1 e2 s0 s1
  go_enter Tryz.func21, Tryz.ntmps21
  go_wp2_with (refine wpList_load_at rfl 38 _ _ _ rfl rfl ldh ?_)
  generalize ((w.alloc (.cells #[.pointer (some ⟨p, 0, none⟩), .pointer (some ⟨pb, 0, none⟩)] 38)).alloc (.cells #[.pointer (some ⟨p', 0, none⟩), .pointer (some ⟨pb', 0, none⟩)] 38)).alloc (.cells #[.int .u8 fr, .int .u8 to, .int .u8 get, .int .u8 give, .int .i64 n, .int .i64 most] 55) = W at *
  refine (hcopy_any p m pb g L B W (hL.ext E2) (hB.ext E2)).mono ?_
  rintro e w3 ⟨p3, m3, pb3, g3, rfl, e3, hL3, hB3, hp3, hm3, hpb3, hg3⟩
  rw [s2] at hp3 hm3 hpb3
  have E3 := Ext.trans E2 e3
  have k1 := e3.at k1
  have k2 := e3.at k2
  have hz := heap_alloc_top w3 (.cells #[.pointer none, .pointer none] 38)
  have ez := ext_alloc w3 (.cells #[.pointer none, .pointer none] 38)
  clear c4 c5 ldh
  go_wp2_with (refine wpList_row rfl rfl 38 _ _ rfl w3.heap.size _ rfl rfl 38 _ hz (by kernel_rfl) (by rfl) (by rfl) ?_; intro w4 hb4 ho4 hs4')
  have e4 : Ext w3 w4 := hb4 _ _ (Nat.le_refl _) ez
  obtain ⟨hb, hhb⟩ : ∃ hb, hb = w3.heap.size := ⟨_, rfl⟩
  have hlo3 : ∀ x ∈ m3 :: pb3 :: g3.toList, w.heap.size + 1 + 1 + 1 ≤ x ∧ x < hb := fun x hx => by
    rw [hhb]
    rcases List.mem_cons.1 hx with rfl | hx
    · exact ⟨hm3, hL3.ltm⟩
    · rcases List.mem_cons.1 hx with rfl | hx
      · exact ⟨hpb3, hB3.ltp⟩
      · have := hg3 x (by simpa using hx)
        exact ⟨by omega, hB3.ltg x (by simpa using hx)⟩
  rw [← hhb] at hs4' ⊢
  have HI0 := Lib.hid (show FI w hb p3 m3 pb3 p' m' pb' g3 g' L L' B B' fr to get give n most w4 from
    ⟨hL3.ext e4, hB3.ext e4, hwf, hok, hsn, hL'.ext (Ext.trans E3 e4), hB'.ext (Ext.trans E3 e4), hs4', e4.at k1, e4.at k2, fun x hx => (hlo3 x hx).1, fun hx => by have := (hlo3 hb hx).2; omega, by have := e3.size; omega, Ext.trans E3 e4⟩)
  have HOLD := Lib.hid (show (p' < w.heap.size ∧ m' < w.heap.size) ∧ pb' < w.heap.size ∧ ∀ x, g' = some x → x < w.heap.size from ⟨⟨hL'.ltp, hL'.ltm⟩, hB'.ltp, hB'.ltg⟩)
  have HC := Lib.hid hc
  have HBX := Lib.hid hbx
  clear k0 k1 k2 hz ez hb4 ho4 hs4' e4 e3 E2 E3 hL3 hB3 hp3 hm3 hpb3 hg3 hlo3 hL hB hok hsn hL' hB' hc hbx s2 hhb
  go_loopw [11, 12, 14] (fun wv mv i wr => ∃ (k : Nat) (gr : Option Nat) (L1 : Led) (B1 : Bk) (wt mo : Int), k ≤ all.length ∧ i = .int .i64 k ∧ wv = .int .i64 wt ∧ mv = .int .i64 mo ∧ 0 ≤ wt ∧ wt ≤ 9223372036854775807 ∧ 0 ≤ mo ∧ mo ≤ 9223372036854775807 ∧
      ChainOk get give falls (all.drop k) L1 B1 wt mo L' Bx ∧ FI w hb p3 m3 pb3 p' m' pb' gr g' L1 L' B1 B' fr to get give n most wr) (fun _ _ i _ => all.length - (intOf i).toNat)
  case atStart => exact ⟨0, g3, L, B, n, most, Nat.zero_le _, rfl, rfl, rfl, hn0, hn, hm0, hm, HC.out, HI0.out⟩
  case round =>
    obtain ⟨k, gr, L1, B1, wt, mo, hk, rfl, rfl, rfl, hw0, hw1, hmo0, hmo1, hch, hI⟩ := hrel
    by_cases hkn : k < all.length
    · rcases hs4 with hs4 | ⟨ga, rfl, hba, hla, hca⟩
      · omega
      rw [List.drop_eq_getElem_cons hkn] at hch
      obtain ⟨o, L2, B2, hst, hrest⟩ := hch
      have hld := load_fl wr ga k all hkn (fun j u hu => by rw [cell_block (hI.ex.block hla)]; exact hca j u hu)
      generalize (all[k]'hkn) = f at *
      obtain ⟨seq, taker, too, got, given⟩ := f
      simp only [Fagg] at hld
      have hfair := hst.fill.fair
      obtain ⟨j, hj, hjo, hbef⟩ := hst.best
      have hmay := hst.may
      have hwt := hst.want
      have hmt := hst.most
      have hdo := hst.fill.doo
      have hfnd := (findR_mem hst.fill.fnd).2
      have hwf2 := hst.fill.wf
      have hok2 := ok_do (L := L1) hI.ok seq taker too got
      have hsn2 := seqN_do (L := L1) hI.sn seq taker too got
      try simp only at hfair hmay hwt hmt hdo hfnd hbef hrest
      rw [hdo] at hok2 hsn2
      try simp only at hok2 hsn2
      have hbst := fun wq hB => best_any pb3 gr B1 get give wq hB hI.ok hI.sn.b
      have hmy := fun wq sq h1 h2 => hmay_any p3 m3 pb3 gr L1 B1 sq taker too wt mo wq h1 hI.wf h2 hI.ok
      have hdoc := fun wq h1 h2 => do_any p3 m3 pb3 gr L1 B1 seq taker too got wq h1 hI.wf h2 hI.ok (by have := hfair.g2; omega)
      rw [hdo] at hdoc
      obtain ⟨l, hl⟩ : ∃ l, l = bestR B1.offs get give := ⟨_, rfl⟩
      have hj' : j < l.length := by rw [hl]; exact hj
      have hjo' : l[j]'hj' = o := by subst hl; exact hjo
      have hbef' : ∀ i (hi : i < j) (hil : i < l.length), (l[i]'hil).seq ≠ seq ∧ mayT L1 B1 (l[i]'hil).seq taker too wt mo = 0 := fun i hi hil => by subst hl; exact hbef i hi
      have hbst' : ∀ wq, IsBook wq pb3 gr B1 → Calls Tryz.prog 17 #[.pointer (some ⟨pb3, 0, none⟩), .int .u8 get, .int .u8 give] wq (RetOwn l wq) := fun wq hB => by rw [hl]; exact hbst wq hB
      clear hbst hbef hjo hj hl
      have hj := hj'
      have hjo : l[j]'hj = o := hjo'
      have hbst := hbst'
      clear hbst' hjo'
      have HBEF := Lib.hid hbef'
      have HMAY := Lib.hid hmay
      have HJO := Lib.hid hjo
      have HFND := Lib.hid hfnd
      have HREST := Lib.hid hrest
      have HFAIR := Lib.hid hfair
      have HSL := Lib.hid (show ∀ x ∈ m3 :: pb3 :: gr.toList, x < wr.heap.size from fun x hx => by
        rcases List.mem_cons.1 hx with rfl | hx
        · exact hI.led.ltm
        · rcases List.mem_cons.1 hx with rfl | hx
          · exact hI.book.ltp
          · exact hI.book.ltg x (by simpa using hx))
      have HI := Lib.hid hI
      have hz := heap_alloc_top wr (.cells #[.int .u64 0, .int .u8 0, .int .u8 0, .int .i64 0, .int .i64 0] 66)
      have ez := ext_alloc wr (.cells #[.int .u64 0, .int .u8 0, .int .u8 0, .int .i64 0, .int .i64 0] 66)
      clear hst hbef' hmay hjo hfnd hrest hfair hdo hI hca HI0
      go_wp2_with (first
        | (refine wpList_load_at rfl 66 _ _ _ rfl rfl hld ?_)
        | (refine wpList_row rfl rfl 66 _ _ rfl wr.heap.size _ rfl rfl 66 _ hz (by kernel_rfl) (by rfl) (by rfl) ?_
           intro w5 hb5 ho5 hs5
           have e5 : Ext wr w5 := hb5 _ _ (Nat.le_refl _) ez
           have HI5 := Lib.hid (HI.out.ext e5)
           have h1 := cell_at (j := 1) HI5.out.rowh rfl
           have q2 := cell_at (j := 2) HI5.out.row2 rfl
           have q3 := cell_at (j := 3) HI5.out.row2 rfl))
      refine (hbst _ HI5.out.book).mono ?_
      rintro e w6 ⟨bv, rfl, e6, hown6⟩
      have HI6 := Lib.hid (HI5.out.ext e6)
      have hs6 := e6.at hs5
      obtain ⟨eb, heb⟩ : ∃ eb, eb = wr.heap.size := ⟨_, rfl⟩
      rw [← heb] at hs5 hs6 ⊢
      have hebS : eb ∉ m3 :: pb3 :: gr.toList := fun hx => by have := HSL.out eb hx; omega
      have HEBS := Lib.hid hebS
      clear hebS
      have hsl := SlAt.of_own hown6
      obtain ⟨bA, bcap, rfl, hb1, hb2, hb3, hb4⟩ := hsl
      rcases hb4 with hb4 | ⟨gb, rfl, hgb0, hgb1, hgbc⟩
      · omega
      have hebl := lt_of_heap hs6
      have HGBC := Lib.hid hgbc
      clear hgbc
      have hl63 : (l.length : Int) ≤ 9223372036854775807 := by unfold maxLen at hb2; omega
      clear hbst hown6 h1 q2 q3 hz ez hb5 ho5 hs5 e5 e6 HI HI5 hld hb3 hb1 hb2 heb
      go_wp2_with fail
      go_loopw [17] (fun i2 wr2 => ∃ i : Nat, i ≤ j ∧ i2 = .int .i64 i ∧ Ext w6 wr2) (fun i2 _ => j + 1 - (intOf i2).toNat)
      case atStart => exact ⟨0, Nat.zero_le _, rfl, Ext.refl _⟩
      case round =>
        obtain ⟨i, hij, rfl, e7⟩ := hrel
        have hil : i < l.length := by omega
        have hi1 : (0 : Int) ≤ (i : Int) := by omega
        have hi2 : (i : Int) < (l.length : Int) := by omega
        have hi3 : decide ((i : Int) < (l.length : Int)) = true := by simpa using hil
        have HI7 := Lib.hid (HI6.out.ext e7)
        have hs7 := e7.at hs6
        have hcell : ∀ w' : World, w'.heap[gb]? = w6.heap[gb]? → w'.cell? ⟨gb, i * 7, none⟩ = some (.int .u64 (l[i]'hil).seq) := fun w' q => by
          rw [cell_block q]
          have := HGBC.out (i * 7 + 0) (.int .u64 (l[i]'hil).seq) (by rw [offCells_at l i 0 hil (by omega)]; rfl)
          simpa using this
        have hgk : ∀ w', Ext wr w' → w'.heap[gb]? = w6.heap[gb]? := fun w' q => (Ext.trans e7 q).block hgb1
        obtain ⟨sq, hsq⟩ : ∃ sq, sq = (l[i]'hil).seq := ⟨_, rfl⟩
        rw [← hsq] at hcell
        obtain ⟨my, hmyv⟩ : ∃ my, my = mayT L1 B1 sq taker too wt mo := ⟨_, rfl⟩
        have hmyc : ∀ w', Ext wr w' → Calls Tryz.prog 20 #[.agg #[.pointer (some ⟨p3, 0, none⟩), .pointer (some ⟨pb3, 0, none⟩)], .int .u64 sq, .int .u8 taker, .int .u8 too, .int .i64 wt, .int .i64 mo] w' (Ret (.int .i64 my) w') := fun w' q => by
          rw [hmyv]
          exact hmy w' sq (HI7.out.ext q).led (HI7.out.ext q).book
        have HCELL := Lib.hid hcell
        have HGK := Lib.hid hgk
        have HMYC := Lib.hid hmyc
        have HSQ := Lib.hid hsq
        have HMYV := Lib.hid hmyv
        clear hcell hgk hmyc hsq hmyv
        go_wp2_with fail
        refine wp_region_hat waiter 13 [] (by kernel_rfl) (by kernel_rfl) ?_
        intro w1 hw1
        have ld : ∀ w', Cls w1 w' → (loadVar 38 ⟨hb, 0, none⟩).run Tryz.prog w' = .ok (.agg #[.pointer (some ⟨p3, 0, none⟩), .pointer (some ⟨pb3, 0, none⟩)]) w' := by
          rintro _ ⟨u, rfl⟩
          exact run_loadVar_row u.to hb _ _ _ _ _ ((Ext.trans hw1 u.h).at HI7.out.rowh) Tryz.underlying38 rfl (by kernel_rfl)
        have x0 : ∀ u : ExtOf w1, u.to.cell? ⟨gb, i * 7, none⟩ = _ := fun u => HCELL.out u.to (HGK.out u.to (Ext.trans hw1 u.h))
        have f1 : ∀ u : ExtOf w1, u.to.cell? ⟨eb, 1, none⟩ = _ := fun u => cell_at (j := 1) ((Ext.trans hw1 u.h).at hs7) rfl
        have f2 : ∀ u : ExtOf w1, u.to.cell? ⟨eb, 2, none⟩ = _ := fun u => cell_at (j := 2) ((Ext.trans hw1 u.h).at hs7) rfl
        have hm7 : ∀ u : ExtOf w1, Calls Tryz.prog 20 #[.agg #[.pointer (some ⟨p3, 0, none⟩), .pointer (some ⟨pb3, 0, none⟩)], .int .u64 sq, .int .u8 taker, .int .u8 too, .int .i64 wt, .int .i64 mo] u.to (Ret (.int .i64 my) u.to) := fun u => HMYC.out u.to (Ext.trans hw1 u.h)
        simp only [heads, List.take_succ_cons, List.take_zero, List.contains_nil, Bool.false_eq_true, Nat.reduceAdd, ↓reduceIte]
        repeat (first | go_big_quiet_step ((go_at_call 20; exact Ret.cls (hm7 _))) | (go_big_quiet_want; refine quiet_load 38 _ _ _ rfl rfl ld ?_; go_big_quiet_on; simp only [Act.put, List.setIfInBounds_toArray, List.set_cons_zero, List.set_cons_succ]))
        refine wpQuiet_nil ?_
        refine wpX_tail (by kernel_rfl) ?_
        intro w8 e8 e8'
        simp only [List.drop_succ_cons, List.drop_zero]
        clear ld x0 f1 f2 hm7 HMYC hw1
        have HI8 := Lib.hid (HI7.out.ext e8)
        have hs8 := e8.at hs7
        have e78 := Ext.trans e7 e8
        by_cases hij2 : i < j
        · have hbf := HBEF.out i hij2 hil
          have hsqn : (sq == seq) = false := by rw [HSQ.out]; simpa using hbf.1
          have hmyn : 0 = my := by rw [HMYV.out, HSQ.out]; exact hbf.2.symm
          clear HMYV HSQ hbf
          subst hmyn
          have hne : ((i : Int) == (l.length : Int) - 1) = false := by rw [beq_eq_false_iff_ne]; omega
          go_wp2_with fail
          refine wp_region_all waiter [] (by kernel_rfl) (by kernel_rfl) ?_
          intro w1 hw1
          have x0 : ∀ u : ExtOf w1, u.to.cell? ⟨gb, i * 7, none⟩ = _ := fun u => HCELL.out u.to ((Ext.trans e78 (Ext.trans hw1 u.h)).block hgb1)
          have f0 : ∀ u : ExtOf w1, u.to.cell? ⟨eb, 0, none⟩ = _ := fun u => cell_at (j := 0) ((Ext.trans hw1 u.h).at hs8) rfl
          simp only [heads, List.contains_nil, Bool.false_eq_true, Nat.reduceAdd, ↓reduceIte]
          repeat (go_big_quiet_step (fail))
          refine wpQuiet_nil ?_
          refine wpX_done (by kernel_rfl) ?_
          intro w9 e9 e9'
          try simp only [Act.put, List.getElem_toArray, List.getElem_cons_succ, List.getElem_cons_zero, List.setIfInBounds_toArray, List.set_cons_zero, List.set_cons_succ]
          clear x0 f0 HCELL HGK hw1
          go_wp2
          exact ⟨⟨i + 1, by omega, by go_num, Ext.trans e78 e9⟩, by simp [intOf]; omega⟩
        · have hij3 : i = j := by omega
          have hsqe : seq = sq := by
            rw [HSQ.out]
            subst hij3
            rw [HJO.out]
            exact HFND.out.symm
          have hmye : got = my := by rw [HMYV.out, ← hsqe]; exact HMAY.out.symm
          have hrt : ∀ w' : World, w'.heap[gb]? = w6.heap[gb]? → (loadVar 30 ⟨gb, i * 7 + 5, none⟩).run Tryz.prog w' = .ok (.agg #[.int .i64 o.num, .int .i64 o.den]) w' := fun w' q => by
            have hlo : l[i]'hil = o := by subst hij3; exact HJO.out
            refine run_loadVar_part w' gb (i * 7 + 5) 30 [.int .i64 o.num, .int .i64 o.den] _ (fun j' u hu => ?_) Tryz.underlying30 rfl (by kernel_rfl)
            match j', hu with
            | 0, hu =>
              simp at hu
              subst hu
              rw [Nat.add_zero, cell_block q]
              exact HGBC.out (i * 7 + 5) _ (by rw [offCells_at l i 5 hil (by omega), hlo]; rfl)
            | 1, hu =>
              simp at hu
              subst hu
              rw [cell_block q]
              exact HGBC.out (i * 7 + 6) _ (by rw [offCells_at l i 6 hil (by omega), hlo]; rfl)
            | j' + 2, hu => simp at hu
          have HRT := Lib.hid hrt
          clear HMYV HSQ hrt
          subst hsqe hmye
          clear hij2 hij3
          go_wp2_with fail
          refine wp_region_all waiter [] (by kernel_rfl) (by kernel_rfl) ?_
          intro w1 hw1
          have x0 : ∀ u : ExtOf w1, u.to.cell? ⟨gb, i * 7, none⟩ = _ := fun u => HCELL.out u.to ((Ext.trans e78 (Ext.trans hw1 u.h)).block hgb1)
          have f0 : ∀ u : ExtOf w1, u.to.cell? ⟨eb, 0, none⟩ = _ := fun u => cell_at (j := 0) ((Ext.trans hw1 u.h).at hs8) rfl
          simp only [heads, List.contains_nil, Bool.false_eq_true, Nat.reduceAdd, ↓reduceIte]
          repeat (go_big_quiet_step (fail))
          refine wpQuiet_nil ?_
          refine wpX_done (by kernel_rfl) ?_
          intro w9 e9 e9'
          try simp only [Act.put, List.getElem_toArray, List.getElem_cons_succ, List.getElem_cons_zero, List.setIfInBounds_toArray, List.set_cons_zero, List.set_cons_succ]
          clear x0 f0 HCELL HGK hw1
          have HI9 := Lib.hid (HI8.out.ext e9)
          have hs9 := e9.at hs8
          have e79 := Ext.trans e78 e9
          go_wp2_with fail
          refine wp_region_all waiter [] (by kernel_rfl) (by kernel_rfl) ?_
          intro w1 hw1
          have f3 : ∀ u : ExtOf w1, u.to.cell? ⟨eb, 3, none⟩ = _ := fun u => cell_at (j := 3) ((Ext.trans hw1 u.h).at hs9) rfl
          have f4 : ∀ u : ExtOf w1, u.to.cell? ⟨eb, 4, none⟩ = _ := fun u => cell_at (j := 4) ((Ext.trans hw1 u.h).at hs9) rfl
          have lr : ∀ w', Cls w1 w' → (loadVar 30 ⟨gb, i * 7 + 5, none⟩).run Tryz.prog w' = .ok (.agg #[.int .i64 o.num, .int .i64 o.den]) w' := by
            rintro _ ⟨u, rfl⟩
            exact HRT.out u.to ((Ext.trans e79 (Ext.trans hw1 u.h)).block hgb1)
          have hfa : ∀ u : ExtOf w1, Calls Tryz.prog 73 #[.int .i64 got, .int .i64 given, .agg #[.int .i64 o.num, .int .i64 o.den]] u.to (Ret (.bool true) u.to) := fun u => fair_any got given o.num o.den u.to HFAIR.out
          simp only [heads, List.contains_nil, Bool.false_eq_true, Nat.reduceAdd, ↓reduceIte]
          repeat (first | go_big_quiet_step ((go_at_call 73; exact Ret.cls (hfa _))) | (go_big_quiet_want; refine quiet_load 30 _ _ _ rfl rfl lr ?_; go_big_quiet_on; simp only [Act.put, List.setIfInBounds_toArray, List.set_cons_zero, List.set_cons_succ]))
          refine wpQuiet_nil ?_
          refine wpX_done (by kernel_rfl) ?_
          intro w10 e10 e10'
          try simp only [Act.put, List.getElem_toArray, List.getElem_cons_succ, List.getElem_cons_zero, List.setIfInBounds_toArray, List.set_cons_zero, List.set_cons_succ]
          clear f3 f4 lr hfa HRT hw1
          have HI10 := Lib.hid (HI9.out.ext e10)
          have hs10 := e10.at hs9
          have y0 := cell_at (j := 0) hs10 rfl
          have y1 := cell_at (j := 1) hs10 rfl
          have y2 := cell_at (j := 2) hs10 rfl
          have y3 := cell_at (j := 3) hs10 rfl
          have ldh := run_loadVar_row (P := Tryz.prog) _ hb _ 38 _ _ _ HI10.out.rowh Tryz.underlying38 rfl (by kernel_rfl)
          go_wp2_with (refine wpList_load_at rfl 38 _ _ _ rfl rfl ldh ?_)
          refine (hdoc _ HI10.out.led HI10.out.book).mono ?_
          rintro e w11 ⟨rfl, k11, hL11, g4, hB11, hg4⟩
          simp only [fillV, fillCells] at hL11 hB11 ⊢
          have hs11 := k11.at hs10 HEBS.out
          have s10 := lt_of_heap hs10
          have hlo10 := HI10.out.lo
          have hnb := HI10.out.nhb
          have hhb := HI10.out.hhb
          have hg4l : ∀ x, g4 = some x → w.heap.size + 1 + 1 + 1 ≤ x ∧ x ≠ hb := fun x hx => by
            rcases hg4 with hh | hh
            · exact ⟨hlo10 x (by rw [← hh, hx]; simp), fun e => hnb (by rw [← e, ← hh, hx]; simp)⟩
            · have h1 := hh x hx
              have h2 := lt_of_heap HI10.out.rowh
              exact ⟨by omega, by omega⟩
          have HI11 := Lib.hid (show FI w hb p3 m3 pb3 p' m' pb' g4 g' L2 L' B2 B' fr to get give n most w11 from
            { led := hL11, book := hB11, wf := hwf2, ok := hok2, sn := hsn2
              led' := HI10.out.led'.keep k11 (fun hx => by have := hlo10 _ hx; have := HOLD.out.1.1; omega) (fun hx => by have := hlo10 _ hx; have := HOLD.out.1.2; omega)
              book' := HI10.out.book'.keep k11 (fun hx => by have := hlo10 _ hx; have := HOLD.out.2.1; omega) (fun x hx hx2 => by have := hlo10 _ hx2; have := HOLD.out.2.2 x hx; omega)
              rowh := k11.at HI10.out.rowh hnb
              row1 := k11.at HI10.out.row1 (fun hx => by have := hlo10 _ hx; omega)
              row2 := k11.at HI10.out.row2 (fun hx => by have := hlo10 _ hx; omega)
              lo := fun x hx => by
                rcases List.mem_cons.1 hx with rfl | hx
                · exact hlo10 _ (by simp)
                · rcases List.mem_cons.1 hx with rfl | hx
                  · exact hlo10 _ (by simp)
                  · exact (hg4l x (by simpa using hx)).1
              nhb := fun hx => by
                rcases List.mem_cons.1 hx with hx | hx
                · exact hnb (by simp [hx])
                · rcases List.mem_cons.1 hx with hx | hx
                  · exact hnb (by simp [hx])
                  · exact (hg4l hb (by simpa using hx)).2 rfl
              hhb := hhb
              ex := (Keep.trans_fresh (S := []) (Keep.of_ext HI10.out.ex) k11 (fun x hx => by right; have := hlo10 x hx; omega)).ext })
          have hlne : ((l.length : Int) == 0) = false := by rw [beq_eq_false_iff_ne]; omega
          have hz11 := heap_alloc_top w11 (.cells #[.int .u64 0, .int .u8 0, .int .u8 0, .int .i64 0, .int .i64 0] 66)
          have ez11 := ext_alloc w11 (.cells #[.int .u64 0, .int .u8 0, .int .u8 0, .int .i64 0, .int .i64 0] 66)
          have hne := neq_fill seq taker too got given
          clear y0 y1 y2 y3 ldh k11 hL11 hB11 hg4 hg4l hlo10 hnb hhb hs10 hs9 hs8 hs7 hs6 HI10 HI9 HI8 HI7 HI6 hdoc hmy HGBC
          cases falls with
          | true =>
            have hrs := HREST.out
            simp only [↓reduceIte] at hrs
            have HR2 := Lib.hid hrs
            clear hrs HREST HC
            have hq1 : 0 ≤ mo - given := by omega
            have hq2 : mo - given ≤ 9223372036854775807 := by have := HFAIR.out.h1; omega
            have hq3 : -9223372036854775808 ≤ mo - given := by omega
            go_wp2_with (refine wpList_row rfl rfl 66 _ _ rfl w11.heap.size _ rfl rfl 66 _ hz11 (by kernel_rfl) (by rfl) (by rfl) ?_
                         intro w12 hb12 ho12 hs12
                         have e12 : Ext w11 w12 := hb12 _ _ (Nat.le_refl _) ez11
                         have hs11' := e12.at hs11
                         have a0 := cell_at (j := 0) hs12 rfl
                         have a1 := cell_at (j := 1) hs12 rfl
                         have a2 := cell_at (j := 2) hs12 rfl
                         have a3 := cell_at (j := 3) hs12 rfl
                         have a4 := cell_at (j := 4) hs12 rfl
                         have b0 := cell_at (j := 0) hs11' rfl
                         have b1 := cell_at (j := 1) hs11' rfl
                         have b2 := cell_at (j := 2) hs11' rfl
                         have b3 := cell_at (j := 3) hs11' rfl
                         have b4 := cell_at (j := 4) hs11' rfl
                         clear hb12 ho12 hs12 hs11')
            have HI12 := Lib.hid (HI11.out.ext e12)
            exact ⟨⟨k + 1, g4, L2, B2, wt, mo - given, by omega, by go_num, rfl, by first | rfl | go_num, hw0, hw1, hq1, hq2, HR2.out, HI12.out⟩, by simp [intOf]; omega⟩
          | false =>
            have hrs := HREST.out
            simp only [Bool.false_eq_true, ↓reduceIte] at hrs
            have HR2 := Lib.hid hrs
            clear hrs HREST HC
            have hq1 : 0 ≤ wt - got := by omega
            have hq2 : wt - got ≤ 9223372036854775807 := by have := HFAIR.out.g1; omega
            have hq3 : -9223372036854775808 ≤ wt - got := by omega
            go_wp2_with (refine wpList_row rfl rfl 66 _ _ rfl w11.heap.size _ rfl rfl 66 _ hz11 (by kernel_rfl) (by rfl) (by rfl) ?_
                         intro w12 hb12 ho12 hs12
                         have e12 : Ext w11 w12 := hb12 _ _ (Nat.le_refl _) ez11
                         have hs11' := e12.at hs11
                         have a0 := cell_at (j := 0) hs12 rfl
                         have a1 := cell_at (j := 1) hs12 rfl
                         have a2 := cell_at (j := 2) hs12 rfl
                         have a3 := cell_at (j := 3) hs12 rfl
                         have a4 := cell_at (j := 4) hs12 rfl
                         have b0 := cell_at (j := 0) hs11' rfl
                         have b1 := cell_at (j := 1) hs11' rfl
                         have b2 := cell_at (j := 2) hs11' rfl
                         have b3 := cell_at (j := 3) hs11' rfl
                         have b4 := cell_at (j := 4) hs11' rfl
                         clear hb12 ho12 hs12 hs11')
            have HI12 := Lib.hid (HI11.out.ext e12)
            exact ⟨⟨k + 1, g4, L2, B2, wt - got, mo, by omega, by go_num, by first | rfl | go_num, rfl, hq1, hq2, hmo0, hmo1, HR2.out, HI12.out⟩, by simp [intOf]; omega⟩
    · have hk' : k = all.length := by omega
      subst hk'
      rw [List.drop_length] at hch
      obtain ⟨hle, hbe⟩ := hch
      subst hle hbe
      have HI := Lib.hid hI
      clear hI HI0 HC
      go_wp2_with fail
      refine wp_region_hat waiter 16 [2, 5, 6, 7, 8, 9, 10, 11, 12, 13, 14, 15] (by kernel_rfl) (by kernel_rfl) ?_
      intro w1 hw1
      have h0 : ∀ u : ExtOf w1, u.to.cell? ⟨hb, 0, none⟩ = _ := fun u => cell_at (j := 0) ((Ext.trans hw1 u.h).at HI.out.rowh) rfl
      have h1 : ∀ u : ExtOf w1, u.to.cell? ⟨hb, 1, none⟩ = _ := fun u => cell_at (j := 1) ((Ext.trans hw1 u.h).at HI.out.rowh) rfl
      have r0 : ∀ u : ExtOf w1, u.to.cell? ⟨w.heap.size + 1, 0, none⟩ = _ := fun u => cell_at (j := 0) ((Ext.trans hw1 u.h).at HI.out.row1) rfl
      have r1 : ∀ u : ExtOf w1, u.to.cell? ⟨w.heap.size + 1, 1, none⟩ = _ := fun u => cell_at (j := 1) ((Ext.trans hw1 u.h).at HI.out.row1) rfl
      simp only [heads, List.take_succ_cons, List.take_zero, List.contains_cons, List.contains_nil, Nat.reduceBEq, Bool.or_false, Bool.false_eq_true, Nat.reduceAdd, Bool.or_true, ↓reduceIte, Bool.or_self]
      repeat (go_big_quiet_step (fail))
      refine wpQuiet_nil ?_
      clear h0 h1 r0 r1
      refine wpX_callf 2 25 _ #[.pointer (some ⟨p3, 0, none⟩)] _ (by rfl) _ _ (by rfl) Tryz.func25 rfl rfl (by kernel_rfl) (by rfl) (by kernel_rfl) (by decide) ?_
      intro w4 h04 h4
      refine (lines_any p3 m3 L1 w4 (HI.out.ext h04).led hwf').mono ?_
      rintro e w5 ⟨va, rfl, e5, howna⟩
      refine ⟨_, rfl, Ext.trans h04 e5, ?_⟩
      refine wpX_callf 5 25 _ #[.pointer (some ⟨p', 0, none⟩)] _ (by rfl) _ _ (by rfl) Tryz.func25 rfl rfl (by kernel_rfl) (by rfl) (by kernel_rfl) (by decide) ?_
      intro w6 h06 h6
      refine (lines_any p' m' L1 w6 (HI.out.ext h06).led' hwf').mono ?_
      rintro e w7 ⟨vb, rfl, e7, hownb⟩
      refine ⟨_, rfl, Ext.trans h06 e7, ?_⟩
      refine wpX_callf 6 24 _ #[va, vb] _ (by rfl) _ _ (by rfl) Tryz.func24 rfl rfl (by kernel_rfl) (by rfl) (by kernel_rfl) (by decide) ?_
      intro w8 h08 h8
      refine (sameLines_any w4.heap.size w6.heap.size va vb (linesR L1.lines) w8 (SlAt.of_own (own_ext howna (Ext.trans h6 (Ext.trans e7 h8)))) (SlAt.of_own (own_ext hownb h8))).mono ?_
      rintro e w9 ⟨rfl, e9⟩
      refine ⟨_, rfl, Ext.trans h08 e9, ?_⟩
      have h09 := Ext.trans h08 e9
      clear howna hownb h4 e5 h6 e7 h8 e9 h04 h06 h08
      refine wpX_again waiter 7 [10, 13, 14, 15] (by kernel_rfl) h09 ?_
      intro w1 hw1
      simp only [Act.put, List.getElem_toArray, List.getElem_cons_succ, List.getElem_cons_zero, List.setIfInBounds_toArray, List.set_cons_zero, List.set_cons_succ]
      have h1 : ∀ u : ExtOf w1, u.to.cell? ⟨hb, 1, none⟩ = _ := fun u => cell_at (j := 1) ((Ext.trans h09 (Ext.trans hw1 u.h)).at HI.out.rowh) rfl
      have r1 : ∀ u : ExtOf w1, u.to.cell? ⟨w.heap.size + 1, 1, none⟩ = _ := fun u => cell_at (j := 1) ((Ext.trans h09 (Ext.trans hw1 u.h)).at HI.out.row1) rfl
      simp only [heads, List.take_succ_cons, List.take_zero, List.drop_succ_cons, List.drop_zero, List.contains_cons, List.contains_nil, Nat.reduceBEq, Bool.or_false, Bool.false_eq_true, Nat.reduceAdd, Bool.or_true, ↓reduceIte, Bool.or_self]
      repeat (go_big_quiet_step (fail))
      refine wpQuiet_nil ?_
      clear h1 r1
      refine wpX_callg 10 27 _ #[.pointer (some ⟨pb3, 0, none⟩)] _ (by rfl) _ _ (by rfl) Tryz.func27 rfl rfl (by kernel_rfl) (by rfl) (by kernel_rfl) (by decide) ?_
      intro w10 h010 h10
      refine (ball_any pb3 gr B1 w10 (HI.out.ext (Ext.trans h09 h010)).book).mono ?_
      rintro e w11 ⟨vc, rfl, e11, hsc⟩
      refine ⟨_, rfl, Ext.trans h010 e11, ?_⟩
      refine wpX_callg 13 27 _ #[.pointer (some ⟨pb', 0, none⟩)] _ (by rfl) _ _ (by rfl) Tryz.func27 rfl rfl (by kernel_rfl) (by rfl) (by kernel_rfl) (by decide) ?_
      intro w12 h012 h12
      refine (ball_any pb' g' B' w12 (HI.out.ext (Ext.trans h09 h012)).book').mono ?_
      rintro e w13 ⟨vd, rfl, e13, hsd⟩
      refine ⟨_, rfl, Ext.trans h012 e13, ?_⟩
      rw [← HBX.out] at hsd
      refine wpX_callg 14 26 _ #[vc, vd] _ (by rfl) _ _ (by rfl) Tryz.func26 rfl rfl (by kernel_rfl) (by rfl) (by kernel_rfl) (by decide) ?_
      intro w14 h014 h14
      refine (sameOffers_any w10.heap.size w12.heap.size vc vd B1.offs w14 (hsc.ext (Ext.trans h12 (Ext.trans e13 h14))) (hsd.ext h14)).mono ?_
      rintro e w15 ⟨rfl, e15⟩
      refine ⟨_, rfl, Ext.trans h014 e15, ?_⟩
      have h015 := Ext.trans h014 e15
      have E15 := Ext.trans HI.out.ex (Ext.trans h09 h015)
      clear hsc hsd h10 e11 h12 e13 h14 e15 h010 h012 h014
      refine wpX_again waiter 15 [] (by kernel_rfl) h015 ?_
      intro w1 hw1
      simp only [Act.put, List.getElem_toArray, List.getElem_cons_succ, List.getElem_cons_zero, List.setIfInBounds_toArray, List.set_cons_zero, List.set_cons_succ]
      simp only [heads, List.take_succ_cons, List.take_zero, List.drop_succ_cons, List.drop_zero, List.contains_nil, Bool.false_eq_true, ↓reduceIte]
      repeat (go_big_quiet_step (fail))
      refine wpQuiet_nil ?_
      refine wpX_tail (by kernel_rfl) ?_
      intro w16 e16 e16'
      simp only [List.drop_succ_cons, List.drop_zero]
      clear h015
      go_wp2
      go_ret
      exact ⟨rfl, Ext.trans E15 e16⟩
end Go.Proofs.YtahdgojcebajkaaGreat
