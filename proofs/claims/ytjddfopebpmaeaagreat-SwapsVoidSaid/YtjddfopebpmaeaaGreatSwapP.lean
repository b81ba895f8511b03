/- Swaps, plainly; what holds between two fills. -/
import Derived.Test.YtjddfopebpmaeaaGreatSwap1
namespace Go.Proofs.YtjddfopebpmaeaaGreat
open Go.RowKit Go.Rg Go.BigFrame

def cur8 (c : Int) : Bool := decide (1 ≤ c) && decide (c ≤ 8)
def par16 (c : Int) : Bool := decide (1 ≤ c) && decide (c ≤ 16)
def amt40 (c : Int) : Bool := decide (1 ≤ c) && decide (c ≤ 1099511627776)

/-- The first offer of which something may be filled. -/
def fillableR (L : Led) (B : Bk) (fr to get give n : Int) : Option Off := (bestR B.offs get give).find? fun o => decide (0 < mayT L B o.seq fr to n 1099511627776)

/-- Fill by fill, at most so many. -/
def swapGo (fr to get give : Int) : Nat → Led → Bk → Int → List Fl → Int × Led × Bk × Int × List Fl
  | 0, L, B, n, all => (0, L, B, n, all)
  | f + 1, L, B, n, all =>
    if n ≤ 0 then (0, L, B, n, all)
    else match fillableR L B fr to get give n with
      | none => (11, L, B, n, all)
      | some o =>
        if all.length = 64 then (13, L, B, n, all)
        else swapGo fr to get give f (doR L B o.seq fr to (mayT L B o.seq fr to n 1099511627776)).2.2.1 (doR L B o.seq fr to (mayT L B o.seq fr to n 1099511627776)).2.2.2
          (n - (doR L B o.seq fr to (mayT L B o.seq fr to n 1099511627776)).1.2.2.2.1) (all ++ [(doR L B o.seq fr to (mayT L B o.seq fr to n 1099511627776)).1])

/-- What Swap answers, and leaves: the error, the ledger, the book, the fills. -/
def swapR (L : Led) (B : Bk) (fr to get give n most : Int) : Int × Led × Bk × List Fl :=
  if (par16 fr && par16 to && cur8 get && cur8 give && !(get == give) && amt40 n && amt40 most) = false then (1, L, B, [])
  else if (hasP L fr && hasP L to) = false then (7, L, B, [])
  else if (swapGo fr to get give 65 L B n []).1 ≠ 0 then ((swapGo fr to get give 65 L B n []).1, L, B, [])
  else if most < givenS (swapGo fr to get give 65 L B n []).2.2.2.2 then (12, L, B, [])
  else (0, (swapGo fr to get give 65 L B n []).2.1, (swapGo fr to get give 65 L B n []).2.2.1, (swapGo fr to get give 65 L B n []).2.2.2.2)

def RetSwap (r : Int × Led × Bk × List Fl) (w : World) (e : Ending) (w' : World) : Prop :=
  ∃ hv av, e = .returned (.tuple #[hv, av, .int .i64 r.1]) ∧ Ext w w' ∧ (r.1 ≠ 0 → hv = .agg #[.pointer none, .pointer none] ∧ av = .slice none 0 0) ∧
    (r.1 = 0 → ∃ p m pb g, hv = .agg #[.pointer (some ⟨p, 0, none⟩), .pointer (some ⟨pb, 0, none⟩)] ∧ IsLed w' p m r.2.1 ∧ IsBook w' pb g r.2.2.1 ∧ SlAt w' w.heap.size 5 av r.2.2.2.length (flCells r.2.2.2))

/-- The blocks of fills are apart from a ledger's and a book's. -/
theorem fills_apart {W : World} {p m pb base : Nat} {g : Option Nat} {L : Led} {B : Bk} {av : Value} {n : Nat} {xs : List Value} (hL : IsLed W p m L) (hB : IsBook W pb g B) (ho : W.ownsRow base 48 5 av n xs) :
    ∀ q, av.ownBlock = some q → q ∉ m :: pb :: g.toList ∧ q ≠ p := by
  obtain ⟨v, hv, hg, hob⟩ := hB.row
  obtain ⟨es, ck, hm, _⟩ := hL.map
  have hp := hL.row
  have key : ∀ x, g = some x → ∃ cur, W.heap[x]? = some (.cells cur 60 (0, 0)) := by
    intro x hx
    rcases hob.2 with ⟨rfl, _⟩ | ⟨b, cap, cur, rfl, _, hh, _⟩
    · rw [← hg] at hx; simp [Value.ownBlock] at hx
    · rw [← hg] at hx
      simp only [Value.ownBlock, Option.some.injEq] at hx
      subst hx
      exact ⟨cur, hh⟩
  have keyq : ∀ q, av.ownBlock = some q → ∃ cur, W.heap[q]? = some (.cells cur 48 (0, 0)) := by
    intro q hq
    rcases ho.2 with ⟨rfl, _⟩ | ⟨b, cap, cur, rfl, _, hh, _⟩
    · simp [Value.ownBlock] at hq
    · simp only [Value.ownBlock, Option.some.injEq] at hq
      subst hq
      exact ⟨cur, hh⟩
  intro q hq
  obtain ⟨cq, hq2⟩ := keyq q hq
  refine ⟨fun hx => ?_, fun e => by subst e; rw [hq2] at hp; simp at hp⟩
  rcases List.mem_cons.1 hx with rfl | hx
  · rw [hm] at hq2; simp at hq2
  · rcases List.mem_cons.1 hx with rfl | hx
    · rw [hv] at hq2; simp at hq2
    · obtain ⟨cur, hh⟩ := key q (by simpa using hx)
      rw [hh] at hq2; simp at hq2

/-- What holds between two rounds: the rows of the call, and what they hold. -/
structure SRow (b : Nat) (fr to n : Int) (p pb : Nat) (av : Value) (W : World) : Prop where
  k1 : W.heap[b + 1]? = some (.cells #[.int .u8 fr] 43 (0, 0))
  k2 : W.heap[b + 1 + 1]? = some (.cells #[.int .u8 to] 43 (0, 0))
  k3 : W.heap[b + 1 + 1 + 1]? = some (.cells #[.int .i64 n] 2 (0, 0))
  k4 : W.heap[b + 1 + 1 + 1 + 1]? = some (.cells #[.pointer (some ⟨p, 0, none⟩), .pointer (some ⟨pb, 0, none⟩)] 32 (0, 0))
  k5 : W.heap[b + 1 + 1 + 1 + 1 + 1]? = some (.cells #[av] 80 (0, 0))
  k6 : W.heap[b + 1 + 1 + 1 + 1 + 1 + 1]? = some (.cells #[.int .i64 0] 49 (0, 0))
theorem SRow.keep {b : Nat} {fr to n : Int} {p pb : Nat} {av : Value} {W W' : World} (h : SRow b fr to n p pb av W) (k : ∀ j ob, j < b + 1 + 1 + 1 + 1 + 1 + 1 + 1 → W.heap[j]? = some ob → W'.heap[j]? = some ob) : SRow b fr to n p pb av W' :=
  ⟨k _ _ (by omega) h.k1, k _ _ (by omega) h.k2, k _ _ (by omega) h.k3, k _ _ (by omega) h.k4, k _ _ (by omega) h.k5, k _ _ (by omega) h.k6⟩

structure SI (w : World) (fr to get give : Int) (r0 : Int × Led × Bk × Int × List Fl) (p m pb : Nat) (g : Option Nat) (L : Led) (B : Bk) (n : Int) (all : List Fl) (av : Value) (W : World) : Prop where
  row : SRow w.heap.size fr to n p pb av W
  led : IsLed W p m L
  book : IsBook W pb g B
  own : W.ownsRow (w.heap.size + 1 + 1 + 1 + 1 + 1 + 1 + 1) 48 5 av all.length (flCells all)
  wf : WF L
  ok : OkB B
  sn : SeqN B
  hn : n ≤ 9223372036854775807
  ha : all.length ≤ 64
  hp : w.heap.size + 1 + 1 + 1 + 1 + 1 + 1 + 1 ≤ p
  hm : w.heap.size + 1 + 1 + 1 + 1 + 1 + 1 + 1 ≤ m
  hb : w.heap.size + 1 + 1 + 1 + 1 + 1 + 1 + 1 ≤ pb
  hg : ∀ x, g = some x → w.heap.size + 1 + 1 + 1 + 1 + 1 + 1 + 1 ≤ x
  ex : Ext w W
  on : swapGo fr to get give (65 - all.length) L B n all = r0

theorem SI.ext {w : World} {fr to get give : Int} {r0 : Int × Led × Bk × Int × List Fl} {p m pb : Nat} {g : Option Nat} {L : Led} {B : Bk} {n : Int} {all : List Fl} {av : Value} {W W' : World} (h : SI w fr to get give r0 p m pb g L B n all av W) (k : Ext W W') : SI w fr to get give r0 p m pb g L B n all av W' :=
  { h with row := h.row.keep fun _ _ _ hj => k.at hj, led := h.led.ext k, book := h.book.ext k, own := own_ext h.own k, ex := Ext.trans h.ex k }
theorem SI.keepS {w : World} {fr to get give : Int} {r0 : Int × Led × Bk × Int × List Fl} {p m pb : Nat} {g : Option Nat} {L : Led} {B : Bk} {n : Int} {all : List Fl} {av : Value} {W : World} (h : SI w fr to get give r0 p m pb g L B n all av W) :
    ∀ j, j < w.heap.size + 1 + 1 + 1 + 1 + 1 + 1 + 1 → j ∉ m :: pb :: g.toList := fun j hj hx => by
  have h1 := h.hm
  have h2 := h.hb
  rcases List.mem_cons.1 hx with rfl | hx
  · omega
  · rcases List.mem_cons.1 hx with rfl | hx
    · omega
    · have := h.hg j (by simpa using hx); omega

/-- Through a fill, and a row that is stored beside it. -/
theorem sdo_chain {w : World} {fr to get give : Int} {r0 : Int × Led × Bk × Int × List Fl} {p m pb : Nat} {g g4 : Option Nat} {L dL : Led} {B dB : Bk} {n : Int} {all : List Fl} {av : Value} {w2 wA w4 w5 w6 w7 : World} {eb : Nat} (h : SI w fr to get give r0 p m pb g L B n all av w2)
    (hE : Ext w2 wA) (k4 : Keep (m :: pb :: g.toList) wA w4) (hL : IsLed w4 p m dL) (hB : IsBook w4 pb g4 dB) (hx : Ext w4 w5) (k6 : Keep [eb] w5 w6) (h7 : Ext w6 w7) (heb : w2.heap.size ≤ eb) (heg : ∀ x, g4 = some x → x ≠ eb) :
    SRow w.heap.size fr to n p pb av w7 ∧ IsLed w7 p m dL ∧ IsBook w7 pb g4 dB ∧ w7.ownsRow (w.heap.size + 1 + 1 + 1 + 1 + 1 + 1 + 1) 48 5 av all.length (flCells all) ∧ Ext w w7 := by
  have hq := fills_apart h.led h.book h.own
  have hlp := h.led.ltp
  have hlm := h.led.ltm
  have hlb := h.book.ltp
  have sz6 := lt_of_heap h.row.k6
  have ho4 := own_keepq (own_ext h.own hE) k4 (fun q hq2 => (hq q hq2).1)
  have hqe : ∀ q, av.ownBlock = some q → q ∉ [eb] := fun q hq2 => by have := (h.own.lt q hq2).2; simp; omega
  refine ⟨h.row.keep fun j ob hj hh => h7.at (k6.at (hx.at (k4.at (hE.at hh) (h.keepS j hj))) (by simp; omega)), ((hL.ext hx).keep k6 (by simp; omega) (by simp; omega)).ext h7, ((hB.ext hx).keep k6 (by simp; omega) (fun x hx => by have := heg x hx; simp; exact this)).ext h7,
    own_ext (own_keepq (own_ext ho4 hx) k6 hqe) h7, ?_⟩
  have hw := h.ex.size
  have a1 : Keep [] w wA := Keep.of_ext (Ext.trans h.ex hE)
  have a2 : Keep [] w w4 := Keep.trans_fresh a1 k4 (fun x hx => by
    right
    have h1 := h.hm
    have h2 := h.hb
    rcases List.mem_cons.1 hx with rfl | hx
    · omega
    · rcases List.mem_cons.1 hx with rfl | hx
      · omega
      · have := h.hg x (by simpa using hx); omega)
  have a3 : Keep [] w w5 := a2.trans (Keep.of_ext hx)
  have a4 : Keep [] w w6 := Keep.trans_fresh a3 k6 (fun x hx => by right; simp at hx; omega)
  exact Ext.trans a4.ext h7

theorem cur8_any (c : Int) (w : World) : Calls Tryz.prog 88 #[.int .u8 c] w (fun e w' => e = .returned (.bool (cur8 c)) ∧ w' = w) := by
  unfold cur8
  by_cases h1 : 1 ≤ c
  · have q1 : decide (1 ≤ c) = true := by simpa using h1
    go_enter Tryz.func88, Tryz.ntmps88
    go_wp2
    go_ret
    exact ⟨by simp [h1], rfl⟩
  · have q1 : decide (1 ≤ c) = false := by simpa using h1
    go_enter Tryz.func88, Tryz.ntmps88
    go_wp2
    go_ret
    exact ⟨by simp [h1], rfl⟩
theorem par16_any (c : Int) (w : World) : Calls Tryz.prog 87 #[.int .u8 c] w (fun e w' => e = .returned (.bool (par16 c)) ∧ w' = w) := by
  unfold par16
  by_cases h1 : 1 ≤ c
  · have q1 : decide (1 ≤ c) = true := by simpa using h1
    go_enter Tryz.func87, Tryz.ntmps87
    go_wp2
    go_ret
    exact ⟨by simp [h1], rfl⟩
  · have q1 : decide (1 ≤ c) = false := by simpa using h1
    go_enter Tryz.func87, Tryz.ntmps87
    go_wp2
    go_ret
    exact ⟨by simp [h1], rfl⟩
theorem amt40_any (c : Int) (w : World) : Calls Tryz.prog 89 #[.int .i64 c] w (fun e w' => e = .returned (.bool (amt40 c)) ∧ w' = w) := by
  unfold amt40
  by_cases h1 : 1 ≤ c
  · have q1 : decide (1 ≤ c) = true := by simpa using h1
    go_enter Tryz.func89, Tryz.ntmps89
    go_wp2
    go_ret
    exact ⟨by simp [h1], rfl⟩
  · have q1 : decide (1 ≤ c) = false := by simpa using h1
    go_enter Tryz.func89, Tryz.ntmps89
    go_wp2
    go_ret
    exact ⟨by simp [h1], rfl⟩
end Go.Proofs.YtjddfopebpmaeaaGreat
