/- The book: what lies in memory; where an offer is. The book, further: new, find, copy. The book, further: a copy. The book, further: may an offer be; one more. The book, further: a copy. -/
import Derived.Test.YtahdgojcebajkaaGreatLed6
import Derived.Lib.SliceRun
import Derived.Test.YtahdgojcebajkaaGreatNum3

/-! The book: what lies in memory; where an offer is. -/
namespace Go.Proofs.YtahdgojcebajkaaGreat
open Go.RowKit Go.Rg Go.BigFrame

structure Off where
  seq : Int
  owner : Int
  sell : Int
  buy : Int
  left : Int
  num : Int
  den : Int

def Off.cells (o : Off) : List Value := [.int .u64 o.seq, .int .u8 o.owner, .int .u8 o.sell, .int .u8 o.buy, .int .i64 o.left, .int .i64 o.num, .int .i64 o.den]
def Off.agg (o : Off) : Value := .agg #[.int .u64 o.seq, .int .u8 o.owner, .int .u8 o.sell, .int .u8 o.buy, .int .i64 o.left, .int .i64 o.num, .int .i64 o.den]
def offCells (l : List Off) : List Value := l.flatMap Off.cells

theorem offCells_len (l : List Off) : (offCells l).length = l.length * 7 := by
  induction l with
  | nil => rfl
  | cons o l ih =>
    have : (Off.cells o).length = 7 := rfl
    simp only [offCells, List.flatMap_cons, List.length_append, List.length_cons, this] at ih ⊢
    omega
structure Bk where
  offs : List Off
  next : Int

/-- At block p lies a book; its offers lie in block g. -/
structure IsBook (w : World) (p : Nat) (g : Option Nat) (B : Bk) : Prop where
  row : ∃ v, w.heap[p]? = some (.cells #[v, .int .u64 B.next] 126 (0, 0)) ∧ v.ownBlock = g ∧ w.ownsRow 0 32 7 v B.offs.length (offCells B.offs)
  made : 0 < B.next
  top : B.next ≤ 18446744073709551615
  few : B.offs.length ≤ 32

theorem IsBook.ltp {w : World} {p : Nat} {g : Option Nat} {B : Bk} (h : IsBook w p g B) : p < w.heap.size := by
  obtain ⟨v, h1, _⟩ := h.row; exact lt_of_heap h1
theorem IsBook.keep {S : List Nat} {w w' : World} {p : Nat} {g : Option Nat} {B : Bk} (h : IsBook w p g B) (k : Keep S w w') (hp : p ∉ S) (hg : ∀ x, g = some x → x ∉ S) : IsBook w' p g B := by
  obtain ⟨v, h1, h2, h3⟩ := h.row
  refine ⟨⟨v, k.at h1 hp, h2, h3.1, ?_⟩, h.made, h.top, h.few⟩
  rcases h3.2 with h4 | ⟨b, cap, cur, rfl, hb, hh, rest⟩
  · exact .inl h4
  · refine .inr ⟨b, cap, cur, rfl, hb, k.at hh (hg b ?_), rest⟩
    rw [← h2]; rfl
theorem IsBook.ext {w w' : World} {p : Nat} {g : Option Nat} {B : Bk} (h : IsBook w p g B) (k : Ext w w') : IsBook w' p g B :=
  h.keep (Keep.of_ext (S := []) k) (by simp) (by simp)
theorem IsBook.cell0 {w : World} {p : Nat} {g : Option Nat} {B : Bk} (h : IsBook w p g B) : ∃ v, w.cell? ⟨p, 0, none⟩ = some v ∧ v.ownBlock = g ∧ w.ownsRow 0 32 7 v B.offs.length (offCells B.offs) := by
  obtain ⟨v, h1, h2, h3⟩ := h.row; exact ⟨v, cell_at h1 rfl, h2, h3⟩
theorem IsBook.cell1 {w : World} {p : Nat} {g : Option Nat} {B : Bk} (h : IsBook w p g B) : w.cell? ⟨p, 1, none⟩ = some (.int .u64 B.next) := by
  obtain ⟨v, h1, _⟩ := h.row; exact cell_at h1 rfl

theorem own_slice {w : World} {base size n : Nat} {e : TypeId} {v : Value} {xs : List Value} (h : w.ownsRow base e size v n xs) : ∃ A cap, v = .slice A n cap := by
  rcases h.2 with ⟨rfl, rfl⟩ | ⟨g, cap, cur, rfl, _⟩
  · exact ⟨_, _, rfl⟩
  · exact ⟨_, _, rfl⟩

set_option maxRecDepth 100000 in
theorem bthere_any (p : Nat) (g : Option Nat) (B : Bk) (w : World) (h : IsBook w p g B) : Calls Tryz.prog 59 #[.pointer (some ⟨p, 0, none⟩)] w (Ret (.bool true) w) := by
  have c := h.cell1
  have hm : 0 < B.next := h.made
  have hm' : decide (0 < B.next) = true := by simpa using hm
  go_enter Tryz.func59, Tryz.ntmps59
  go_wp2
  go_ret
  exact ⟨rfl, Ext.refl _⟩

def idxFrom : List Off → Int → Nat → Int
  | [], _, _ => -1
  | o :: l, s, k => if o.seq == s then k else idxFrom l s (k + 1)
def idxR (l : List Off) (s : Int) : Int := idxFrom l s 0

/-- A slice of offers that can be read. -/
def OffSl (w : World) (base : Nat) (v : Value) (l : List Off) : Prop := SlAt w base 7 v l.length (offCells l)

end Go.Proofs.YtahdgojcebajkaaGreat

/-! The book, further: new, find, copy. -/
namespace Go.Proofs.YtahdgojcebajkaaGreat
open Go.RowKit Go.Rg Go.BigFrame

def zeroOff : Off := ⟨0, 0, 0, 0, 0, 0, 0⟩
def findR (l : List Off) (s : Int) : Option Off := l.find? fun o => o.seq == s
def RetBook (B : Bk) (w : World) (e : Ending) (w' : World) : Prop := ∃ p g, e = .returned (.pointer (some ⟨p, 0, none⟩)) ∧ Ext w w' ∧ IsBook w' p g B ∧ w.heap.size ≤ p ∧ (∀ x, g = some x → w.heap.size ≤ x)

set_option maxRecDepth 100000 in
theorem bnew_any (w : World) : Calls Tryz.prog 50 #[] w (RetBook ⟨[], 1⟩ w) := by
  have h0 := heap_alloc_top w (.cells #[.slice none 0 0, .int .u64 1] 126)
  have e0 := ext_alloc w (.cells #[.slice none 0 0, .int .u64 1] 126)
  go_enter Tryz.func50, Tryz.ntmps50
  go_wp2
  go_ret
  exact ⟨_, none, rfl, e0, ⟨⟨_, h0, rfl, World.ownsRow_nil _ _ _ _⟩, by decide, by decide, by simp⟩, Nat.le_refl _, by simp⟩



end Go.Proofs.YtahdgojcebajkaaGreat

/-! The book, further: a copy. -/
namespace Go.Proofs.YtahdgojcebajkaaGreat
open Go.RowKit Go.Rg Go.BigFrame

theorem off_info : (Tryz.prog.info? 32).map (fun i => (i.zero, i.size, i.bytes)) = some (some zeroOff.agg, 7, 40) := by kernel_rfl

theorem offCells_one (l : List Off) : ∀ u ∈ offCells l, u.oneCell' = true := by
  intro u hu
  obtain ⟨o, _, ho⟩ := List.mem_flatMap.1 hu
  simp only [Off.cells, List.mem_cons, List.not_mem_nil, or_false] at ho
  rcases ho with rfl | rfl | rfl | rfl | rfl | rfl | rfl <;> rfl

/-- What a call that makes a slice of offers yields. -/
def RetOwn (l : List Off) (w : World) (e : Ending) (w' : World) : Prop := ∃ v, e = .returned v ∧ Ext w w' ∧ w'.ownsRow w.heap.size 32 7 v l.length (offCells l)

set_option maxRecDepth 100000 in
set_option maxHeartbeats 800000 in
theorem bclone_any (base : Nat) (v : Value) (l : List Off) (w : World) (h : OffSl w base v l) (hl : l.length ≤ 64) : Calls Tryz.prog 87 #[v] w (RetOwn l w) := by
  obtain ⟨A, cap, rfl, h1, h2, h3, h4⟩ := h
  obtain ⟨i0, hi, hz0, hz1, hz2⟩ := info_parts off_info
  have hq := fun w => Lib.run_eql_slice_nil (P := Tryz.prog) w 23 _ A l.length cap 0 0 Tryz.underlying23
  cases A with
  | none =>
    have h0 : l.length = 0 := by
      rcases h4 with h4 | ⟨g, hg, _⟩
      · exact h4
      · simp at hg
    have : l = [] := List.eq_nil_of_length_eq_zero h0
    subst this
    simp only [List.length_nil] at hq
    go_enter Tryz.func87, Tryz.ntmps87
    go_wp2
    go_ret
    exact ⟨_, rfl, Ext.refl _, World.ownsRow_nil _ _ _ _⟩
  | some ad =>
    have hnews : ∀ j u, (offCells l)[j]? = some u → w.cell? (ad.add j) = some u := by
      intro j u hu
      rcases h4 with h4 | ⟨g, hg, hb, hlt, hc⟩
      · have : l = [] := List.eq_nil_of_length_eq_zero h4
        subst this
        simp [offCells] at hu
      · simp only [Option.some.injEq] at hg
        subst hg
        have hadd : (⟨g, 0, none⟩ : Addr).add j = ⟨g, j, none⟩ := by unfold Addr.add; split <;> simp_all
        rw [hadd]; exact hc j u hu
    have hlt : 0 < l.length → ad.block < w.heap.size := fun hp => by
      rcases h4 with h4 | ⟨g, hg, hb, hlt, hc⟩
      · omega
      · simp only [Option.some.injEq] at hg; subst hg; exact hlt
    have hW := World.ownsRow_lit (base := w.heap.size) (e := 32) (size := 7) w #[] 0 (Nat.le_refl _) (by unfold maxLen; omega) rfl
    have e0 := ext_alloc w (.cells #[] 32)
    have hn2 : ∀ j u, (offCells l)[j]? = some u → (w.alloc (.cells #[] 32)).cell? (ad.add j) = some u := by
      intro j u hu
      have hj := (List.getElem?_eq_some_iff.1 hu).1
      rw [offCells_len] at hj
      have hb : (ad.add j).block = ad.block := by unfold Addr.add; split <;> rfl
      have hk : (w.alloc (.cells #[] 32)).heap[(ad.add j).block]? = w.heap[(ad.add j).block]? := by rw [hb]; exact e0.block (hlt (by omega))
      exact (cell_block hk).trans (hnews j u hu)
    have hl3 := offCells_len l
    have h1c := offCells_one l
    generalize hcs : offCells l = news at *
    go_enter Tryz.func87, Tryz.ntmps87
    go_wp2_with (first
      | (at_builtin; refine wpList_append_own _ rfl _ _ 23 rfl w.heap.size 32 i0 zeroOff.agg 7 40 Tryz.underlying23 hi hz0 hz1 hz2 rfl (by decide) _ _ _ rfl hW ad l.length cap news rfl hl3 hn2 h1c (by unfold maxLen; omega) (by omega) (by simp) ?_; intro v' w3 hown' hgrow3 hnil3))
    go_ret
    rw [Nat.zero_add, List.nil_append] at hown'
    have e3 : Ext w w3 := by
      have := (Below.refl w.heap.size w).alloc (Nat.le_refl _) (.cells #[] 32)
      exact this.grown hgrow3 (by simp) (fun q hq => by have := hW.lt q hq; omega)
    exact ⟨v', rfl, e3, hcs ▸ hown'⟩
end Go.Proofs.YtahdgojcebajkaaGreat

/-! The book, further: may an offer be; one more. -/
namespace Go.Proofs.YtahdgojcebajkaaGreat
open Go.RowKit Go.Rg Go.BigFrame

def offOk (o : Off) : Bool := decide (1 ≤ o.owner ∧ o.owner ≤ 16 ∧ 1 ≤ o.sell ∧ o.sell ≤ 8 ∧ 1 ≤ o.buy ∧ o.buy ≤ 8 ∧ o.sell ≠ o.buy ∧ 1 ≤ o.left ∧ o.left ≤ 1099511627776 ∧ mayR o.num o.den = true)


end Go.Proofs.YtahdgojcebajkaaGreat

/-! The book, further: a copy. -/
namespace Go.Proofs.YtahdgojcebajkaaGreat
open Go.RowKit Go.Rg Go.BigFrame

end Go.Proofs.YtahdgojcebajkaaGreat
