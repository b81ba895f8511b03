/- Swaps: what is given in all; which offer is filled next; the closure behind it all; no house. Swaps, plainly; what holds between two fills. -/
import Derived.Test.YtahdgojcebajkaaGreatPlace4
import Derived.Laws.Externs
import Derived.Defers

namespace Go.Proofs.YtahdgojcebajkaaGreat
open Go.RowKit Go.Rg Go.BigFrame

/-- A number of 128 bits, and one more. -/
def plusR (h : Int × Int) (n : Int) : Int × Int :=
  ((h.1 + IntKind.u64.wrap (n / 9223372036854775808) + (h.2 + IntKind.u64.wrap n) / 18446744073709551616) % 18446744073709551616, (h.2 + IntKind.u64.wrap n) % 18446744073709551616)

/-- The sum of some numbers, if it is one. -/
def foldW (l : List Int) : Int × Int := l.foldl plusR (0, 0)
def sumW (h : Int × Int) : Int × Int :=
  if h.1 == IntKind.u64.wrap (wrap64 h.2 / 9223372036854775808) then (wrap64 h.2, 0) else (0, 10)
def sumR (l : List Int) : Int × Int := sumW (foldW l)

/-- What is given in all. -/
def givenS (l : List Fl) : Int := (sumR (l.map fun f => f.2.2.2.2)).1

end Go.Proofs.YtahdgojcebajkaaGreat

/- Swaps: which offer is filled next; the closure behind it all. -/
namespace Go.Proofs.YtahdgojcebajkaaGreat
open Go.RowKit Go.Rg Go.BigFrame

end Go.Proofs.YtahdgojcebajkaaGreat

/- Swaps: the door of Swap; what its closing regions need. -/
namespace Go.Proofs.YtahdgojcebajkaaGreat
open Go.RowKit Go.Rg Go.BigFrame

end Go.Proofs.YtahdgojcebajkaaGreat
namespace Go.RgK
open Go.RowKit Go.Rg
section
variable {S : List Nat} {P : Program} {ops : Array Oper} {md : Region.Mode}
end
end Go.RgK

/- Swaps: Swap. -/
namespace Go.Proofs.YtahdgojcebajkaaGreat
open Go.RowKit Go.Rg Go.BigFrame

end Go.Proofs.YtahdgojcebajkaaGreat

namespace Go.Proofs.YtahdgojcebajkaaGreat
open Go.RowKit Go.Rg Go.BigFrame

def cur8 (c : Int) : Bool := decide (1 ≤ c) && decide (c ≤ 8)
def par16 (c : Int) : Bool := decide (1 ≤ c) && decide (c ≤ 16)
def amt40 (c : Int) : Bool := decide (1 ≤ c) && decide (c ≤ 1099511627776)

/-- The first offer of which something may be filled. -/
def fillableR (L : Led) (B : Bk) (fr to get give n : Int) : Option Off := (bestR B.offs get give).find? fun o => decide (0 < mayT L B o.seq fr to n 1099511627776)

/-- Fill by fill, at most so many. -/
def swapGo (fr to get give : Int) : Nat → Led → Bk → Int → List Fl → Int × Led × Bk × Int × List Fl
  | 0, L, B, n, all => (0, L, B, n, all)
  | f + 1, L, B, n, all =>
    if n ≤ 0 then (0, L, B, n, all)
    else match fillableR L B fr to get give n with
      | none => (11, L, B, n, all)
      | some o =>
        if all.length = 64 then (13, L, B, n, all)
        else swapGo fr to get give f (doR L B o.seq fr to (mayT L B o.seq fr to n 1099511627776)).2.2.1 (doR L B o.seq fr to (mayT L B o.seq fr to n 1099511627776)).2.2.2
          (n - (doR L B o.seq fr to (mayT L B o.seq fr to n 1099511627776)).1.2.2.2.1) (all ++ [(doR L B o.seq fr to (mayT L B o.seq fr to n 1099511627776)).1])

/-- What Swap answers, and leaves: the error, the ledger, the book, the fills. -/
def swapR (L : Led) (B : Bk) (fr to get give n most : Int) : Int × Led × Bk × List Fl :=
  if (par16 fr && par16 to && cur8 get && cur8 give && !(get == give) && amt40 n && amt40 most) = false then (1, L, B, [])
  else if (hasP L fr && hasP L to) = false then (7, L, B, [])
  else if (swapGo fr to get give 65 L B n []).1 ≠ 0 then ((swapGo fr to get give 65 L B n []).1, L, B, [])
  else if most < givenS (swapGo fr to get give 65 L B n []).2.2.2.2 then (12, L, B, [])
  else (0, (swapGo fr to get give 65 L B n []).2.1, (swapGo fr to get give 65 L B n []).2.2.1, (swapGo fr to get give 65 L B n []).2.2.2.2)

def RetSwap (r : Int × Led × Bk × List Fl) (w : World) (e : Ending) (w' : World) : Prop :=
  ∃ hv av, e = .returned (.tuple #[hv, av, .int .i64 r.1]) ∧ Ext w w' ∧ (r.1 ≠ 0 → hv = .agg #[.pointer none, .pointer none] ∧ av = .slice none 0 0) ∧
    (r.1 = 0 → ∃ p m pb g, hv = .agg #[.pointer (some ⟨p, 0, none⟩), .pointer (some ⟨pb, 0, none⟩)] ∧ IsLed w' p m r.2.1 ∧ IsBook w' pb g r.2.2.1 ∧ SlAt w' w.heap.size 5 av r.2.2.2.length (flCells r.2.2.2))

/-- What holds between two rounds: the rows of the call, and what they hold. -/
structure SRow (b : Nat) (fr to n : Int) (p pb : Nat) (av : Value) (W : World) : Prop where
  k1 : W.heap[b + 1]? = some (.cells #[.int .u8 fr] 27 (0, 0))
  k2 : W.heap[b + 1 + 1]? = some (.cells #[.int .u8 to] 27 (0, 0))
  k3 : W.heap[b + 1 + 1 + 1]? = some (.cells #[.int .i64 n] 2 (0, 0))
  k4 : W.heap[b + 1 + 1 + 1 + 1]? = some (.cells #[.pointer (some ⟨p, 0, none⟩), .pointer (some ⟨pb, 0, none⟩)] 38 (0, 0))
  k5 : W.heap[b + 1 + 1 + 1 + 1 + 1]? = some (.cells #[av] 40 (0, 0))
  k6 : W.heap[b + 1 + 1 + 1 + 1 + 1 + 1]? = some (.cells #[.int .i64 0] 41 (0, 0))
theorem SRow.keep {b : Nat} {fr to n : Int} {p pb : Nat} {av : Value} {W W' : World} (h : SRow b fr to n p pb av W) (k : ∀ j ob, j < b + 1 + 1 + 1 + 1 + 1 + 1 + 1 → W.heap[j]? = some ob → W'.heap[j]? = some ob) : SRow b fr to n p pb av W' :=
  ⟨k _ _ (by omega) h.k1, k _ _ (by omega) h.k2, k _ _ (by omega) h.k3, k _ _ (by omega) h.k4, k _ _ (by omega) h.k5, k _ _ (by omega) h.k6⟩

structure SI (w : World) (fr to get give : Int) (r0 : Int × Led × Bk × Int × List Fl) (p m pb : Nat) (g : Option Nat) (L : Led) (B : Bk) (n : Int) (all : List Fl) (av : Value) (W : World) : Prop where
  row : SRow w.heap.size fr to n p pb av W
  led : IsLed W p m L
  book : IsBook W pb g B
  own : W.ownsRow (w.heap.size + 1 + 1 + 1 + 1 + 1 + 1 + 1) 66 5 av all.length (flCells all)
  wf : WF L
  ok : OkB B
  sn : SeqN B
  hn : n ≤ 9223372036854775807
  ha : all.length ≤ 64
  hp : w.heap.size + 1 + 1 + 1 + 1 + 1 + 1 + 1 ≤ p
  hm : w.heap.size + 1 + 1 + 1 + 1 + 1 + 1 + 1 ≤ m
  hb : w.heap.size + 1 + 1 + 1 + 1 + 1 + 1 + 1 ≤ pb
  hg : ∀ x, g = some x → w.heap.size + 1 + 1 + 1 + 1 + 1 + 1 + 1 ≤ x
  ex : Ext w W
  on : swapGo fr to get give (65 - all.length) L B n all = r0

theorem SI.ext {w : World} {fr to get give : Int} {r0 : Int × Led × Bk × Int × List Fl} {p m pb : Nat} {g : Option Nat} {L : Led} {B : Bk} {n : Int} {all : List Fl} {av : Value} {W W' : World} (h : SI w fr to get give r0 p m pb g L B n all av W) (k : Ext W W') : SI w fr to get give r0 p m pb g L B n all av W' :=
  { h with row := h.row.keep fun _ _ _ hj => k.at hj, led := h.led.ext k, book := h.book.ext k, own := own_ext h.own k, ex := Ext.trans h.ex k }
end Go.Proofs.YtahdgojcebajkaaGreat
