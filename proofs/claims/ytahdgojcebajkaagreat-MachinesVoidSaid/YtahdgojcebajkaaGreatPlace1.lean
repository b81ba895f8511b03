/- Places: may an offer be. Places: the offers against one that comes. Places: the next one to be filled. -/
import Derived.Test.YtahdgojcebajkaaGreatHCopy
import Derived.Test.YtahdgojcebajkaaGreatBest2
import Derived.Test.YtahdgojcebajkaaGreatAgain
import Derived.Test.YtahdgojcebajkaaGreatIterK
import Derived.Test.YtahdgojcebajkaaGreatAll

namespace Go.Proofs.YtahdgojcebajkaaGreat
open Go.RowKit Go.Rg Go.BigFrame

/-- May an offer be? -/
def cmayR (o : Off) : Bool := (placeR ⟨[], 1⟩ o.owner o.sell o.buy o.left o.num o.den).2.1 == 0

end Go.Proofs.YtahdgojcebajkaaGreat

namespace Go.Proofs.YtahdgojcebajkaaGreat
open Go.RowKit Go.Rg Go.BigFrame

/-- At block c lies an offer that comes, in a house. -/
structure Coming (W : World) (c p m pb : Nat) (g : Option Nat) (L : Led) (B : Bk) (o : Off) (av : Value) : Prop where
  row : W.heap[c]? = some (.cells #[.pointer (some ⟨p, 0, none⟩), .pointer (some ⟨pb, 0, none⟩), .int .u64 o.seq, .int .u8 o.owner, .int .u8 o.sell, .int .u8 o.buy, .int .i64 o.left, .int .i64 o.num, .int .i64 o.den, av] 119 (0, 0))
  led : IsLed W p m L
  book : IsBook W pb g B
theorem Coming.ext {W W' : World} {c p m pb : Nat} {g : Option Nat} {L : Led} {B : Bk} {o : Off} {av : Value} (h : Coming W c p m pb g L B o av) (k : Ext W W') : Coming W' c p m pb g L B o av :=
  ⟨k.at h.row, h.led.ext k, h.book.ext k⟩
theorem Coming.keep {S : List Nat} {W W' : World} {c p m pb : Nat} {g : Option Nat} {L : Led} {B : Bk} {o : Off} {av : Value} (h : Coming W c p m pb g L B o av) (k : Keep S W W') (h1 : c ∉ S) (h2 : p ∉ S) (h3 : m ∉ S) (h4 : pb ∉ S) (h5 : ∀ x, g = some x → x ∉ S) :
    Coming W' c p m pb g L B o av :=
  ⟨k.at h.row h1, h.led.keep k h2 h3, h.book.keep k h4 h5⟩

/-- Those that stand against it, the best one first. -/
def agR (B : Bk) (o : Off) : List Off := bestR B.offs o.buy o.sell
/-- Is its rate too great? -/
def overR (o x : Off) : Bool := decide (0 < cmpR x.num x.den (invR o.num o.den).1 (invR o.num o.den).2)

end Go.Proofs.YtahdgojcebajkaaGreat

namespace Go.Proofs.YtahdgojcebajkaaGreat
open Go.RowKit Go.Rg Go.BigFrame

/-- The first one of which something may be filled, and how much. -/
def nextGo (L : Led) (B : Bk) (o : Off) : List Off → Int × Int
  | [] => (0, 0)
  | y :: l => if overR o y then (0, 0) else if 0 < mayT L B y.seq o.owner o.owner 1099511627776 o.left then (y.seq, mayT L B y.seq o.owner o.owner 1099511627776 o.left) else nextGo L B o l
def nextR (L : Led) (B : Bk) (o : Off) : Int × Int := nextGo L B o (agR B o)

/-- What holds between two rounds. -/
structure NI (w : World) (c p m pb : Nat) (g : Option Nat) (L : Led) (B : Bk) (o : Off) (av : Value) (bb : Nat) (s : Nat) (W : World) : Prop where
  cm : Coming W c p m pb g L B o av
  k0 : W.heap[w.heap.size]? = some (.cells #[.pointer (some ⟨c, 0, none⟩)] 117 (0, 0))
  k1 : W.heap[w.heap.size + 1]? = some (.cells #[.int .u64 0] 26 (0, 0))
  k2 : W.heap[w.heap.size + 1 + 1]? = some (.cells #[.int .i64 0] 2 (0, 0))
  kb : W.heap[bb]? = some (.cells #[.pointer (some ⟨c, 0, none⟩)] 117 (0, 0))
  be : Ext w W
  on : nextGo L B o ((agR B o).drop s) = nextR L B o
/-- What holds where it is left. -/
structure NF (w : World) (r : Int × Int) (W : World) : Prop where
  k1 : W.heap[w.heap.size + 1]? = some (.cells #[.int .u64 r.1] 26 (0, 0))
  k2 : W.heap[w.heap.size + 1 + 1]? = some (.cells #[.int .i64 r.2] 2 (0, 0))
  be : Ext w W

theorem NI.keep {w : World} {c p m pb : Nat} {g : Option Nat} {L : Led} {B : Bk} {o : Off} {av : Value} {bb s D : Nat} {W W' : World} (h : NI w c p m pb g L B o av bb s W) (k : Keep [D, D + 1] W W') (hw : w.heap.size + 3 ≤ D) (hb : bb < D)
    (hc : c < w.heap.size) (hp : p < w.heap.size) (hm : m < w.heap.size) (hpb : pb < w.heap.size) (hg : ∀ x, g = some x → x < w.heap.size) : NI w c p m pb g L B o av bb s W' :=
  ⟨h.cm.keep k (by simp; omega) (by simp; omega) (by simp; omega) (by simp; omega) (fun x hx => by have := hg x hx; simp; omega), k.at h.k0 (by simp; omega), k.at h.k1 (by simp; omega), k.at h.k2 (by simp; omega), k.at h.kb (by simp; omega),
    (Keep.trans_fresh (S := []) (Keep.of_ext h.be) k (fun x hx => by simp at hx; right; omega)).ext, h.on⟩
theorem NF.keep {w : World} {r : Int × Int} {D : Nat} {W W' : World} (h : NF w r W) (k : Keep [D, D + 1] W W') (hw : w.heap.size + 3 ≤ D) : NF w r W' :=
  ⟨k.at h.k1 (by simp; omega), k.at h.k2 (by simp; omega), (Keep.trans_fresh (S := []) (Keep.of_ext h.be) k (fun x hx => by simp at hx; right; omega)).ext⟩

end Go.Proofs.YtahdgojcebajkaaGreat
