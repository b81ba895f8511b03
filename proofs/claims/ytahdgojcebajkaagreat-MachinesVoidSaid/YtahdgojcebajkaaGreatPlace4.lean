/- Places: fill by fill. Places: Place. -/
import Derived.Test.YtahdgojcebajkaaGreatPlaceP
import Derived.Test.YtahdgojcebajkaaGreatAgain2

namespace Go.Proofs.YtahdgojcebajkaaGreat
open Go.RowKit Go.Rg Go.BigFrame

def flCells (l : List Fl) : List Value := l.flatMap fun f => [.int .u64 f.1, .int .u8 f.2.1, .int .u8 f.2.2.1, .int .i64 f.2.2.2.1, .int .i64 f.2.2.2.2]
/-- What a run of fills answers, and leaves; nothing below base turns. -/
def RetGoes (base c p m pb : Nat) (o : Off) (r : Int × Led × Bk × Int × List Fl) (w : World) (e : Ending) (w' : World) : Prop :=
  e = .returned (.int .i64 r.1) ∧ Below base w w' ∧ ∃ g' av', Coming w' c p m pb g' r.2.1 r.2.2.1 { o with left := r.2.2.2.1 } av' ∧ w'.ownsRow base 66 5 av' r.2.2.2.2.length (flCells r.2.2.2.2) ∧ (∀ x, g' = some x → base ≤ x)

/-- What holds between two rounds. -/
structure GI (base c p m pb : Nat) (o : Off) (w0 : World) (r0 : Int × Led × Bk × Int × List Fl) (g : Option Nat) (L : Led) (B : Bk) (left : Int) (all : List Fl) (av : Value) (W : World) : Prop where
  cm : Coming W c p m pb g L B { o with left := left } av
  own : W.ownsRow base 66 5 av all.length (flCells all)
  wf : WF L
  ok : OkB B
  sn : SeqN B
  hl : left ≤ 9223372036854775807
  ha : all.length ≤ 64
  hg : ∀ x, g = some x → base ≤ x
  be : Below base w0 W
  on : goesGo o (65 - all.length) L B left all = r0

theorem GI.ext {base c p m pb : Nat} {o : Off} {w0 W W' : World} {r0 : Int × Led × Bk × Int × List Fl} {g : Option Nat} {L : Led} {B : Bk} {left : Int} {all : List Fl} {av : Value} (h : GI base c p m pb o w0 r0 g L B left all av W) (k : Ext W W') (hb : base ≤ c) :
    GI base c p m pb o w0 r0 g L B left all av W' :=
  ⟨h.cm.ext k, own_ext h.own k, h.wf, h.ok, h.sn, h.hl, h.ha, h.hg, h.be.trans (Below.mono k (by have := lt_of_heap h.cm.row; omega)), h.on⟩
theorem GI.done {base c p m pb : Nat} {o : Off} {w0 W : World} {r0 : Int × Led × Bk × Int × List Fl} {g : Option Nat} {L : Led} {B : Bk} {left : Int} {all : List Fl} {av : Value} (h : GI base c p m pb o w0 r0 g L B left all av W) {e : Int}
    (hr : r0 = (e, L, B, left, all)) : RetGoes base c p m pb o r0 w0 (.returned (.int .i64 e)) W := by
  subst hr
  exact ⟨rfl, h.be, g, av, h.cm, h.own, h.hg⟩

end Go.Proofs.YtahdgojcebajkaaGreat

namespace Go.Proofs.YtahdgojcebajkaaGreat
open Go.RowKit Go.Rg Go.BigFrame

/-- What Place answers, and leaves: the error, the number, the ledger, the book, the fills. -/
def comeR (L : Led) (B : Bk) (o : Off) : Int × Int × Led × Bk × List Fl :=
  if cmayR o = false then (1, 0, L, B, [])
  else if hasP L o.owner = false then (7, 0, L, B, [])
  else if (goesGo o 65 L B o.left []).1 ≠ 0 then ((goesGo o 65 L B o.left []).1, 0, L, B, [])
  else if 0 < (goesGo o 65 L B o.left []).2.2.2.1 then
    (if (placeR (goesGo o 65 L B o.left []).2.2.1 o.owner o.sell o.buy (goesGo o 65 L B o.left []).2.2.2.1 o.num o.den).2.1 ≠ 0 then ((placeR (goesGo o 65 L B o.left []).2.2.1 o.owner o.sell o.buy (goesGo o 65 L B o.left []).2.2.2.1 o.num o.den).2.1, 0, L, B, [])
     else (0, (placeR (goesGo o 65 L B o.left []).2.2.1 o.owner o.sell o.buy (goesGo o 65 L B o.left []).2.2.2.1 o.num o.den).1, (goesGo o 65 L B o.left []).2.1, (placeR (goesGo o 65 L B o.left []).2.2.1 o.owner o.sell o.buy (goesGo o 65 L B o.left []).2.2.2.1 o.num o.den).2.2, (goesGo o 65 L B o.left []).2.2.2.2))
  else (0, 0, (goesGo o 65 L B o.left []).2.1, (goesGo o 65 L B o.left []).2.2.1, (goesGo o 65 L B o.left []).2.2.2.2)

def RetCome (r : Int × Int × Led × Bk × List Fl) (w : World) (e : Ending) (w' : World) : Prop :=
  ∃ hv av, e = .returned (.tuple #[hv, av, .int .u64 r.2.1, .int .i64 r.1]) ∧ Ext w w' ∧ (r.1 ≠ 0 → hv = .agg #[.pointer none, .pointer none] ∧ av = .slice none 0 0) ∧
    (r.1 = 0 → ∃ p m pb g, hv = .agg #[.pointer (some ⟨p, 0, none⟩), .pointer (some ⟨pb, 0, none⟩)] ∧ IsLed w' p m r.2.2.1 ∧ IsBook w' pb g r.2.2.2.1 ∧ SlAt w' w.heap.size 5 av r.2.2.2.2.length (flCells r.2.2.2.2))

/-- As RetCome; the house is a new one. -/
def RetComeF (r : Int × Int × Led × Bk × List Fl) (w : World) (e : Ending) (w' : World) : Prop :=
  ∃ hv av, e = .returned (.tuple #[hv, av, .int .u64 r.2.1, .int .i64 r.1]) ∧ Ext w w' ∧ (r.1 ≠ 0 → hv = .agg #[.pointer none, .pointer none] ∧ av = .slice none 0 0) ∧
    (r.1 = 0 → ∃ p m pb g, hv = .agg #[.pointer (some ⟨p, 0, none⟩), .pointer (some ⟨pb, 0, none⟩)] ∧ IsLed w' p m r.2.2.1 ∧ IsBook w' pb g r.2.2.2.1 ∧ SlAt w' w.heap.size 5 av r.2.2.2.2.length (flCells r.2.2.2.2) ∧ w.heap.size ≤ p ∧ w.heap.size ≤ m ∧ w.heap.size ≤ pb ∧ ∀ x, g = some x → w.heap.size ≤ x)
theorem RetComeF.old {r : Int × Int × Led × Bk × List Fl} {w w' : World} {e : Ending} (h : RetComeF r w e w') : RetCome r w e w' := by
  obtain ⟨hv, av, h1, h2, h3, h4⟩ := h
  refine ⟨hv, av, h1, h2, h3, fun h0 => ?_⟩
  obtain ⟨p, m, pb, g, a1, a2, a3, a4, _⟩ := h4 h0
  exact ⟨p, m, pb, g, a1, a2, a3, a4⟩

end Go.Proofs.YtahdgojcebajkaaGreat
