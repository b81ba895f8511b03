/- Debts that go round, walked: edges along which something may be taken, or given back. Debts that go round, walked: a step, how much goes over it, it goes. -/
import Derived.Test.YtahdgojcebajkaaGreatRnd

namespace Go.Proofs.YtahdgojcebajkaaGreat
open Go.RowKit Go.Rg Go.BigFrame

def dbC (d : Db) : List Value := [.int .u8 d.1, .int .u8 d.2.1, .int .i64 d.2.2.1, .int .i64 d.2.2.2]
def ptrs (ps : List Nat) : List Value := ps.map fun p => .pointer (some ⟨p, 0, none⟩)
/-- Debts that are being cancelled. -/
structure IsDb (w : World) (base : Nat) (v : Value) (ps : List Nat) (ds : List Db) : Prop where
  len : ps.length = ds.length
  sl : SlAt w base 1 v ps.length (ptrs ps)
  rows : ∀ (i p : Nat) (d : Db), ps[i]? = some p → ds[i]? = some d → w.heap[p]? = some (Obj.cells (dbC d).toArray 292 (0, 0))
  nd : ps.Nodup
  low : ∀ p ∈ ps, base ≤ p
  off : ∀ q, v.ownBlock = some q → q ∉ ps
theorem IsDb.ext {w w' : World} {base : Nat} {v : Value} {ps : List Nat} {ds : List Db} (h : IsDb w base v ps ds) (k : Ext w w') : IsDb w' base v ps ds :=
  ⟨h.len, h.sl.ext k, fun i p d hp hd => k.at (h.rows i p d hp hd), h.nd, h.low, h.off⟩
theorem IsDb.at {w : World} {base : Nat} {v : Value} {ps : List Nat} {ds : List Db} (h : IsDb w base v ps ds) (k : Nat) (hk : k < ds.length) : ∃ p, ps[k]? = some p ∧ w.heap[p]? = some (Obj.cells (dbC (ds[k]'hk)).toArray 292 (0, 0)) :=
  have hl : k < ps.length := by rw [h.len]; exact hk
  ⟨_, List.getElem?_eq_getElem hl, h.rows k _ _ (List.getElem?_eq_getElem hl) (List.getElem?_eq_getElem hk)⟩
end Go.Proofs.YtahdgojcebajkaaGreat

namespace Go.Proofs.YtahdgojcebajkaaGreat
open Go.RowKit Go.Rg Go.BigFrame

end Go.Proofs.YtahdgojcebajkaaGreat
