/- The best offers, plainly: sorted by rate, then by number. -/
import Derived.Test.YtahdgojcebajkaaGreatBk
import Derived.Test.YtahdgojcebajkaaGreatSortP
namespace Go.Proofs.YtahdgojcebajkaaGreat

def cmpR (n d m e : Int) : Int := if mayR n d && mayR m e then cmpI (n * e) (m * d) else 0
def cmpO (x y : Off) : Int := orI (cmpR x.num x.den y.num y.den) (cmpI x.seq y.seq)
def ltO (x y : Off) : Bool := decide (cmpO x y < 0)
def bestR (l : List Off) (sell buy : Int) : List Off := sortR ltO (l.filter fun o => o.sell == sell && o.buy == buy)
def rateOk (o : Off) : Prop := mayR o.num o.den = true

theorem rateOk_pos {o : Off} (h : rateOk o) : 0 < o.num ∧ 0 < o.den := by
  unfold rateOk mayR at h
  rw [decide_eq_true_eq] at h
  omega
theorem ltO_true {x y : Off} (hx : rateOk x) (hy : rateOk y) : ltO x y = true ↔ x.num * y.den < y.num * x.den ∨ (x.num * y.den = y.num * x.den ∧ x.seq < y.seq) := by
  unfold ltO cmpO cmpR
  unfold rateOk at hx hy
  rw [hx, hy, decide_eq_true_eq, orI_neg]
  simp only [Bool.and_self, ↓reduceIte]
  rw [cmpI_neg, cmpI_zero, cmpI_neg]
theorem ltO_false {x y : Off} (hx : rateOk x) (hy : rateOk y) : ltO x y = false ↔ y.num * x.den ≤ x.num * y.den ∧ (x.num * y.den = y.num * x.den → y.seq ≤ x.seq) := by
  rw [← Bool.not_eq_true, ltO_true hx hy]
  omega
theorem ltO_asymm (x y : Off) (hx : rateOk x) (hy : rateOk y) (h : ltO x y = true) : ltO y x = false := by
  rw [ltO_true hx hy] at h
  rw [ltO_false hy hx]
  omega
theorem ltO_ntrans (x y z : Off) (hx : rateOk x) (hy : rateOk y) (hz : rateOk z) (h1 : ltO x y = false) (h2 : ltO y z = false) : ltO x z = false := by
  rw [ltO_false hx hy] at h1
  rw [ltO_false hy hz] at h2
  rw [ltO_false hx hz]
  obtain ⟨_, px⟩ := rateOk_pos hx
  obtain ⟨_, py⟩ := rateOk_pos hy
  obtain ⟨_, pz⟩ := rateOk_pos hz
  refine ⟨rate_trans px py pz h1.1 h2.1, fun e => ?_⟩
  have a := rate_trans (n1 := z.num) (n2 := x.num) (n3 := y.num) pz px py (by omega) h1.1
  have b := rate_trans (n1 := y.num) (n2 := z.num) (n3 := x.num) py pz px h2.1 (by omega)
  have c1 := h1.2 (by omega)
  have c2 := h2.2 (by omega)
  omega
theorem ltO_irrefl (x : Off) (hx : rateOk x) : ltO x x = false := by
  rw [ltO_false hx hx]; omega
theorem ltO_trans (x y z : Off) (hx : rateOk x) (hy : rateOk y) (hz : rateOk z) (h1 : ltO x y = true) (h2 : ltO y z = true) : ltO x z = true := by
  rw [← Bool.not_eq_false]
  intro h
  have := ltO_ntrans _ _ _ hy hx hz (ltO_asymm _ _ hx hy h1) h
  rw [h2] at this
  cases this
theorem ltO_total {x y : Off} (hx : rateOk x) (hy : rateOk y) (h1 : ltO x y = false) (h2 : ltO y x = false) : x.seq = y.seq := by
  rw [ltO_false hx hy] at h1
  rw [ltO_false hy hx] at h2
  omega
theorem bestR_perm (l : List Off) (sell buy : Int) : (bestR l sell buy).Perm (l.filter fun o => o.sell == sell && o.buy == buy) := sortR_perm _ _
theorem mem_bestR {l : List Off} {sell buy : Int} {o : Off} (h : o ∈ bestR l sell buy) : o ∈ l ∧ o.sell = sell ∧ o.buy = buy := by
  have := (bestR_perm l sell buy).subset h
  rw [List.mem_filter] at this
  simpa using this
/-- Whatever sorted list of these there is: it is the list of the best ones. -/
theorem bestR_one {l l' : List Off} {sell buy : Int} (hr : ∀ o ∈ l, rateOk o) (hs : ∀ x ∈ l, ∀ y ∈ l, x.seq = y.seq → x = y) (hp : l'.Perm (l.filter fun o => o.sell == sell && o.buy == buy)) (h : l'.Pairwise (fun a b => ltO b a = false)) : l' = bestR l sell buy := by
  have hm : ∀ x ∈ l', x ∈ l := fun x hx => (List.mem_filter.1 (hp.subset hx)).1
  exact sorted_one l' _ (hp.trans (bestR_perm l sell buy).symm) h (sortR_sorted (p := rateOk) ltO_asymm ltO_ntrans _ fun y hy => hr y (List.mem_filter.1 hy).1)
    fun x hx y hy h1 h2 => hs x (hm x hx) y (hm y hy) (ltO_total (hr x (hm x hx)) (hr y (hm y hy)) h1 h2)
end Go.Proofs.YtahdgojcebajkaaGreat
