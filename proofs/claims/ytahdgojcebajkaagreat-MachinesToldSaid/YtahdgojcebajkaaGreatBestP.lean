/- The best offers, plainly: sorted by rate, then by number. -/
import Derived.Test.YtahdgojcebajkaaGreatBk
import Derived.Test.YtahdgojcebajkaaGreatSortP
namespace Go.Proofs.YtahdgojcebajkaaGreat
def Ze3 (n d m e : Int) : Int := if Xd n d && Xd m e then Vm (n * e) (m * d) else 0
def Zpo (x y : Off) : Int := orI (Ze3 x.num x.den y.num y.den) (Vm x.seq y.seq)
def ltO (x y : Off) : Bool := decide (Zpo x y < 0)
def Ve (l : List Off) (sell buy : Int) : List Off := U1 ltO (l.filter fun o => o.sell == sell && o.buy == buy)
def Xy (o : Off) : Prop := Xd o.num o.den = true
theorem Zd1 {o : Off} (h : Xy o) : 0 < o.num /\ 0 < o.den := by
 unfold Xy Xd at h
 rw [decide_eq_true_eq] at h
 omega
theorem Zmm {x y : Off} (hx : Xy x) (hy : Xy y) : ltO x y = true ↔ x.num * y.den < y.num * x.den \/ (x.num * y.den = y.num * x.den /\ x.seq < y.seq) := by
 unfold ltO Zpo Ze3
 unfold Xy at hx hy
 rw [hx, hy, decide_eq_true_eq, Zg5]
 simp only [Bool.and_self, ↓reduceIte]
 rw [J9, Zdc, J9]
theorem U9 {x y : Off} (hx : Xy x) (hy : Xy y) : ltO x y = false ↔ y.num * x.den <= x.num * y.den /\ (x.num * y.den = y.num * x.den -> y.seq <= x.seq) := by
 rw [<- Bool.not_eq_true, Zmm hx hy]
 omega
theorem Zj0 (x y : Off) (hx : Xy x) (hy : Xy y) (h : ltO x y = true) : ltO y x = false := by
 rw [Zmm hx hy] at h
 rw [U9 hy hx]
 omega
theorem Zd4 (x y z : Off) (hx : Xy x) (hy : Xy y) (hz : Xy z) (h1 : ltO x y = false) (h2 : ltO y z = false) : ltO x z = false := by
 rw [U9 hx hy] at h1
 rw [U9 hy hz] at h2
 rw [U9 hx hz]
 obtain ⟨_, px⟩ := Zd1 hx
 obtain ⟨_, py⟩ := Zd1 hy
 obtain ⟨_, pz⟩ := Zd1 hz
 refine ⟨Zd0 px py pz h1.1 h2.1, fun e => ?_⟩
 have a := Zd0 (n1 := z.num) (n2 := x.num) (n3 := y.num) pz px py (by omega) h1.1
 have b := Zd0 (n1 := y.num) (n2 := z.num) (n3 := x.num) py pz px h2.1 (by omega)
 have c1 := h1.2 (by omega)
 have c2 := h2.2 (by omega)
 omega
theorem Zoq (x : Off) (hx : Xy x) : ltO x x = false := by
 rw [U9 hx hx]; omega
theorem ltO_trans (x y z : Off) (hx : Xy x) (hy : Xy y) (hz : Xy z) (h1 : ltO x y = true) (h2 : ltO y z = true) : ltO x z = true := by
 rw [<- Bool.not_eq_false]
 intro h
 have := Zd4 _ _ _ hy hx hz (Zj0 _ _ hx hy h1) h
 rw [h2] at this
 cases this
theorem ltO_total {x y : Off} (hx : Xy x) (hy : Xy y) (h1 : ltO x y = false) (h2 : ltO y x = false) : x.seq = y.seq := by
 rw [U9 hx hy] at h1
 rw [U9 hy hx] at h2
 omega
theorem Zed (l : List Off) (sell buy : Int) : (Ve l sell buy).Perm (l.filter fun o => o.sell == sell && o.buy == buy) := X4 _ _
theorem Zjy {l : List Off} {sell buy : Int} {o : Off} (h : o ∈ Ve l sell buy) : o ∈ l /\ o.sell = sell /\ o.buy = buy := by
 have := (Zed l sell buy).subset h
 rw [List.mem_filter] at this
 simpa using this
end Go.Proofs.YtahdgojcebajkaaGreat
