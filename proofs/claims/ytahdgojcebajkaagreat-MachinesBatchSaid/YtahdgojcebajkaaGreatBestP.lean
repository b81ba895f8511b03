/- The best offers, plainly: sorted by rate, then by number. -/
import Derived.Test.YtahdgojcebajkaaGreatBk
import Derived.Test.YtahdgojcebajkaaGreatSortP
namespace Go.Proofs.YtahdgojcebajkaaGreat
def cmpR (n d m e : Int) : Int := if mayR n d && mayR m e then cmpI (n * e) (m * d) else 0
def cmpO (x y : Off) : Int := orI (cmpR x.num x.den y.num y.den) (cmpI x.seq y.seq)
def ltO (x y : Off) : Bool := decide (cmpO x y < 0)
def X5 (l : List Off) (sell buy : Int) : List Off := Uf ltO (l.filter fun o => o.sell == sell && o.buy == buy)
def Xo (o : Off) : Prop := mayR o.num o.den = true
theorem Zc4 {o : Off} (h : Xo o) : 0 < o.num /\ 0 < o.den := by
 unfold Xo mayR at h
 rw [decide_eq_true_eq] at h
 omega
theorem Zkk {x y : Off} (hx : Xo x) (hy : Xo y) : ltO x y = true ↔ x.num * y.den < y.num * x.den \/ (x.num * y.den = y.num * x.den /\ x.seq < y.seq) := by
 unfold ltO cmpO cmpR
 unfold Xo at hx hy
 rw [hx, hy, decide_eq_true_eq, Zfp]
 simp only [Bool.and_self, ↓reduceIte]
 rw [Jf, Zcf, Jf]
theorem Ul {x y : Off} (hx : Xo x) (hy : Xo y) : ltO x y = false ↔ y.num * x.den <= x.num * y.den /\ (x.num * y.den = y.num * x.den -> y.seq <= x.seq) := by
 rw [<- Bool.not_eq_true, Zkk hx hy]
 omega
theorem Zh9 (x y : Off) (hx : Xo x) (hy : Xo y) (h : ltO x y = true) : ltO y x = false := by
 rw [Zkk hx hy] at h
 rw [Ul hy hx]
 omega
theorem Zc7 (x y z : Off) (hx : Xo x) (hy : Xo y) (hz : Xo z) (h1 : ltO x y = false) (h2 : ltO y z = false) : ltO x z = false := by
 rw [Ul hx hy] at h1
 rw [Ul hy hz] at h2
 rw [Ul hx hz]
 obtain ⟨_, px⟩ := Zc4 hx
 obtain ⟨_, py⟩ := Zc4 hy
 obtain ⟨_, pz⟩ := Zc4 hz
 refine ⟨Zc3 px py pz h1.1 h2.1, fun e => ?_⟩
 have a := Zc3 (n1 := z.num) (n2 := x.num) (n3 := y.num) pz px py (by omega) h1.1
 have b := Zc3 (n1 := y.num) (n2 := z.num) (n3 := x.num) py pz px h2.1 (by omega)
 have c1 := h1.2 (by omega)
 have c2 := h2.2 (by omega)
 omega
theorem Zmn (x : Off) (hx : Xo x) : ltO x x = false := by
 rw [Ul hx hx]; omega
theorem ltO_trans (x y z : Off) (hx : Xo x) (hy : Xo y) (hz : Xo z) (h1 : ltO x y = true) (h2 : ltO y z = true) : ltO x z = true := by
 rw [<- Bool.not_eq_false]
 intro h
 have := Zc7 _ _ _ hy hx hz (Zh9 _ _ hx hy h1) h
 rw [h2] at this
 cases this
theorem ltO_total {x y : Off} (hx : Xo x) (hy : Xo y) (h1 : ltO x y = false) (h2 : ltO y x = false) : x.seq = y.seq := by
 rw [Ul hx hy] at h1
 rw [Ul hy hx] at h2
 omega
theorem Zdd (l : List Off) (sell buy : Int) : (X5 l sell buy).Perm (l.filter fun o => o.sell == sell && o.buy == buy) := Xs _ _
theorem Zh7 {l : List Off} {sell buy : Int} {o : Off} (h : o ∈ X5 l sell buy) : o ∈ l /\ o.sell = sell /\ o.buy = buy := by
 have := (Zdd l sell buy).subset h
 rw [List.mem_filter] at this
 simpa using this
end Go.Proofs.YtahdgojcebajkaaGreat
