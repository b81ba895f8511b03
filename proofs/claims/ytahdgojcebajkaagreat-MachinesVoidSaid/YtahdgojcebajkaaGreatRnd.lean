/- A way round, plain: sixteen times through all edges; where something still changes the last time, the way back goes round along edges that there are. Debts that go round, plain: the least that may be owed. Net, plain: debts of a currency that go round are cancelled. A machine, plain: what a step does, what a command does; what it keeps. DERIVED: THE SHELF's CONTRACTS AT THIS DUMP, IN PLAIN WORDS (tools/lay-plain.mjs out of 'TryzSort.lean', which tools/lay-shelf.mjs wrote): THE SAME DECLARATIONS UNDER THE SAME NAMES: 'import', 'namespace', 'open', 'def', 'theorem' AND NOTHING ELSE: no command of the shelf's: FOR A HAND-IN. Each laying: the table of numbers ('.._ren') and one theorem, a field a fact of the dump's own or the kernel's comparison; each contract: ONE APPLICATION. Debts that go round, walked: their order; may they be? Debts that go round, walked: may they be? A way round, walked: edges that may be; none is struck; a copy. A way round, walked: the least one, where it is, lists joined. A way round, walked: once through all edges. A way round, walked: a list turned round; two lists joined. A way round, walked: two lists joined. A way round, walked: Round. -/
import Derived.Test.YtahdgojcebajkaaGreatShelf
import Derived.Test.YtahdgojcebajkaaGreatLines
import Derived.Test.YtahdgojcebajkaaGreatWf
import Derived.Test.YtahdgojcebajkaaGreatWhP
import Derived.Shelf.SlGeneric
import Derived.Shelf.SlSortCmp.WholeK
import Derived.Shelf.SlSortCmp.NoneTotal
import Derived.Ground.SlsfProg
import Derived.Test.YtahdgojcebajkaaGreatProg
import Derived.Test.YtahdgojcebajkaaGreatMade
import Derived.Test.YtahdgojcebajkaaGreatStands
import Derived.Test.YtahdgojcebajkaaGreatHop3
import Derived.Test.YtahdgojcebajkaaGreatAgain2
import Derived.Test.YtahdgojcebajkaaGreatAll
import Derived.Lib.AppendZerosOnto
import Derived.Test.YtahdgojcebajkaaGreatSwap5
import Derived.WalkMore

namespace Go.Proofs.YtahdgojcebajkaaGreat

abbrev Ed := Int × Int × Int
def gI (l : List Int) (i : Int) : Int := l.getD i.toNat 0
theorem gI_set (l : List Int) (i j x : Int) (hi : i.toNat < l.length) : gI (l.set i.toNat x) j = if j.toNat = i.toNat then x else gI l j := by
  unfold gI
  rw [List.getD_eq_getElem?_getD, List.getElem?_set, List.getD_eq_getElem?_getD]
  by_cases h : i.toNat = j.toNat
  · rw [if_pos h, if_pos h.symm, if_pos hi]; rfl
  · rw [if_neg h, if_neg (fun e => h e.symm)]

def relaxR (s : List Int × List Int × Int) (e : Ed) : List Int × List Int × Int :=
  if gI s.1 e.1 + e.2.2 < gI s.1 e.2.1 then (s.1.set e.2.1.toNat (gI s.1 e.1 + e.2.2), s.2.1.set e.2.1.toNat e.1, e.2.1) else s
def onceR (es : List Ed) (d a : List Int) : List Int × List Int × Int := es.foldl relaxR (d, a, 0)
def bfGo (es : List Ed) : Nat → List Int → List Int → Int → List Int × Int
  | 0, _, a, x => (a, x)
  | n + 1, d, a, _ => if (onceR es d a).2.2 = 0 then ((onceR es d a).2.1, 0) else bfGo es n (onceR es d a).1 (onceR es d a).2.1 (onceR es d a).2.2

/-- Edges that may be. -/
def EOk (es : List Ed) : Prop := ∀ e ∈ es, 1 ≤ e.1 ∧ e.1 ≤ 16 ∧ 1 ≤ e.2.1 ∧ e.2.1 ≤ 16 ∧ e.1 ≠ e.2.1 ∧ -1 ≤ e.2.2 ∧ e.2.2 ≤ 1

/-- What holds behind so many steps; tm: when one changed last. -/
structure BF (es : List Ed) (T : Nat) (d a : List Int) (tm : Int → Nat) : Prop where
  ld : d.length = 17
  la : a.length = 17
  up : ∀ v, tm v ≤ T
  ed : ∀ v, 0 < tm v → ∃ c, (gI a v, v, c) ∈ es
  ch : ∀ v, 0 < tm v → tm v ≤ es.length ∨ tm v < tm (gI a v) + es.length
  re : ∀ i (hi : i < es.length) p, 1 ≤ p → p ≤ T → (p - 1) % es.length = i → tm (es[i]'hi).1 ≤ p → gI d (es[i]'hi).2.1 ≤ gI d (es[i]'hi).1 + (es[i]'hi).2.2

theorem BF.step {es : List Ed} {T : Nat} {d a : List Int} {tm : Int → Nat} (h : BF es T d a tm) (hok : EOk es) (i : Nat) (hi : i < es.length) (hT : T % es.length = i) (x : Int) (T0 : Nat) (hT0 : T0 ≤ T) (hx : x = 0 ∨ (T0 < tm x ∧ 1 ≤ x ∧ x ≤ 16)) :
    ∃ tm', BF es (T + 1) (relaxR (d, a, x) (es[i]'hi)).1 (relaxR (d, a, x) (es[i]'hi)).2.1 tm' ∧ ((relaxR (d, a, x) (es[i]'hi)).2.2 = 0 ∨ (T0 < tm' (relaxR (d, a, x) (es[i]'hi)).2.2 ∧ 1 ≤ (relaxR (d, a, x) (es[i]'hi)).2.2 ∧ (relaxR (d, a, x) (es[i]'hi)).2.2 ≤ 16)) := by
  have hmem := List.getElem_mem hi
  obtain ⟨u1, u2, v1, v2, huv, _, _⟩ := hok _ hmem
  have hri := fun j (hj : j < es.length) (e : j = i) => (show es[j]'hj = es[i]'hi by subst e; rfl)
  generalize hE : (es[i]'hi) = e at *
  obtain ⟨u, v, c⟩ := e
  simp only at u1 u2 v1 v2 huv
  unfold relaxR
  try simp only
  by_cases hc : gI d u + c < gI d v
  · rw [if_pos hc]
    try simp only
    have hvl : v.toNat < d.length := by rw [h.ld]; omega
    have hvl2 : v.toNat < a.length := by rw [h.la]; omega
    have hD : ∀ w, gI (d.set v.toNat (gI d u + c)) w = if w = v then gI d u + c else gI d w := fun w => by
      rw [gI_set _ _ _ _ hvl]
      by_cases e : w = v
      · rw [if_pos e, if_pos (by rw [e])]
      · rw [if_neg e, if_neg (by omega)]
    have hA : ∀ w, gI (a.set v.toNat u) w = if w = v then u else gI a w := fun w => by
      rw [gI_set _ _ _ _ hvl2]
      by_cases e : w = v
      · rw [if_pos e, if_pos (by rw [e])]
      · rw [if_neg e, if_neg (by omega)]
    have hle : ∀ w, tm w ≤ (if w = v then T + 1 else tm w) := fun w => by
      have := h.up w
      split <;> omega
    refine ⟨fun w => if w = v then T + 1 else tm w, ⟨by rw [List.length_set]; exact h.ld, by rw [List.length_set]; exact h.la, fun w => ?_, fun w hw => ?_, fun w hw => ?_, fun j hj p p1 p2 p3 p4 => ?_⟩, .inr ⟨by simp only [if_true]; omega, v1, v2⟩⟩
    · have := h.up w
      try simp only
      split <;> omega
    · rw [hA]
      by_cases e : w = v
      · rw [if_pos e, e]
        exact ⟨c, hmem⟩
      · simp only [if_neg e] at hw
        rw [if_neg e]
        exact h.ed w hw
    · rw [hA]
      try simp only at hw ⊢
      by_cases e : w = v
      · rw [if_pos e, if_pos e, if_neg huv]
        by_cases hm : T + 1 ≤ es.length
        · exact .inl hm
        · right
          have hp := h.re i hi (T + 1 - es.length) (by omega) (by omega) (by
            rw [show T + 1 - es.length - 1 = T - es.length by omega, ← hT]
            exact (Nat.mod_eq_sub_mod (by omega)).symm)
          rw [hE] at hp
          try simp only at hp
          by_cases hq : tm u ≤ T + 1 - es.length
          · have := hp hq
            omega
          · omega
      · rw [if_neg e, if_neg e] 
        simp only [if_neg e] at hw
        rcases h.ch w hw with k | k
        · exact .inl k
        · have := hle (gI a w)
          right
          omega
    · try simp only at p4
      rw [hD, hD]
      by_cases e : (es[j]'hj).1 = v
      · rw [if_pos e] at p4
        have hpT : p = T + 1 := by omega
        have hji : j = i := by rw [← p3, hpT, ← hT]; rfl
        rw [hri j hj hji] at e
        exact absurd e huv
      · rw [if_neg e] at p4 ⊢
        by_cases hpT : p = T + 1
        · have hji : j = i := by rw [← p3, hpT, ← hT]; rfl
          rw [hri j hj hji]
          simp only [if_true]
          omega
        · have := h.re j hj p p1 (by omega) p3 p4
          split
          · rename_i e2
            rw [e2] at this
            omega
          · exact this
  · rw [if_neg hc]
    try simp only
    refine ⟨tm, ⟨h.ld, h.la, fun w => by have := h.up w; omega, h.ed, h.ch, fun j hj p p1 p2 p3 p4 => ?_⟩, hx⟩
    by_cases hpT : p = T + 1
    · have hji : j = i := by rw [← p3, hpT, ← hT]; rfl
      rw [hri j hj hji]
      try simp only
      omega
    · exact h.re j hj p p1 (by omega) p3 p4

def backR (a : List Int) : Nat → Int → Int
  | 0, x => x
  | n + 1, x => backR a n (gI a x)
/-- Back, till one came already. -/
def collGo (a : List Int) : Nat → List Int → Int → List Int
  | 0, l, _ => l
  | n + 1, l, x => if x ∈ l then l else collGo a n (l ++ [x]) (gI a x)

/-- From so many on, and then those ahead. -/
def rotR (l : List Int) (k : Nat) : List Int := l.drop k ++ l.take k
def minL : List Int → Int
  | [] => 0
  | x :: l => l.foldl min x
def idxL (l : List Int) (x : Int) : Nat := l.findIdx (fun y => y == x)
def zeros17 : List Int := List.replicate 17 0
/-- The way round: nothing, if there is none. -/
def roundR (es : List Ed) : List Int :=
  if (bfGo es 16 zeros17 zeros17 0).2 = 0 then []
  else rotR (collGo (bfGo es 16 zeros17 zeros17 0).1 17 [] (backR (bfGo es 16 zeros17 zeros17 0).1 16 (bfGo es 16 zeros17 zeros17 0).2)).reverse
    (idxL (collGo (bfGo es 16 zeros17 zeros17 0).1 17 [] (backR (bfGo es 16 zeros17 zeros17 0).1 16 (bfGo es 16 zeros17 zeros17 0).2)).reverse (minL (collGo (bfGo es 16 zeros17 zeros17 0).1 17 [] (backR (bfGo es 16 zeros17 zeros17 0).1 16 (bfGo es 16 zeros17 zeros17 0).2)).reverse))

end Go.Proofs.YtahdgojcebajkaaGreat

namespace Go.Proofs.YtahdgojcebajkaaGreat
open Go.RowKit Go.BigFrame

abbrev Fw := Int × Int × Int
/-- A debt: from whom, to whom, what is left, what was taken. -/
abbrev Db := Int × Int × Int × Int
def db0 : Db := (0, 0, 0, 0)
def edge1 (d : Db) : List Ed := (if 0 < d.2.2.1 then [(d.1, d.2.1, -1)] else []) ++ (if 0 < d.2.2.2 then [(d.2.1, d.1, 1)] else [])
def edgesD (l : List Db) : List Ed := l.flatMap edge1
/-- Of which debt a step is, and whether it is given back. -/
def stepD : List Db → Nat → Int → Int → Option (Nat × Bool) → Option (Nat × Bool)
  | [], _, _, _, r => r
  | d :: l, i, p, q, r => if d.1 = p ∧ d.2.1 = q ∧ 0 < d.2.2.1 then some (i, false) else if d.1 = q ∧ d.2.1 = p ∧ 0 < d.2.2.2 then stepD l (i + 1) p q (some (i, true)) else stepD l (i + 1) p q r
def mostD (l : List Db) (s : Nat × Bool) : Int := if s.2 then (l.getD s.1 db0).2.2.2 else (l.getD s.1 db0).2.2.1
def addD (d : Db) (m : Int) : Db := (d.1, d.2.1, wrap64 (d.2.2.1 - m), wrap64 (d.2.2.2 + m))
def goD (n : Int) (l : List Db) (s : Nat × Bool) : List Db := l.set s.1 (addD (l.getD s.1 db0) (if s.2 then wrap64 (-n) else n))
def stepsD (l : List Db) (way : List Int) : List (Nat × Bool) := (List.range way.length).map fun i => (stepD l 0 (way.getD i 0) (way.getD ((i + 1) % way.length) 0) none).getD (0, false)
def amountD (l : List Db) (ss : List (Nat × Bool)) : Int := ss.foldl (fun n s => min n (mostD l s)) 1099511627776
def roundD (l : List Db) (way : List Int) : List Db := (stepsD l way).foldl (goD (amountD l (stepsD l way))) l

def leastGo (quota : Int) : Nat → List Db → Int → Int × List Db × Int
  | 0, l, many => (13, l, many)
  | f + 1, l, many => if roundR (edgesD l) = [] then (0, l, many) else if many = quota then (13, l, many) else leastGo quota f (roundD l (roundR (edgesD l))) (many + 1)

def cmpFw (x y : Fw) : Int := orI (cmpI x.1 y.1) (cmpI x.2.1 y.2.1)
def fwOk (x : Fw) : Bool := decide (1 ≤ x.1 ∧ x.1 ≤ 16 ∧ 1 ≤ x.2.1 ∧ x.2.1 ≤ 16 ∧ x.1 ≠ x.2.1 ∧ 1 ≤ x.2.2 ∧ x.2.2 ≤ 1099511627776)
/-- May debts be? (Behind one that stands ahead, if one does.) -/
def mayGo : Option Fw → List Fw → Bool
  | _, [] => true
  | p, x :: l => fwOk x && (match p with | none => true | some y => decide (cmpFw y x < 0)) && mayGo (some x) l
def mayF (l : List Fw) : Bool := mayGo none l
def leastDb (l : List Fw) (quota : Int) : Int × List Fw × Int :=
  if mayF l = false ∨ quota < 0 then (1, [], 0)
  else if (leastGo quota (quota.toNat + 1) (l.map fun x => (x.1, x.2.1, x.2.2, 0)) 0).1 ≠ 0 then (13, [], 0)
  else (0, ((leastGo quota (quota.toNat + 1) (l.map fun x => (x.1, x.2.1, x.2.2, 0)) 0).2.1.filter fun d => decide (0 < d.2.2.1)).map (fun d => (d.1, d.2.1, d.2.2.1)), (leastGo quota (quota.toNat + 1) (l.map fun x => (x.1, x.2.1, x.2.2, 0)) 0).2.2)

/-! ### What a round keeps -/
end Go.Proofs.YtahdgojcebajkaaGreat

namespace Go.Proofs.YtahdgojcebajkaaGreat
open Go.RowKit Go.BigFrame

def debtF (c : Int) (x : Ln) : Option Fw := if x.1.2.2 = c ∧ 0 < x.2.2 then some (x.1.2.1, x.1.1, x.2.2) else none
def ltFw (x y : Fw) : Bool := decide (cmpFw x y < 0)
/-- Debts of a currency, in order. -/
def debtsR (L : Led) (c : Int) : List Fw := sortR ltFw ((linesR L.lines).filterMap (debtF c))
def leftOf (left : List Fw) (x : Fw) : Int := match left.find? (fun y => y.1 == x.1 && y.2.1 == x.2.1) with
  | some y => wrap64 (x.2.2 - y.2.2)
  | none => x.2.2
def netGo (left : List Fw) (c : Int) : List Fw → Led → Int → Led × Int
  | [], L, g => (L, g)
  | x :: l, L, g => if 0 < leftOf left x then netGo left c l (forgiveR L x.2.1 x.1 c (leftOf left x)).2 (wrap64 (g + leftOf left x)) else netGo left c l L g
/-- How much is gone, by how many rounds, what is wrong, what is left. -/
def netR (L : Led) (c quota : Int) : Int × Int × Int × Led :=
  if c < 1 ∨ 8 < c then (0, 0, 1, L)
  else if (leastDb (debtsR L c) quota).1 ≠ 0 then (0, 0, (leastDb (debtsR L c) quota).1, L)
  else ((netGo (leastDb (debtsR L c) quota).2.1 c (debtsR L c) L 0).2, (leastDb (debtsR L c) quota).2.2, 0, (netGo (leastDb (debtsR L c) quota).2.1 c (debtsR L c) L 0).1)

end Go.Proofs.YtahdgojcebajkaaGreat

namespace Go.Proofs.YtahdgojcebajkaaGreat
open Go.RowKit Go.Rg Go.BigFrame

/-- A step: kind, who, to whom, of which currency, for which, how much, at most, the rate, an offer's number. -/
structure Stp where
  kd : Int
  pa : Int
  pb : Int
  ca : Int
  cb : Int
  am : Int
  mx : Int
  nu : Int
  de : Int
  sq : Int
def Stp.cells (s : Stp) : List Value := [.int .u8 s.kd, .int .u8 s.pa, .int .u8 s.pb, .int .u8 s.ca, .int .u8 s.cb, .int .i64 s.am, .int .i64 s.mx, .int .i64 s.nu, .int .i64 s.de, .int .u64 s.sq]
def Stp.agg (s : Stp) : Value := .agg #[.int .u8 s.kd, .int .u8 s.pa, .int .u8 s.pb, .int .u8 s.ca, .int .u8 s.cb, .int .i64 s.am, .int .i64 s.mx, .int .i64 s.nu, .int .i64 s.de, .int .u64 s.sq]
/-- Numbers are such as a word holds. -/
structure Stp.In (s : Stp) : Prop where
  am : s.am ≤ 9223372036854775807
  mx : s.mx ≤ 9223372036854775807
  nu : s.nu ≤ 9223372036854775807
  de : s.de ≤ 9223372036854775807

def totL (l : Lines) (c : Int) : Int := sumI (l.map fun y => if y.1.2.2 = c then y.2.2 else 0)
def totalR (L : Led) (c : Int) : Int := totL (linesR L.lines) c
/-- What was got, in all fills. -/
def gotW (l : List Fl) : Int := l.foldl (fun n f => wrap64 (n + f.2.2.2.1)) 0
def lineXY (L : Led) (a b c : Int) : Int × Int := match lkO L.lines (a, b, c) with
  | some v => (v.2, v.1)
  | none => (0, 0)
abbrev Gt := Int × Int
def Stp.off (s : Stp) : Off := ⟨0, s.pa, s.ca, s.cb, s.am, s.nu, s.de⟩

/-- What a step answers, its error, the house behind it. -/
def stepM (s : Stp) (L : Led) (B : Bk) : Gt × Int × Led × Bk :=
  if s.kd = 1 then ((0, 0), (openR L s.pa).1, (openR L s.pa).2, B)
  else if s.kd = 2 then ((0, 0), (trustR L s.pa s.pb s.ca s.am).1, (trustR L s.pa s.pb s.ca s.am).2, B)
  else if s.kd = 3 then (((payR L s.pa s.pb s.ca s.am).1.1, 0), (payR L s.pa s.pb s.ca s.am).1.2, (payR L s.pa s.pb s.ca s.am).2, B)
  else if s.kd = 4 then ((givenS (swapR L B s.pa s.pb s.ca s.cb s.am s.mx).2.2.2, ((swapR L B s.pa s.pb s.ca s.cb s.am s.mx).2.2.2.length : Int)), (swapR L B s.pa s.pb s.ca s.cb s.am s.mx).1, (swapR L B s.pa s.pb s.ca s.cb s.am s.mx).2.1, (swapR L B s.pa s.pb s.ca s.cb s.am s.mx).2.2.1)
  else if s.kd = 5 then ((gotW (comeR L B s.off).2.2.2.2, wrap64 (comeR L B s.off).2.1), (comeR L B s.off).1, (comeR L B s.off).2.2.1, (comeR L B s.off).2.2.2.1)
  else if s.kd = 6 then (((cancelR B s.pa s.sq).1, 0), (cancelR B s.pa s.sq).2.1, L, (cancelR B s.pa s.sq).2.2)
  else if s.kd = 7 then (((netR L s.ca s.mx).1, (netR L s.ca s.mx).2.1), (netR L s.ca s.mx).2.2.1, (netR L s.ca s.mx).2.2.2, B)
  else if s.kd = 8 then (lineXY L s.pa s.pb s.ca, 0, L, B)
  else if s.kd = 9 then ((posR L s.pa s.ca, 0), 0, L, B)
  else if s.kd = 10 then ((totalR L s.ca, 0), 0, L, B)
  else if s.kd = 11 then (match findR B.offs s.sq with
    | some o => ((o.left, 0), 0, L, B)
    | none => ((0, 0), 7, L, B))
  else ((0, 0), 1, L, B)

/-- Steps, one behind the other. -/
def runM : List Stp → Int → Led → Bk → List Gt → Int × Int × List Gt × Led × Bk
  | [], _, L, B, g => (0, 0, g, L, B)
  | s :: l, i, L, B, g => if (stepM s L B).2.1 ≠ 0 then ((stepM s L B).2.1, i, [], L, B) else runM l (i + 1) (stepM s L B).2.2.1 (stepM s L B).2.2.2 (g ++ [(stepM s L B).1])
/-- A command: its error, where, its answers; the house behind it. -/
def applyM (l : List Stp) (L : Led) (B : Bk) : (Int × Int × List Gt) × Led × Bk :=
  if l.length = 0 ∨ 8 < l.length then ((3, 0, []), L, B)
  else if (runM l 0 L B []).1 ≠ 0 then (((runM l 0 L B []).1, (runM l 0 L B []).2.1, []), L, B)
  else ((0, 0, (runM l 0 L B []).2.2.1), (runM l 0 L B []).2.2.2)

/-- What a machine keeps true. -/
structure MOk (L : Led) (B : Bk) : Prop where
  wf : WF L
  ok : OkB B
  sq : SeqLt B

end Go.Proofs.YtahdgojcebajkaaGreat

namespace Go.Proofs
open Go.Shelf
end Go.Proofs

namespace Go.Proofs.YtahdgojcebajkaaGreat.D
open Go.RowKit Go.RgD Go.BigFrame

def fwC (x : Fw) : List Value := [.int .u8 x.1, .int .u8 x.2.1, .int .i64 x.2.2]
end Go.Proofs.YtahdgojcebajkaaGreat.D
namespace Go.Proofs.YtahdgojcebajkaaGreat
open Go.RowKit Go.Rg Go.BigFrame
abbrev fwC := D.fwC
end Go.Proofs.YtahdgojcebajkaaGreat

namespace Go.Proofs.YtahdgojcebajkaaGreat
open Go.RowKit Go.Rg Go.BigFrame

def fwCells (l : List Fw) : List Value := l.flatMap fwC
theorem fwCells_len (l : List Fw) : (fwCells l).length = l.length * 3 := flat_len fwC 3 (fun _ => rfl) l
end Go.Proofs.YtahdgojcebajkaaGreat

namespace Go.Proofs.YtahdgojcebajkaaGreat
open Go.RowKit Go.Rg Go.BigFrame

end Go.Proofs.YtahdgojcebajkaaGreat

namespace Go.Proofs.YtahdgojcebajkaaGreat
open Go.RowKit Go.Rg Go.BigFrame

end Go.Proofs.YtahdgojcebajkaaGreat

namespace Go.RgK
open Go.RowKit Go.Rg
section
variable {S : List Nat} {P : Program} {ops : Array Oper} {md : Region.Mode}
end
end Go.RgK

namespace Go.Proofs.YtahdgojcebajkaaGreat
open Go.RowKit Go.Rg Go.BigFrame

def srCells (d a : List Int) : Array Value := (d.map (Value.int .i64) ++ a.map (Value.int .u8)).toArray
/-- A search's distances, and who is ahead of whom. -/
structure IsSr (w : World) (b : Nat) (d a : List Int) : Prop where
  row : w.heap[b]? = some (.cells (srCells d a) 311 (0, 0))
  ld : d.length = 17
  la : a.length = 17
theorem IsSr.keep {S : List Nat} {w w' : World} {b : Nat} {d a : List Int} (h : IsSr w b d a) (k : Keep S w w') (hS : b ∉ S) : IsSr w' b d a := ⟨k.at h.row hS, h.ld, h.la⟩
theorem IsSr.ext {w w' : World} {b : Nat} {d a : List Int} (h : IsSr w b d a) (k : Ext w w') : IsSr w' b d a := ⟨k.at h.row, h.ld, h.la⟩
theorem IsSr.ahead {w : World} {b : Nat} {d a : List Int} (h : IsSr w b d a) (i : Int) (h0 : 0 ≤ i) (h1 : i ≤ 16) : w.cell? ⟨b, 17 + i.toNat, none⟩ = some (.int .u8 (gI a i)) := by
  refine cell_at h.row ?_
  have hl := h.ld
  have hl2 := h.la
  unfold srCells gI
  rw [List.getElem?_toArray, List.getElem?_append_right (by simp; omega), List.length_map, hl, show 17 + i.toNat - 17 = i.toNat by omega, List.getElem?_map, List.getD_eq_getElem?_getD, List.getElem?_eq_getElem (by omega)]
  rfl
theorem IsSr.free {w : World} {b : Nat} {d a : List Int} (h : IsSr w b d a) (j : Nat) : w.frozen? ⟨b, j, none⟩ = false := frozen_of_row w b j _ _ h.row
end Go.Proofs.YtahdgojcebajkaaGreat

namespace Go.RgK
open Go.RowKit Go.Rg
section
variable {S : List Nat} {P : Program} {ops : Array Oper} {md : Region.Mode}
end
end Go.RgK

namespace Go.Proofs.YtahdgojcebajkaaGreat
open Go.RowKit Go.Rg Go.BigFrame

end Go.Proofs.YtahdgojcebajkaaGreat

namespace Go.Proofs.YtahdgojcebajkaaGreat
open Go.RowKit Go.Rg Go.BigFrame

/-- A slice that lies somewhere. -/
def PartAt (w : World) (v : Value) (l : List Value) : Prop := ∃ ad c, v = .slice (some ad) l.length c ∧ ad.block < w.heap.size ∧ ∀ j u, l[j]? = some u → w.cell? (ad.add j) = some u
theorem PartAt.ext {w w' : World} {v : Value} {l : List Value} (h : PartAt w v l) (k : Ext w w') : PartAt w' v l := by
  obtain ⟨ad, c, h1, h2, h3⟩ := h
  refine ⟨ad, c, h1, by have := k.size; omega, fun j u hu => ?_⟩
  have hb : (ad.add j).block = ad.block := by unfold Addr.add; split <;> rfl
  have hk : w'.heap[(ad.add j).block]? = w.heap[(ad.add j).block]? := by rw [hb]; exact k.block h2
  exact (cell_block hk).trans (h3 j u hu)

end Go.Proofs.YtahdgojcebajkaaGreat

namespace Go.Proofs.YtahdgojcebajkaaGreat
open Go.RowKit Go.Rg Go.BigFrame

end Go.Proofs.YtahdgojcebajkaaGreat
