/- Flows: ways, an iterator over the shortest ways of a graph that its rounds turn. Routes in plain Lean: what a part of a round has pushed; what a round comes to. -/
import Derived.Test.YtahdgojcebajkaaGreatHop3
import Derived.Test.YtahdgojcebajkaaGreatGen
import Derived.Shelf.Abstract
import Derived.Shelf.RegionOpen

/-! Flows: ways, an iterator over the shortest ways of a graph that its rounds turn. -/
namespace Go.Proofs.YtahdgojcebajkaaGreat
open Go.RowKit Go.Rg Go.BigFrame
attribute [local go_sem] Oper.semAt_some

/-- Three boxes: the graph, from, to. -/
structure Boxes (w : World) (B p : Nat) (a t : Int) : Prop where
  b0 : w.heap[B]? = some (.cells #[.pointer (some ⟨p, 0, none⟩)] 226 (0, 0))
  b1 : w.heap[B + 1]? = some (.cells #[.int .u8 a] 27 (0, 0))
  b2 : w.heap[B + 2]? = some (.cells #[.int .u8 t] 27 (0, 0))
theorem Boxes.keep {S : List Nat} {w w' : World} {B p : Nat} {a t : Int} (h : Boxes w B p a t) (k : Keep S w w') (h0 : B ∉ S) (h1 : B + 1 ∉ S) (h2 : B + 2 ∉ S) : Boxes w' B p a t := ⟨k.at h.b0 h0, k.at h.b1 h1, k.at h.b2 h2⟩
theorem Boxes.ext {w w' : World} {B p : Nat} {a t : Int} (h : Boxes w B p a t) (k : Ext w w') : Boxes w' B p a t := ⟨k.at h.b0, k.at h.b1, k.at h.b2⟩

def capsOf (w : World) (p : Nat) : List Int := match w.heap[p]? with
  | some (.cells a _ _) => (a.toList.take 289).map intOf
  | _ => []
theorem IsG.caps {w : World} {p : Nat} {c : List Int} (h : IsG w p c) : capsOf w p = c := by
  unfold capsOf
  rw [h.row]
  unfold gCells
  have hl := h.len
  simp only [List.take_append_of_le_length (show 289 ≤ (c.map (Value.int IntKind.i64)).length by simp [hl]), List.take_of_length_le (show (c.map (Value.int IntKind.i64)).length ≤ 289 by simp [hl]), List.map_map]
  have : (intOf ∘ Value.int IntKind.i64) = id := by funext x; rfl
  rw [this, List.map_id]

def wBoxes (B : Nat) : Array Value := #[.pointer (some ⟨B, 0, none⟩), .pointer (some ⟨B + 1, 0, none⟩), .pointer (some ⟨B + 2, 0, none⟩)]

set_option maxRecDepth 100000 in
set_option maxHeartbeats 800000 in
theorem ways_any (p : Nat) (a t : Int) (w : World) : Calls Tryz.prog 183 #[.pointer (some ⟨p, 0, none⟩), .int .u8 a, .int .u8 t] w
    (fun e w' => e = .returned (.func (.func 198) #[] (wBoxes w.heap.size)) ∧ Ext w w' ∧ Boxes w' w.heap.size p a t ∧ w'.heap.size = w.heap.size + 3) := by
  go_enter Tryz.func183, Tryz.ntmps183
  go_wp2
  go_ret
  have e0 := ext_alloc w (.cells #[.pointer (some ⟨p, 0, none⟩)] 226)
  have s0 := size_alloc w (.cells #[.pointer (some ⟨p, 0, none⟩)] 226)
  have h0 := heap_alloc_top w (.cells #[.pointer (some ⟨p, 0, none⟩)] 226)
  generalize w.alloc (.cells #[.pointer (some ⟨p, 0, none⟩)] 226) = w1 at *
  have e1 := ext_alloc w1 (.cells #[.int .u8 a] 27)
  have s1 := size_alloc w1 (.cells #[.int .u8 a] 27)
  have h1 := heap_alloc_top w1 (.cells #[.int .u8 a] 27)
  generalize w1.alloc (.cells #[.int .u8 a] 27) = w2 at *
  have e2 := ext_alloc w2 (.cells #[.int .u8 t] 27)
  have s2 := size_alloc w2 (.cells #[.int .u8 t] 27)
  have h2 := heap_alloc_top w2 (.cells #[.int .u8 t] 27)
  rw [s1, s0] at h2
  rw [s0] at h1
  exact ⟨rfl, Ext.trans e0 (Ext.trans e1 e2), ⟨e2.at (e1.at h0), e2.at h1, h2⟩, by omega⟩

set_option maxRecDepth 100000 in
set_option maxHeartbeats 1600000 in
theorem ways_iter {σ : Type} (cf : σ → List Int) (p B : Nat) (a t : Int) :
    IterSt Tryz.prog 198 (wBoxes B) (fun (s : σ) W => IsG W p (cf s) ∧ Boxes W B p a t)
      (fun s A B x => shortF (cf s) a t ≠ [] ∧ SlAt B A.heap.size 1 x (shortF (cf s) a t).length ((shortF (cf s) a t).map (.int .u8)))
      (fun s s' => wayM (cf s') t.toNat < wayM (cf s) t.toNat) (fun s => shortF (cf s) a t = []) := by
  intro l J Jx s0 W hE hBs hR h0
  refine (callsIn_wide (n := 0)).1 ?_
  show CallsIn Fence.wide 0 Tryz.prog 198 #[.func (.yield l) #[] #[], .pointer (some ⟨B, 0, none⟩), .pointer (some ⟨B + 1, 0, none⟩), .pointer (some ⟨B + 2, 0, none⟩)] W _
  refine callsIn_of_wp Tryz.func198 rfl trivial ?_ rfl
  simp only [Tryz.ntmps198, List.size_toArray, List.length_cons, List.length_nil, Nat.reduceAdd, Nat.reduceSub, Array.replicate_succ, Array.replicate_zero, List.push_toArray, List.append_toArray, List.nil_append, List.cons_append]
  gi_wp2
  gi_loopw [5] (fun _ wr => ∃ s, J s wr) (fun _ wr => wayM (capsOf wr p) t.toNat)
  case atStart => exact ⟨s0, h0⟩
  case round =>
    obtain ⟨s, hJ⟩ := hrel
    obtain ⟨hG, hBx⟩ := hBs s wr hJ
    have c0 := cell_at (j := 0) hBx.b0 rfl
    have c1 := cell_at (j := 0) hBx.b1 rfl
    have c2 := cell_at (j := 0) hBx.b2 rfl
    have hsh := short_any p (cf s) a t
    gi_wp2
    refine ⟨trivial, rfl, CallsIn.mono (callsIn_wide.2 (hsh wr hG)) ?_⟩
    rintro e w2 ⟨v, rfl, e2, hsl⟩
    by_cases hne : shortF (cf s) a t = []
    · obtain ⟨A, cap, rfl, hrest⟩ := hsl
      rw [hne]
      have hl0 : ((([] : List Int).length : Nat) : Int) = 0 := rfl
      gi_wp2
      refine ⟨fun _ _ => trivial, ?_⟩
      gi_wp2
      refine bodyPost_ret (results_none rfl _ _ _) rfl ?_
      exact ⟨⟨_, rfl⟩, .inl ⟨s, hE s _ _ hJ e2, hne⟩⟩
    · have hr := hR s wr w2 v hJ e2 ⟨hne, hsl⟩
      obtain ⟨A, cap, rfl, hrest⟩ := hsl
      obtain ⟨fn, tmps, assign, body, hy, hRd⟩ := hr
      obtain ⟨n, hn⟩ : ∃ n, n = (shortF (cf s) a t).length := ⟨_, rfl⟩
      rw [← hn] at hy ⊢
      have hn1 : ((n : Int) == 0) = false := by
        rw [beq_eq_false_iff_ne]
        intro h0
        exact hne (List.eq_nil_of_length_eq_zero (by omega))
      clear hn hrest
      gi_wp2
      refine ⟨rfl, RoundIn.mono hRd ?_⟩
      rintro e W3 (⟨rfl, s', hJ', hrel⟩ | ⟨rfl, hJx⟩)
      · have hc3 := (hBs s' W3 hJ').1.caps
        have hc0 := hG.caps
        gi_wp2
        go_roundw
        case rel => exact ⟨s', hJ'⟩
        case measure => rw [hc3, hc0]; exact hrel
      · gi_wp2
        refine bodyPost_ret (results_none rfl _ _ _) rfl ?_
        exact ⟨⟨_, rfl⟩, .inr hJx⟩
end Go.Proofs.YtahdgojcebajkaaGreat

/-! Routes in plain Lean: what a part of a round has pushed; what a round comes to. -/
namespace Go.Proofs.YtahdgojcebajkaaGreat

theorem pushW_take (n : Int) : ∀ (l : List Int) (c : List Int) (k : Nat) (hk : k + 1 < l.length), pushW (l.take (k + 2)) c n = (gpushR (pushW (l.take (k + 1)) c n) (l[k]'(by omega)) (l[k + 1]'hk) n).2
  | [], _, _, hk => by simp at hk
  | [_], _, _, hk => by simp at hk
  | a :: b :: r, c, 0, _ => by simp [pushW]
  | a :: b :: r, c, k + 1, hk => by
    have ih := pushW_take n (b :: r) (gpushR c a b n).2 k (by simpa using hk)
    have e1 : pushW ((a :: b :: r).take (k + 1 + 2)) c n = pushW ((b :: r).take (k + 2)) (gpushR c a b n).2 n := by simp [pushW]
    have e2 : pushW ((a :: b :: r).take (k + 1 + 1)) c n = pushW ((b :: r).take (k + 1)) (gpushR c a b n).2 n := by simp [pushW]
    rw [e1, e2, ih]
    simp

theorem flowsOf_take (n : Int) : ∀ (l : List Int) (k : Nat) (hk : k + 1 < l.length), flowsOf (l.take (k + 2)) n = flowsOf (l.take (k + 1)) n ++ [(l[k]'(by omega), l[k + 1]'hk, n)]
  | [], _, hk => by simp at hk
  | [_], _, hk => by simp at hk
  | a :: b :: r, 0, _ => by simp [flowsOf]
  | a :: b :: r, k + 1, hk => by
    have ih := flowsOf_take n (b :: r) k (by simpa using hk)
    have e1 : flowsOf ((a :: b :: r).take (k + 1 + 2)) n = (a, b, n) :: flowsOf ((b :: r).take (k + 2)) n := by simp [flowsOf]
    have e2 : flowsOf ((a :: b :: r).take (k + 1 + 1)) n = (a, b, n) :: flowsOf ((b :: r).take (k + 1)) n := by simp [flowsOf]
    rw [e1, e2, ih]
    simp

theorem AdmW.ne {c d : List Int} : ∀ (l : List Int) (k : Nat) (hk : k + 1 < l.length), AdmW c d l → l[k]'(by omega) ≠ l[k + 1]'hk
  | [], _, hk, _ => by simp at hk
  | [_], _, hk, _ => by simp at hk
  | a :: b :: r, 0, _, h => by
    unfold AdmW at h
    obtain ⟨⟨x, y, rfl, rfl, _, _, _, hd⟩, _⟩ := h
    simp only [List.getElem_cons_zero, List.getElem_cons_succ, ne_eq]
    intro e
    have : x = y := by omega
    subst this
    omega
  | a :: b :: r, k + 1, hk, h => by
    unfold AdmW at h
    have := AdmW.ne (b :: r) k (by simpa using hk) h.2
    simpa using this

def flowCells (l : Flows) : List Value := l.flatMap fun x => [.int .u8 x.1, .int .u8 x.2.1, .int .i64 x.2.2]
theorem flowCells_snoc (l : Flows) (x : Int × Int × Int) : flowCells (l ++ [x]) = flowCells l ++ [.int .u8 x.1, .int .u8 x.2.1, .int .i64 x.2.2] := by simp [flowCells]

/-- What stands between two rounds: the capacities, what has been got, the pushes. -/
structure RS where
  c : List Int
  got : Int
  acc : Flows

/-- The state is one of the route's. -/
structure RtOk (c : List Int) (a t want : Int) (s : RS) : Prop where
  wf : WFG s.c
  lo : 0 ≤ s.got
  hi : s.got < want
  few : s.acc.length + 16 * wayM s.c t.toNat ≤ 1391824
  eq : ∃ f, wayM s.c t.toNat < f ∧ routeR c a t want = routeGo a t want f s.c s.got s.acc

theorem RtOk.start {c : List Int} {a t want : Int} (hw : WFG c) (h : 0 < want) : RtOk c a t want ⟨c, 0, []⟩ := by
  have := wayM_le c t.toNat
  refine ⟨hw, Int.le_refl _, h, by simp only [List.length_nil]; omega, 90000, by simp only; omega, ?_⟩
  unfold routeR
  rw [if_neg (by omega)]

theorem RtOk.ended {c : List Int} {a t want : Int} {s : RS} (h : RtOk c a t want s) (he : shortF s.c a t = []) : routeR c a t want = (s.acc, s.got) := by
  obtain ⟨f, hf, e⟩ := h.eq
  obtain ⟨f, rfl⟩ : ∃ f', f = f' + 1 := ⟨f - 1, by omega⟩
  rw [e]
  unfold routeGo
  rw [if_pos he]

/-- A round that comes to what is wanted. -/
theorem RtOk.met {c : List Int} {a t want : Int} {s : RS} (h : RtOk c a t want s) (hn : shortF s.c a t ≠ []) (he : s.got + leastG s.c (shortF s.c a t) (want - s.got) = want) :
    routeR c a t want = (s.acc ++ flowsOf (shortF s.c a t) (leastG s.c (shortF s.c a t) (want - s.got)), want) := by
  obtain ⟨f, hf, e⟩ := h.eq
  obtain ⟨f, rfl⟩ : ∃ f', f = f' + 1 := ⟨f - 1, by omega⟩
  rw [e]
  unfold routeGo
  rw [if_neg hn, if_pos he]

/-- A round that does not. -/
theorem RtOk.on {c : List Int} {a t want : Int} {s : RS} (h : RtOk c a t want s) (hn : shortF s.c a t ≠ []) (he : s.got + leastG s.c (shortF s.c a t) (want - s.got) ≠ want) :
    RtOk c a t want ⟨pushW (shortF s.c a t) s.c (leastG s.c (shortF s.c a t) (want - s.got)), s.got + leastG s.c (shortF s.c a t) (want - s.got), s.acc ++ flowsOf (shortF s.c a t) (leastG s.c (shortF s.c a t) (want - s.got))⟩ ∧
      wayM (pushW (shortF s.c a t) s.c (leastG s.c (shortF s.c a t) (want - s.got))) t.toNat < wayM s.c t.toNat := by
  have hhi := h.hi
  obtain ⟨p1, p2, p3, p4⟩ := round_spec h.wf hn (want - s.got) (by omega)
  have hm := p4 (by omega)
  obtain ⟨f, hf, e⟩ := h.eq
  obtain ⟨f, rfl⟩ : ∃ f', f = f' + 1 := ⟨f - 1, by omega⟩
  have hlo := h.lo
  have hfew := h.few
  obtain ⟨_, _, _, _, _, _, _, _, _, hl2, hl17⟩ := short_adm hn
  refine ⟨⟨p3, by simp only; omega, by simp only; omega, ?_, f, by simp only; omega, ?_⟩, hm⟩
  · simp only [List.length_append, flowsOf_len]; omega
  · rw [e]
    conv => lhs; unfold routeGo
    rw [if_neg hn, if_neg he]
end Go.Proofs.YtahdgojcebajkaaGreat
