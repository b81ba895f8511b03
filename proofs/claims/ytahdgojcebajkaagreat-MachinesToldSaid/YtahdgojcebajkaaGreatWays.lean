/- Flows: ways, an iterator over the shortest ways of a graph that its rounds turn. Routes in plain Lean: what a part of a round has pushed; what a round comes to. -/
import Derived.Test.YtahdgojcebajkaaGreatHop3
import Derived.Test.YtahdgojcebajkaaGreatGen
import Derived.Shelf.Abstract
import Derived.Shelf.RegionOpen
set_option maxHeartbeats 1600000
set_option maxRecDepth 100000
namespace Go.Proofs.YtahdgojcebajkaaGreat
open Go.RowKit Go.Rg Go.BigFrame
attribute [local go_sem] Oper.semAt_some
structure Boxes (w : World) (B p : Nat) (a t : Int) : Prop where
 b0 : w.heap[B]? = some (.cells #[.pointer (some ⟨p, 0, none⟩)] 226 (0, 0))
 b1 : w.heap[B + 1]? = some (.cells #[.int .u8 a] 27 (0, 0))
 b2 : w.heap[B + 2]? = some (.cells #[.int .u8 t] 27 (0, 0))
theorem Boxes.keep {S : List Nat} {w w' : World} {B p : Nat} {a t : Int} (h : Boxes w B p a t) (k : Keep S w w') (h0 : B ∉ S) (h1 : B + 1 ∉ S) (h2 : B + 2 ∉ S) : Boxes w' B p a t := ⟨k.at h.b0 h0, k.at h.b1 h1, k.at h.b2 h2⟩
theorem Boxes.ext {w w' : World} {B p : Nat} {a t : Int} (h : Boxes w B p a t) (k : Ext w w') : Boxes w' B p a t := ⟨k.at h.b0, k.at h.b1, k.at h.b2⟩
def Zpq (w : World) (p : Nat) : List Int := match w.heap[p]? with
 | some (.cells a _ _) => (a.toList.take 289).map intOf
 | _ => []
theorem IsG.caps {w : World} {p : Nat} {c : List Int} (h : IsG w p c) : Zpq w p = c := by
 unfold Zpq
 rw [h.row]
 unfold Ug
 have hl := h.len
 simp only [List.take_append_of_le_length (show 289 <= (c.map (Value.int IntKind.i64)).length by simp [hl]), List.take_of_length_le (show (c.map (Value.int IntKind.i64)).length <= 289 by simp [hl]), List.map_map]
 have : (intOf ∘ Value.int IntKind.i64) = id := by funext x; rfl
 rw [this, List.map_id]
def wBoxes (B : Nat) : Array Value := #[.pointer (some ⟨B, 0, none⟩), .pointer (some ⟨B + 1, 0, none⟩), .pointer (some ⟨B + 2, 0, none⟩)]
theorem ways_any (p : Nat) (a t : Int) (w : World) : Calls Tryz.prog 183 #[.pointer (some ⟨p, 0, none⟩), .int .u8 a, .int .u8 t] w
 (fun e w' => e = .returned (.func (.func 198) #[] (wBoxes w.heap.size)) /\ Ext w w' /\ Boxes w' w.heap.size p a t /\ w'.heap.size = w.heap.size + 3) := by
 go_enter Tryz.func183, Tryz.ntmps183
 go_wp2
 go_ret
 have e0 := Zc w (.cells #[.pointer (some ⟨p, 0, none⟩)] 226)
 have s0 := size_alloc w (.cells #[.pointer (some ⟨p, 0, none⟩)] 226)
 have h0 := Zb w (.cells #[.pointer (some ⟨p, 0, none⟩)] 226)
 generalize w.alloc (.cells #[.pointer (some ⟨p, 0, none⟩)] 226) = w1 at *
 have e1 := Zc w1 (.cells #[.int .u8 a] 27)
 have s1 := size_alloc w1 (.cells #[.int .u8 a] 27)
 have h1 := Zb w1 (.cells #[.int .u8 a] 27)
 generalize w1.alloc (.cells #[.int .u8 a] 27) = w2 at *
 have e2 := Zc w2 (.cells #[.int .u8 t] 27)
 have s2 := size_alloc w2 (.cells #[.int .u8 t] 27)
 have h2 := Zb w2 (.cells #[.int .u8 t] 27)
 rw [s1, s0] at h2
 rw [s0] at h1
 exact ⟨rfl, Xt e0 (Xt e1 e2), ⟨e2.at (e1.at h0), e2.at h1, h2⟩, by omega⟩
theorem ways_iter {σ : Type} (cf : σ -> List Int) (p B : Nat) (a t : Int) :
 IterSt Tryz.prog 198 (wBoxes B) (fun (s : σ) W => IsG W p (cf s) /\ Boxes W B p a t)
  (fun s A B x => Zo (cf s) a t ≠ [] /\ Zr B A.heap.size 1 x (Zo (cf s) a t).length ((Zo (cf s) a t).map (.int .u8)))
  (fun s s' => Zdx (cf s') t.toNat < Zdx (cf s) t.toNat) (fun s => Zo (cf s) a t = []) := by
 intro l J Jx s0 W hE hBs hR h0
 refine (callsIn_wide (n := 0)).1 ?_
 show CallsIn Fence.wide 0 Tryz.prog 198 #[.func (.yield l) #[] #[], .pointer (some ⟨B, 0, none⟩), .pointer (some ⟨B + 1, 0, none⟩), .pointer (some ⟨B + 2, 0, none⟩)] W _
 refine callsIn_of_wp Tryz.func198 rfl trivial ?_ rfl
 simp only [Tryz.ntmps198, List.size_toArray, List.length_cons, List.length_nil, Nat.reduceAdd, Nat.reduceSub, Array.replicate_succ, Array.replicate_zero, List.push_toArray, List.append_toArray, List.nil_append, List.cons_append]
 gi_wp2
 gi_loopw [5] (fun _ wr => ∃ s, J s wr) (fun _ wr => Zdx (Zpq wr p) t.toNat)
 case atStart => exact ⟨s0, h0⟩
 obtain ⟨s, hJ⟩ := hrel
 obtain ⟨hG, hBx⟩ := hBs s wr hJ
 have c0 := Za (j := 0) hBx.b0 rfl
 have c1 := Za (j := 0) hBx.b1 rfl
 have c2 := Za (j := 0) hBx.b2 rfl
 have hsh := short_any p (cf s) a t
 gi_wp2
 refine ⟨trivial, rfl, CallsIn.mono (callsIn_wide.2 (hsh wr hG)) ?_⟩
 rintro e w2 ⟨v, rfl, e2, hsl⟩
 by_cases hne : Zo (cf s) a t = []
 · obtain ⟨A, cap, rfl, hrest⟩ := hsl
   rw [hne]
   have hl0 : ((([] : List Int).length : Nat) : Int) = 0 := rfl
   gi_wp2
   refine ⟨fun _ _ => trivial, ?_⟩
   gi_wp2
   refine bodyPost_ret (results_none rfl _ _ _) rfl ?_
   exact ⟨⟨_, rfl⟩, .inl ⟨s, hE s _ _ hJ e2, hne⟩⟩
 have hr := hR s wr w2 v hJ e2 ⟨hne, hsl⟩
 obtain ⟨A, cap, rfl, hrest⟩ := hsl
 obtain ⟨fn, tmps, assign, body, hy, hRd⟩ := hr
 obtain ⟨n, hn⟩ : ∃ n, n = (Zo (cf s) a t).length := ⟨_, rfl⟩
 rw [<- hn] at hy ⊢
 have hn1 : ((n : Int) == 0) = false := by
  rw [beq_eq_false_iff_ne]
  intro h0
  exact hne (List.eq_nil_of_length_eq_zero (by omega))
 clear hn hrest
 gi_wp2
 refine ⟨rfl, RoundIn.mono hRd ?_⟩
 rintro e W3 (⟨rfl, s', hJ', hrel⟩ | ⟨rfl, hJx⟩)
 · have hc3 := (hBs s' W3 hJ').1.caps
   have hc0 := hG.caps
   gi_wp2
   go_roundw
   case rel => exact ⟨s', hJ'⟩
   case measure => rw [hc3, hc0]; exact hrel
 gi_wp2
 refine bodyPost_ret (results_none rfl _ _ _) rfl ?_
 exact ⟨⟨_, rfl⟩, .inr hJx⟩
theorem Zh1 (n : Int) : ∀ (l : List Int) (c : List Int) (k : Nat) (hk : k + 1 < l.length), Xa (l.take (k + 2)) c n = (Vl (Xa (l.take (k + 1)) c n) (l[k]'(by omega)) (l[k + 1]'hk) n).2
 | [], _, _, hk => by simp at hk
 | [_], _, _, hk => by simp at hk
 | a :: b :: r, c, 0, _ => by simp [Xa]
 | a :: b :: r, c, k + 1, hk => by
   have ih := Zh1 n (b :: r) (Vl c a b n).2 k (by simpa using hk)
   have e1 : Xa ((a :: b :: r).take (k + 1 + 2)) c n = Xa ((b :: r).take (k + 2)) (Vl c a b n).2 n := by simp [Xa]
   have e2 : Xa ((a :: b :: r).take (k + 1 + 1)) c n = Xa ((b :: r).take (k + 1)) (Vl c a b n).2 n := by simp [Xa]
   rw [e1, e2, ih]
   simp
theorem Zey (n : Int) : ∀ (l : List Int) (k : Nat) (hk : k + 1 < l.length), Z6 (l.take (k + 2)) n = Z6 (l.take (k + 1)) n ++ [(l[k]'(by omega), l[k + 1]'hk, n)]
 | [], _, hk => by simp at hk
 | [_], _, hk => by simp at hk
 | a :: b :: r, 0, _ => by simp [Z6]
 | a :: b :: r, k + 1, hk => by
   have ih := Zey n (b :: r) k (by simpa using hk)
   have e1 : Z6 ((a :: b :: r).take (k + 1 + 2)) n = (a, b, n) :: Z6 ((b :: r).take (k + 2)) n := by simp [Z6]
   have e2 : Z6 ((a :: b :: r).take (k + 1 + 1)) n = (a, b, n) :: Z6 ((b :: r).take (k + 1)) n := by simp [Z6]
   rw [e1, e2, ih]
   simp
theorem Un.ne {c d : List Int} : ∀ (l : List Int) (k : Nat) (hk : k + 1 < l.length), Un c d l -> l[k]'(by omega) ≠ l[k + 1]'hk
 | [], _, hk, _ => by simp at hk
 | [_], _, hk, _ => by simp at hk
 | a :: b :: r, 0, _, h => by
   unfold Un at h
   obtain ⟨⟨x, y, rfl, rfl, _, _, _, hd⟩, _⟩ := h
   simp only [List.getElem_cons_zero, List.getElem_cons_succ, ne_eq]
   intro e
   have : x = y := by omega
   subst this
   omega
 | a :: b :: r, k + 1, hk, h => by
   unfold Un at h
   have := Un.ne (b :: r) k (by simpa using hk) h.2
   simpa using this
def Yh (l : Flows) : List Value := l.flatMap fun x => [.int .u8 x.1, .int .u8 x.2.1, .int .i64 x.2.2]
theorem Ziq (l : Flows) (x : Int × Int × Int) : Yh (l ++ [x]) = Yh l ++ [.int .u8 x.1, .int .u8 x.2.1, .int .i64 x.2.2] := by simp [Yh]
structure RS where
 c : List Int
 got : Int
 acc : Flows
structure RtOk (c : List Int) (a t want : Int) (s : RS) : Prop where
 wf : WFG s.c
 lo : 0 <= s.got
 hi : s.got < want
 few : s.acc.length + 16 * Zdx s.c t.toNat <= 1391824
 eq : ∃ f, Zdx s.c t.toNat < f /\ Y2 c a t want = Xs a t want f s.c s.got s.acc
theorem RtOk.start {c : List Int} {a t want : Int} (hw : WFG c) (h : 0 < want) : RtOk c a t want ⟨c, 0, []⟩ := by
 have := wayM_le c t.toNat
 refine ⟨hw, Int.le_refl _, h, by simp only [List.length_nil]; omega, 90000, by simp only; omega, ?_⟩
 unfold Y2
 rw [if_neg (by omega)]
theorem RtOk.ended {c : List Int} {a t want : Int} {s : RS} (h : RtOk c a t want s) (he : Zo s.c a t = []) : Y2 c a t want = (s.acc, s.got) := by
 obtain ⟨f, hf, e⟩ := h.eq
 obtain ⟨f, rfl⟩ : ∃ f', f = f' + 1 := ⟨f - 1, by omega⟩
 rw [e]
 unfold Xs
 rw [if_pos he]
theorem RtOk.met {c : List Int} {a t want : Int} {s : RS} (h : RtOk c a t want s) (hn : Zo s.c a t ≠ []) (he : s.got + Z4 s.c (Zo s.c a t) (want - s.got) = want) :
 Y2 c a t want = (s.acc ++ Z6 (Zo s.c a t) (Z4 s.c (Zo s.c a t) (want - s.got)), want) := by
 obtain ⟨f, hf, e⟩ := h.eq
 obtain ⟨f, rfl⟩ : ∃ f', f = f' + 1 := ⟨f - 1, by omega⟩
 rw [e]
 unfold Xs
 rw [if_neg hn, if_pos he]
theorem RtOk.on {c : List Int} {a t want : Int} {s : RS} (h : RtOk c a t want s) (hn : Zo s.c a t ≠ []) (he : s.got + Z4 s.c (Zo s.c a t) (want - s.got) ≠ want) :
 RtOk c a t want ⟨Xa (Zo s.c a t) s.c (Z4 s.c (Zo s.c a t) (want - s.got)), s.got + Z4 s.c (Zo s.c a t) (want - s.got), s.acc ++ Z6 (Zo s.c a t) (Z4 s.c (Zo s.c a t) (want - s.got))⟩ /\
  Zdx (Xa (Zo s.c a t) s.c (Z4 s.c (Zo s.c a t) (want - s.got))) t.toNat < Zdx s.c t.toNat := by
 have hhi := h.hi
 obtain ⟨p1, p2, p3, p4⟩ := U7 h.wf hn (want - s.got) (by omega)
 have hm := p4 (by omega)
 obtain ⟨f, hf, e⟩ := h.eq
 obtain ⟨f, rfl⟩ : ∃ f', f = f' + 1 := ⟨f - 1, by omega⟩
 have hlo := h.lo
 have hfew := h.few
 obtain ⟨_, _, _, _, _, _, _, _, _, hl2, hl17⟩ := Zaw hn
 refine ⟨⟨p3, by simp only; omega, by simp only; omega, ?_, f, by simp only; omega, ?_⟩, hm⟩
 · simp only [List.length_append, Zcg]; omega
 rw [e]
 conv => lhs; unfold Xs
 rw [if_neg hn, if_neg he]
end Go.Proofs.YtahdgojcebajkaaGreat
