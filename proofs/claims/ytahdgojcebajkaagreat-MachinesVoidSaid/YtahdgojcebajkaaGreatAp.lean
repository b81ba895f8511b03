/- The kinds of steps: what does each, in a map. A machine, walked: what it is; a step by its kind. Printed by ap1.py. A machine, walked: a command of several steps. A machine, walked: Apply. -/
import Derived.Test.YtahdgojcebajkaaGreatBase
import Derived.Test.YtahdgojcebajkaaGreatWk
import Derived.Test.YtahdgojcebajkaaGreatHCopy

namespace Go.Proofs.YtahdgojcebajkaaGreat
open Go.RowKit Go.Rg Go.BigFrame

def kindN : List (Int × Nat) := [(1, 122), (2, 123), (3, 124), (4, 125), (5, 126), (6, 127), (7, 128), (8, 129), (9, 130), (10, 131), (11, 132)]
def kfn (n : Nat) : Value := .func (.func n) #[] #[]
def kfind : List (Int × Nat) → Int → Nat → Option (Nat × Value)
  | [], _, _ => none
  | x :: l, k, i => if x.1 == k then some (i, kfn x.2) else kfind l k (i + 1)
abbrev kEs (es : Array MapEntry) (l : List (Int × Nat)) : Prop := es.toList.map (fun e => (e.key, e.val)) = l.map (fun x => (Value.int .u8 x.1, kfn x.2))
/-- The map of all kinds. -/
def IsKinds (w : World) (m : Nat) : Prop := ∃ es clock, w.heap[m]? = some (.map es clock) ∧ kEs es kindN
theorem IsKinds.keep {S : List Nat} {w w' : World} {m : Nat} (h : IsKinds w m) (k : Keep S w w') (hn : m ∉ S) : IsKinds w' m :=
  let ⟨es, c, h1, h2⟩ := h
  ⟨es, c, k.at h1 hn, h2⟩
theorem kin_now (k : Int) : ∀ (l : List (Int × Nat)) (es : List MapEntry) (i : Nat), es.map (fun e => (e.key, e.val)) = l.map (fun x => (Value.int .u8 x.1, kfn x.2)) →
    Instr.findNow (.int .u8) (.int .u8 k) es i = some (kfind l k i)
  | [], [], _, _ => rfl
  | [], _ :: _, _, h => by simp at h
  | _ :: _, [], _, h => by simp at h
  | x :: l, e :: es, i, h => by
    simp only [List.map_cons, List.cons.injEq, Prod.mk.injEq] at h
    obtain ⟨⟨hk, hv⟩, ht⟩ := h
    have ih := kin_now k l es (i + 1) ht
    unfold Instr.findNow kfind
    rw [hk, hv]
    by_cases hx : x.1 = k
    · subst hx; simp [Instr.sameNow]
    · have : (x.1 == k) = false := by simpa using hx
      have h2 : (k == x.1) = false := by simpa using fun e => hx e.symm
      simp only [Instr.sameNow, if_true, h2, this]
      exact ih
theorem kin_find (k : Int) (w : World) (l : List (Int × Nat)) (es : List MapEntry) (h : es.map (fun e => (e.key, e.val)) = l.map (fun x => (Value.int .u8 x.1, kfn x.2))) :
    (Instr.findKey 95 (.int .u8 k) es).run Tryz.prog w = .ok (kfind l k 0) w := by
  unfold Instr.findKey
  rw [Sem.run_bind, run_underlying Tryz.underlying95 w, Result.andThen_ok, kin_now k l es 0 h]
  rfl
theorem kin_check_at (n : Nat) (k : Int) (e : Bool) (w : World) : (Instr.checkKey e (n + 1) 95 (.int .u8 k)).run Tryz.prog w = .ok () w := by
  simp only [Instr.checkKey]
  go_simp
theorem kin_check (k : Int) (e : Bool) (w : World) : (Instr.checkKey e 10000 95 (.int .u8 k)).run Tryz.prog w = .ok () w := kin_check_at 9999 k e w
set_option maxRecDepth 100000 in
theorem zero_fn (w : World) : (zeroValue 172).run Tryz.prog w = .ok .nilFunc w := by first | rfl | go_simp
theorem kin_lookup (k : Int) (m clock : Nat) (l : List (Int × Nat)) (es : Array MapEntry) (w : World) (hm : w.heap[m]? = some (.map es clock)) (h : kEs es l) :
    (Instr.lookup 170 (.map (some m)) (.int .u8 k) true).run Tryz.prog w = .ok (match kfind l k 0 with | some r => .tuple #[r.2, .bool true] | none => .tuple #[.nilFunc, .bool false]) w := by
  have hf := kin_find k w l es.toList h
  have hg : (getObj m).run Tryz.prog w = .ok (.map es clock) w := by simp [getObj, Sem.run, hm]
  unfold Instr.lookup
  simp only [Sem.run_bind, run_underlying Tryz.underlying170 w, Result.andThen_ok, hg, Sem.run_pure, kin_check, hf]
  cases hc : kfind l k 0 with
  | none => simp only [Sem.run_bind, zero_fn, Result.andThen_ok, Sem.run_pure, if_true]
  | some r => simp only [Sem.run_pure, Sem.run_bind, Result.andThen_ok, if_true]
theorem kin_put (k : Int) (f m : Nat) (l : List (Int × Nat)) (w : World) (hm : ∃ es clock, w.heap[m]? = some (.map es clock) ∧ kEs es l) (hn : kfind l k 0 = none) :
    ∃ w', (Instr.mapUpdate 170 (.map (some m)) (.int .u8 k) (.func (.func f) #[] #[])).run Tryz.prog w = .ok () w' ∧ (∃ es clock, w'.heap[m]? = some (.map es clock) ∧ kEs es (l ++ [(k, f)])) ∧ Keep [m] w w' := by
  obtain ⟨es, clock, hm, h⟩ := hm
  have hf := kin_find k w l es.toList h
  have hg : (getObj m).run Tryz.prog w = .ok (.map es clock) w := by simp [getObj, Sem.run, hm]
  have hset : ∀ ob', (setObj m ob').run Tryz.prog w = .ok () { w with heap := w.heap.setIfInBounds m ob' } := fun ob' => by simp [setObj, Sem.run, hm]
  unfold Instr.mapUpdate
  simp only [Sem.run_bind, run_underlying Tryz.underlying170 w, Result.andThen_ok, hg, kin_check, hf, hn, hset]
  obtain ⟨k1, k2⟩ := keep_putMap (ob' := .map (es.push { key := .int .u8 k, val := .func (.func f) #[] #[], born := clock }) (clock + 1)) hm
  refine ⟨_, rfl, ⟨_, _, k2, ?_⟩, k1⟩
  simp only [kEs, Array.toList_push, List.map_append, List.map_cons, List.map_nil]
  rw [h]
  rfl

theorem wpList_insert {P : Program} {ops : Array Oper} {rest : List Oper} {o : Oper} {a : Act} {w : World} {Q : Exit → Act → World → Prop} (hgd : o.guard = none) (hd : o.dst = none) (t : TypeId) (m k v : Operand) (hop : o.op = .insert t m k v) (vm vk vv : Value)
    (hm : a.eval m = vm) (hk : a.eval k = vk) (hv : a.eval v = vv) (w' : World) (hr : (Instr.mapUpdate t vm vk vv).run P w = .ok () w') (h : wpList P ops Q rest a w') : wpList P ops Q (o :: rest) a w :=
  wpList_plain hgd fun K hK => by
    unfold Oper.wp execOp
    simp only [hop, hm, hk, hv, Sem.run_bind, Sem.run_pure, Result.andThen_ok, hr, Oper.upon]
    rw [hd]
    exact hK _ _ h

set_option maxRecDepth 100000 in
set_option maxHeartbeats 1600000 in
theorem kinds_any (w : World) : Calls Tryz.prog 94 #[] w (fun e w' => ∃ m, e = .returned (.map (some m)) ∧ Ext w w' ∧ IsKinds w' m ∧ w.heap.size ≤ m) := by
  have hmk : ∀ w, (Instr.makeMap 170 none).run Tryz.prog w = .ok (.map (some w.heap.size)) (w.alloc (.map #[] 0)) := fun _ => rfl
  have hm := heap_alloc_top w (.map #[] 0)
  have em := ext_alloc w (.map #[] 0)
  generalize hW : w.alloc (.map #[] 0) = W at hm em
  have HW := Lib.hid hW
  clear hW
  obtain ⟨w1, r1, m1, q1⟩ := kin_put 1 122 w.heap.size [] W ⟨_, _, hm, rfl⟩ rfl
  obtain ⟨w2, r2, m2, q2⟩ := kin_put 2 123 w.heap.size _ w1 m1 (by decide)
  obtain ⟨w3, r3, m3, q3⟩ := kin_put 3 124 w.heap.size _ w2 m2 (by decide)
  obtain ⟨w4, r4, m4, q4⟩ := kin_put 4 125 w.heap.size _ w3 m3 (by decide)
  obtain ⟨w5, r5, m5, q5⟩ := kin_put 5 126 w.heap.size _ w4 m4 (by decide)
  obtain ⟨w6, r6, m6, q6⟩ := kin_put 6 127 w.heap.size _ w5 m5 (by decide)
  obtain ⟨w7, r7, m7, q7⟩ := kin_put 7 128 w.heap.size _ w6 m6 (by decide)
  obtain ⟨w8, r8, m8, q8⟩ := kin_put 8 129 w.heap.size _ w7 m7 (by decide)
  obtain ⟨w9, r9, m9, q9⟩ := kin_put 9 130 w.heap.size _ w8 m8 (by decide)
  obtain ⟨w10, r10, m10, q10⟩ := kin_put 10 131 w.heap.size _ w9 m9 (by decide)
  obtain ⟨w11, r11, m11, q11⟩ := kin_put 11 132 w.heap.size _ w10 m10 (by decide)
  have KW := Lib.hid ((((((((((q1.trans q2).trans q3).trans q4).trans q5).trans q6).trans q7).trans q8).trans q9).trans q10).trans q11)
  have M := Lib.hid m11
  have EM := Lib.hid em
  clear m1 m2 m3 m4 m5 m6 m7 m8 m9 m10 m11 q1 q2 q3 q4 q5 q6 q7 q8 q9 q10 q11 em hm
  go_enter Tryz.func94, Tryz.ntmps94
  have r1' := r1
  rw [← HW.out] at r1'
  clear r1
  go_wp2_with (first
    | (refine wpList_insert rfl rfl 170 _ _ _ rfl _ _ _ rfl rfl rfl _ r1' ?_)
    | (refine wpList_insert rfl rfl 170 _ _ _ rfl _ _ _ rfl rfl rfl _ r2 ?_)
    | (refine wpList_insert rfl rfl 170 _ _ _ rfl _ _ _ rfl rfl rfl _ r3 ?_)
    | (refine wpList_insert rfl rfl 170 _ _ _ rfl _ _ _ rfl rfl rfl _ r4 ?_)
    | (refine wpList_insert rfl rfl 170 _ _ _ rfl _ _ _ rfl rfl rfl _ r5 ?_)
    | (refine wpList_insert rfl rfl 170 _ _ _ rfl _ _ _ rfl rfl rfl _ r6 ?_)
    | (refine wpList_insert rfl rfl 170 _ _ _ rfl _ _ _ rfl rfl rfl _ r7 ?_)
    | (refine wpList_insert rfl rfl 170 _ _ _ rfl _ _ _ rfl rfl rfl _ r8 ?_)
    | (refine wpList_insert rfl rfl 170 _ _ _ rfl _ _ _ rfl rfl rfl _ r9 ?_)
    | (refine wpList_insert rfl rfl 170 _ _ _ rfl _ _ _ rfl rfl rfl _ r10 ?_)
    | (refine wpList_insert rfl rfl 170 _ _ _ rfl _ _ _ rfl rfl rfl _ r11 ?_))
  go_ret
  obtain ⟨es, ck, h1, h2⟩ := M.out
  exact ⟨w.heap.size, rfl, (Keep.trans_fresh (S := []) (Keep.of_ext EM.out) KW.out (fun x hx => by right; simp at hx; omega)).ext, ⟨es, ck, h1, h2⟩, Nat.le_refl _⟩
end Go.Proofs.YtahdgojcebajkaaGreat

namespace Go.Rg
open Go.RowKit
theorem run_callv {P : Program} {a : Act} {o : Oper} {f : FuncId} {x : Operand} {args : Array Operand} {ts : Array TypeId} (fn : Func) (hop : o.op = .call { callee := .value x, args := args, argTypes := ts }) (hx : a.eval x = .func (.func f) #[] #[]) (hf : P.funcs[f]? = some fn) (hb : fn.body.isNone = false)
    (hn : (fn.name == "runtime.NumGoroutine") = false) (w : World) : (execOp a.eval o).run P w = .ok (.enter f (args.map a.eval)) w := by
  have hb' : fn.body ≠ none := by intro h; simp [h] at hb
  have hn' : fn.name ≠ "runtime.NumGoroutine" := by simpa using hn
  generalize a.eval = ρ at hx ⊢
  unfold execOp
  simp [hop, hx, go_sem, callFunc, hf, hb', hn', Result.andThen]
/-- A call of a function that a slot holds. -/
theorem wpList_callv {P : Program} {ops : Array Oper} {rest : List Oper} {o : Oper} {a : Act} {w : World} {Q : Exit → Act → World → Prop} (hg : o.guard = none) (d : Option Tmp) (hd : o.dst = d) (x : Operand) (args : Array Operand) (ts : Array TypeId) (hop : o.op = .call { callee := .value x, args := args, argTypes := ts })
    (f : FuncId) (fn : Func) (hx : a.eval x = .func (.func f) #[] #[]) (hf : P.funcs[f]? = some fn) (hb : fn.body.isNone = false) (hn : (fn.name == "runtime.NumGoroutine") = false) (vals : Array Value) (hv : args.map a.eval = vals)
    (hc : Calls P f vals w (fun e w' => ∃ v, e = .returned v ∧ wpList P ops Q rest (a.put d v) w')) : wpList P ops Q (o :: rest) a w := by
  subst hd
  refine wpList_plain hg fun K hK => ?_
  unfold Oper.wp
  rw [run_callv fn hop hx hf hb hn w, hv, Oper.upon_enter]
  refine hc.mono fun e w'' hh => ?_
  obtain ⟨v, rfl, h⟩ := hh
  exact hK _ _ h
end Go.Rg
namespace Go.Proofs.YtahdgojcebajkaaGreat
open Go.RowKit Go.Rg Go.BigFrame

/-- A function of the program that is written out. -/
def FnAt (f : Nat) : Prop := ∃ fn, Tryz.prog.funcs[f]? = some fn ∧ fn.body.isNone = false ∧ (fn.name == "runtime.NumGoroutine") = false
theorem fnat_open : FnAt 122 := ⟨_, Tryz.func122, rfl, by decide⟩
theorem fnat_trust : FnAt 123 := ⟨_, Tryz.func123, rfl, by decide⟩
theorem fnat_pay : FnAt 124 := ⟨_, Tryz.func124, rfl, by decide⟩
theorem fnat_debt : FnAt 129 := ⟨_, Tryz.func129, rfl, by decide⟩
theorem fnat_position : FnAt 130 := ⟨_, Tryz.func130, rfl, by decide⟩
theorem stepM_none (s : Stp) (L : Led) (B : Bk) (h : kfind kindN s.kd 0 = none) : stepM s L B = ((0, 0), 1, L, B) := by
  have hk : ∀ (n : Int) r, kfind kindN n 0 = some r → s.kd ≠ n := fun n r hr e => by rw [e, hr] at h; cases h
  unfold stepM
  rw [if_neg (hk 1 _ rfl), if_neg (hk 2 _ rfl), if_neg (hk 3 _ rfl), if_neg (hk 4 _ rfl), if_neg (hk 5 _ rfl), if_neg (hk 6 _ rfl), if_neg (hk 7 _ rfl), if_neg (hk 8 _ rfl), if_neg (hk 9 _ rfl), if_neg (hk 10 _ rfl), if_neg (hk 11 _ rfl)]

/-- What a function does of a step. -/
def DoesStep (f : Nat) (s : Stp) : Prop := ∀ (base : Nat → Prop) (hw p m pb : Nat) (g : Option Nat) (L : Led) (B : Bk) (w : World), IsH w base hw p m pb g L B → (∀ x, w.heap.size ≤ x → base x) →
  Calls Tryz.prog f #[.pointer (some ⟨hw, 0, none⟩), s.agg] w (RetM base hw (stepM s L B) w)
/-- A step whose kind is known. -/
def Known (s : Stp) : Prop := ∀ r, kfind kindN s.kd 0 = some r → ∃ f, r.2 = kfn f ∧ FnAt f ∧ DoesStep f s
theorem known_open (s : Stp) (hk : s.kd = 1) (hin : s.In) : Known s := fun r h => by
  rw [hk, show kfind kindN 1 0 = some (0, kfn 122) from rfl] at h
  cases h
  refine ⟨_, rfl, fnat_open, fun base hw p m pb g L B w h' hb => ?_⟩
  have := wopen_any base hw p m pb g L B s w h' hb hin
  unfold stepM
  rw [if_pos hk]
  exact this
theorem known_trust (s : Stp) (hk : s.kd = 2) (hin : s.In) : Known s := fun r h => by
  rw [hk, show kfind kindN 2 0 = some (1, kfn 123) from rfl] at h
  cases h
  refine ⟨_, rfl, fnat_trust, fun base hw p m pb g L B w h' hb => ?_⟩
  have := wtrust_any base hw p m pb g L B s w h' hb hin
  unfold stepM
  rw [if_neg (show ¬ s.kd = 1 by omega), if_pos hk]
  exact this
theorem known_pay (s : Stp) (hk : s.kd = 3) (hin : s.In) : Known s := fun r h => by
  rw [hk, show kfind kindN 3 0 = some (2, kfn 124) from rfl] at h
  cases h
  refine ⟨_, rfl, fnat_pay, fun base hw p m pb g L B w h' hb => ?_⟩
  have := wpay_any base hw p m pb g L B s w h' hb hin
  unfold stepM
  rw [if_neg (show ¬ s.kd = 1 by omega), if_neg (show ¬ s.kd = 2 by omega), if_pos hk]
  exact this
theorem known_debt (s : Stp) (hk : s.kd = 8) (_hin : s.In) : Known s := fun r h => by
  rw [hk, show kfind kindN 8 0 = some (7, kfn 129) from rfl] at h
  cases h
  refine ⟨_, rfl, fnat_debt, fun base hw p m pb g L B w h' hb => ?_⟩
  have := wdebt_any base hw p m pb g L B s w h' hb
  unfold stepM
  rw [if_neg (show ¬ s.kd = 1 by omega), if_neg (show ¬ s.kd = 2 by omega), if_neg (show ¬ s.kd = 3 by omega), if_neg (show ¬ s.kd = 4 by omega), if_neg (show ¬ s.kd = 5 by omega), if_neg (show ¬ s.kd = 6 by omega), if_neg (show ¬ s.kd = 7 by omega), if_pos hk]
  exact this
theorem known_position (s : Stp) (hk : s.kd = 9) (_hin : s.In) : Known s := fun r h => by
  rw [hk, show kfind kindN 9 0 = some (8, kfn 130) from rfl] at h
  cases h
  refine ⟨_, rfl, fnat_position, fun base hw p m pb g L B w h' hb => ?_⟩
  have := wposition_any base hw p m pb g L B s w h' hb
  unfold stepM
  rw [if_neg (show ¬ s.kd = 1 by omega), if_neg (show ¬ s.kd = 2 by omega), if_neg (show ¬ s.kd = 3 by omega), if_neg (show ¬ s.kd = 4 by omega), if_neg (show ¬ s.kd = 5 by omega), if_neg (show ¬ s.kd = 6 by omega), if_neg (show ¬ s.kd = 7 by omega), if_neg (show ¬ s.kd = 8 by omega), if_pos hk]
  exact this
/-- A machine: its row, its ledger, its book. -/
structure IsM (w : World) (q p m pb : Nat) (g : Option Nat) (L : Led) (B : Bk) : Prop where
  row : w.heap[q]? = some (Obj.cells #[.pointer (some ⟨p, 0, none⟩), .pointer (some ⟨pb, 0, none⟩)] 78 (0, 0))
  led : IsLed w p m L
  book : IsBook w pb g B
  ok : MOk L B
theorem IsM.ext {w w' : World} {q p m pb : Nat} {g : Option Nat} {L : Led} {B : Bk} (h : IsM w q p m pb g L B) (k : Ext w w') : IsM w' q p m pb g L B := ⟨k.at h.row, h.led.ext k, h.book.ext k, h.ok⟩
theorem load_houseM {w : World} {q : Nat} {x y : Value} (h : w.heap[q]? = some (Obj.cells #[x, y] 78 (0, 0))) : (loadVar 38 ⟨q, 0, none⟩).run Tryz.prog w = .ok (.agg #[x, y]) w :=
  run_loadVar_part w q 0 38 [x, y] _ (fun j u hu => by
    refine cell_at h ?_
    rw [Nat.zero_add]
    match j, hu with
    | 0, hu => exact hu
    | 1, hu => exact hu) Tryz.underlying38 rfl (by kernel_rfl)
set_option maxRecDepth 100000 in
set_option maxHeartbeats 800000 in
theorem mthere_any (q p m pb : Nat) (g : Option Nat) (L : Led) (B : Bk) (w : World) (h : IsM w q p m pb g L B) : Calls Tryz.prog 91 #[.pointer (some ⟨q, 0, none⟩)] w (Ret (.bool true) w) := by
  have c0 := cell_at (j := 0) h.row rfl
  go_enter Tryz.func91, Tryz.ntmps91
  go_wp2
  go_ret
  exact ⟨rfl, Ext.refl _⟩
set_option maxRecDepth 100000 in
set_option maxHeartbeats 800000 in
theorem mthere_nil (w : World) : Calls Tryz.prog 91 #[.pointer none] w (Ret (.bool false) w) := by
  go_enter Tryz.func91, Tryz.ntmps91
  go_wp2
  go_ret
  exact ⟨rfl, Ext.refl _⟩
set_option maxRecDepth 100000 in
set_option maxHeartbeats 800000 in
theorem mthere_zero (q : Nat) (w : World) (h : w.heap[q]? = some (Obj.cells #[.pointer none, .pointer none] 78 (0, 0))) : Calls Tryz.prog 91 #[.pointer (some ⟨q, 0, none⟩)] w (Ret (.bool false) w) := by
  have c0 := cell_at (j := 0) h rfl
  go_enter Tryz.func91, Tryz.ntmps91
  go_wp2
  go_ret
  exact ⟨rfl, Ext.refl _⟩
/-- It returns a machine that lies in new blocks. -/
def RetMa (L : Led) (B : Bk) (w : World) (e : Ending) (w' : World) : Prop :=
  ∃ q p m pb g, e = .returned (.pointer (some ⟨q, 0, none⟩)) ∧ Ext w w' ∧ IsM w' q p m pb g L B ∧ w.heap.size ≤ q
set_option maxRecDepth 100000 in
set_option maxHeartbeats 800000 in
theorem mnew_any (w : World) : Calls Tryz.prog 39 #[] w (RetMa led0 ⟨[], 1⟩ w) := by
  go_enter Tryz.func39, Tryz.ntmps39
  go_wp2_with fail
  refine (new_any _).mono ?_
  rintro e w1 ⟨p', m', rfl, e1, hL1, _⟩
  go_wp2_with fail
  refine (bnew_any _).mono ?_
  rintro e w2 hq
  simp only [RetBook] at hq
  obtain ⟨pb', g', rfl, e2, hB, _⟩ := hq
  have hz := heap_alloc_top w2 (.cells #[.pointer (some ⟨p', 0, none⟩), .pointer (some ⟨pb', 0, none⟩)] 78)
  have ez := ext_alloc w2 (.cells #[.pointer (some ⟨p', 0, none⟩), .pointer (some ⟨pb', 0, none⟩)] 78)
  have hL := hL1.ext e2
  have hsz := (Ext.trans e1 e2).size
  go_wp2
  go_ret
  exact ⟨_, p', m', pb', g', rfl, Ext.trans e1 (Ext.trans e2 ez), ⟨hz, hL.ext ez, hB.ext ez, wf_led0, fun o ho => by simp at ho, by simp [SeqN], fun o ho => by simp at ho⟩, hsz⟩
end Go.Proofs.YtahdgojcebajkaaGreat

namespace Go.Proofs.YtahdgojcebajkaaGreat
open Go.RowKit Go.Rg Go.BigFrame

def stCells (l : List Stp) : List Value := l.flatMap Stp.cells
def gtC1 (x : Gt) : List Value := [.int .i64 x.1, .int .i64 x.2]
def gtC (l : List Gt) : List Value := l.flatMap gtC1
theorem gtC_none (n : Nat) : (List.replicate n [Value.int .i64 0, Value.int .i64 0]).flatten = gtC (List.replicate n (0, 0)) := by
  unfold gtC
  induction n with
  | zero => rfl
  | succ n ih => rw [List.replicate_succ, List.replicate_succ, List.flatten_cons, List.flatMap_cons, ih]; rfl
theorem gtC_len (l : List Gt) : (gtC l).length = l.length * 2 := flat_len gtC1 2 (fun _ => rfl) l
theorem gtC_at (l : List Gt) (k j : Nat) (hk : k < l.length) (hj : j < 2) : (gtC l)[k * 2 + j]? = (gtC1 (l[k]'hk))[j]? := flat_at gtC1 2 (fun _ => rfl) l k j hk hj
theorem gtC_set (l : List Gt) (k : Nat) (hk : k < l.length) (x y : Int) : ((gtC l).set (k * 2) (.int .i64 x)).set (k * 2 + 1) (.int .i64 y) = gtC (l.set k (x, y)) := by
  have hl := gtC_len l
  refine List.ext_getElem? fun m => ?_
  rw [List.getElem?_set, List.getElem?_set]
  simp only [List.length_set]
  by_cases hm : m < l.length * 2
  · have hdiv : m / 2 < l.length := by omega
    have hmm : m = m / 2 * 2 + m % 2 := by omega
    have h2 := gtC_at (l.set k (x, y)) (m / 2) (m % 2) (by rw [List.length_set]; exact hdiv) (by omega)
    rw [← hmm, List.getElem_set] at h2
    have h3 := gtC_at l (m / 2) (m % 2) hdiv (by omega)
    rw [← hmm] at h3
    rw [h2]
    by_cases e : k = m / 2
    · rw [if_pos e]
      by_cases e0 : m % 2 = 0
      · rw [if_neg (by omega), if_pos (by omega), if_pos (by omega), e0]; rfl
      · rw [if_pos (by omega), if_pos (by omega), show m % 2 = 1 by omega]; rfl
    · rw [if_neg e, if_neg (by omega), if_neg (by omega), h3]
  · rw [if_neg (by omega), if_neg (by omega), List.getElem?_eq_none (by omega), List.getElem?_eq_none (by rw [gtC_len, List.length_set]; omega)]
/-- What was got so far, and room for the rest. -/
def gtK (gl : List Gt) (n : Nat) : List Gt := gl ++ List.replicate (n - gl.length) (0, 0)
theorem gtK_len {gl : List Gt} {n : Nat} (h : gl.length ≤ n) : (gtK gl n).length = n := by unfold gtK; simp; omega
theorem gtK_set {gl : List Gt} {n : Nat} (h : gl.length < n) (x : Gt) : (gtK gl n).set gl.length x = gtK (gl ++ [x]) n := by
  unfold gtK
  rw [List.set_append, if_neg (by omega), Nat.sub_self, List.length_append, List.length_singleton, show n - gl.length = (n - (gl.length + 1)) + 1 by omega, List.replicate_succ, List.set_cons_zero, List.append_assoc]
  rfl
theorem gtK_full {gl : List Gt} {n : Nat} (h : gl.length = n) : gtK gl n = gl := by unfold gtK; rw [h, Nat.sub_self]; simp
theorem stCells_at (l : List Stp) (k j : Nat) (hk : k < l.length) (hj : j < 10) : (stCells l)[k * 10 + j]? = ((l[k]'hk).cells)[j]? := flat_at Stp.cells 10 (fun _ => rfl) l k j hk hj
theorem load_st (w : World) (g k : Nat) (l : List Stp) (hk : k < l.length) (h : ∀ j u, (stCells l)[j]? = some u → w.cell? ⟨g, j, none⟩ = some u) :
    (loadVar 97 ⟨g, k * 10, none⟩).run Tryz.prog w = .ok ((l[k]'hk).agg) w :=
  run_loadVar_part w g (k * 10) 97 ((l[k]'hk).cells) _ (fun j u hu => by
    have hj : j < 10 := (List.getElem?_eq_some_iff.1 hu).1
    exact h _ _ ((stCells_at l k j hk hj).trans hu)) Tryz.underlying97 rfl (by kernel_rfl)
theorem FrA.ext0 {A : Nat → Prop} {w a b : World} (e : Ext w a) (k : FrA A a b) (hA : ∀ x, A x → w.heap.size ≤ x) : Ext w b := by
  refine ⟨k.os.trans e.os, k.tape.trans e.tape, k.output.trans e.output, Nat.le_trans e.size k.size, fun _ hi => ?_⟩
  exact (k.block _ (Nat.lt_of_lt_of_le hi e.size) (fun h => by have := hA _ h; omega)).trans (e.block hi)
theorem own_fra {A : Nat → Prop} {w w' : World} {base size n : Nat} {e : TypeId} {v : Value} {xs : List Value} (h : w.ownsRow base e size v n xs) (k : FrA A w w') (hA : ∀ b, v.ownBlock = some b → ¬ A b) : w'.ownsRow base e size v n xs := by
  refine ⟨h.1, ?_⟩
  rcases h.2 with h4 | ⟨b, cap, cur, hv, hb, hg, rest⟩
  · exact .inl h4
  · exact .inr ⟨b, cap, cur, hv, hb, k.at hg (hA b (by rw [hv]; rfl)), rest⟩
theorem IsH.keep {S : List Nat} {w w' : World} {base : Nat → Prop} {hw p m pb : Nat} {g : Option Nat} {L : Led} {B : Bk} (h : IsH w base hw p m pb g L B) (k : Keep S w w') (hS : ∀ x ∈ S, ¬ base x) : IsH w' base hw p m pb g L B :=
  ⟨k.at h.row (fun hm => hS _ hm h.lo.1), h.led.keep k (fun hm => hS _ hm h.lo.2.1) (fun hm => hS _ hm h.lo.2.2.1), h.book.keep k (fun hm => hS _ hm h.lo.2.2.2.1) (fun x hx hm => hS _ hm (h.lo.2.2.2.2 x hx)), h.ok, h.lo⟩
theorem got_info : (Tryz.prog.info? 100).map (fun i => (i.zero, i.size, i.bytes)) = some (some (.agg #[.int .i64 0, .int .i64 0]), 2, 16) := by kernel_rfl
theorem apply_short {l : List Stp} (h : l.length = 0 ∨ 8 < l.length) (L : Led) (B : Bk) : applyM l L B = ((3, 0, []), L, B) := by unfold applyM; rw [if_pos h]
theorem apply_bad {l : List Stp} (h : ¬ (l.length = 0 ∨ 8 < l.length)) (L : Led) (B : Bk) {e i : Int} {gl : List Gt} {L' : Led} {B' : Bk} (hr : runM l 0 L B [] = (e, i, gl, L', B')) (he : e ≠ 0) : applyM l L B = ((e, i, []), L, B) := by unfold applyM; rw [if_neg h, hr, if_pos he]
theorem apply_good {l : List Stp} (h : ¬ (l.length = 0 ∨ 8 < l.length)) (L : Led) (B : Bk) {i : Int} {gl : List Gt} {L' : Led} {B' : Bk} (hr : runM l 0 L B [] = (0, i, gl, L', B')) : applyM l L B = ((0, 0, gl), L', B') := by unfold applyM; rw [if_neg h, hr, if_neg (by simp)]
theorem runM_bad (s : Stp) (l : List Stp) (i : Int) (L : Led) (B : Bk) (g : List Gt) (h : (stepM s L B).2.1 ≠ 0) : runM (s :: l) i L B g = ((stepM s L B).2.1, i, [], L, B) := by rw [runM, if_pos h]
theorem runM_good (s : Stp) (l : List Stp) (i : Int) (L : Led) (B : Bk) (g : List Gt) (h : (stepM s L B).2.1 = 0) : runM (s :: l) i L B g = runM l (i + 1) (stepM s L B).2.2.1 (stepM s L B).2.2.2 (g ++ [(stepM s L B).1]) := by rw [runM, if_neg (by simpa using h)]

/-- How far a command has come. -/
structure ApI (base : Nat → Prop) (l : List Stp) (L0 : Led) (B0 : Bk) (w : World) (vv : Value) (km ga hw k : Nat) (p m pb : Nat) (g : Option Nat) (L : Led) (B : Bk) (gl : List Gt) (wr : World) : Prop where
  len : gl.length = k
  run : runM l 0 L0 B0 [] = runM (l.drop k) k L B gl
  house : IsH wr base hw p m pb g L B
  ext : Ext w wr
  cmd : wr.heap[w.heap.size]? = some (.cells #[vv] 76 (0, 0))
  rep : wr.heap[w.heap.size + 1]? = some (.cells #[.int .i64 0, .int .i64 0, .slice none 0 0] 88 (0, 0))
  kin : IsKinds wr km
  own : wr.ownsRow w.heap.size 100 2 (.slice (some ⟨ga, 0, none⟩) l.length l.length) l.length (gtC (gtK gl l.length))
/-- What a command leaves. -/
def RetAp (q : Nat) (r : (Int × Int × List Gt) × Led × Bk) (w : World) (e : Ending) (w' : World) : Prop :=
  ∃ v p m pb g, e = .returned (.agg #[.int .i64 r.1.1, .int .i64 r.1.2.1, v]) ∧ FrA (fun x => x = q) w w' ∧ SlAt w' w.heap.size 2 v r.1.2.2.length (gtC r.1.2.2) ∧ IsM w' q p m pb g r.2.1 r.2.2
theorem IsM.keep {S : List Nat} {w w' : World} {q p m pb : Nat} {g : Option Nat} {L : Led} {B : Bk} (h : IsM w q p m pb g L B) (k : Keep S w w') (h1 : q ∉ S) (h2 : p ∉ S) (h3 : m ∉ S) (h4 : pb ∉ S) (h5 : ∀ x, g = some x → x ∉ S) : IsM w' q p m pb g L B :=
  ⟨k.at h.row h1, h.led.keep k h2 h3, h.book.keep k h4 h5, h.ok⟩
theorem slAt_nil (w : World) (base size : Nat) : SlAt w base size (.slice none 0 0) 0 [] := ⟨none, 0, rfl, Nat.le_refl _, by unfold maxLen; omega, by simp, .inl rfl⟩
theorem own_there {w : World} {base n ga : Nat} {gl : List Gt} (h : w.ownsRow base 100 2 (.slice (some ⟨ga, 0, none⟩) n n) n (gtC (gtK gl n))) (hk : gl.length < n) : w.there ga (gl.length * 2) 2 := fun j hj => by
  obtain ⟨cur, hrow⟩ := own_row h
  refine ⟨?_, frozen_of_row _ ga _ _ _ hrow⟩
  have hlt : gl.length * 2 + j < (gtC (gtK gl n)).length := by rw [gtC_len, gtK_len (by omega)]; omega
  rw [(own_cells h).2 _ _ (List.getElem?_eq_getElem hlt)]
  rfl
theorem own_got {w : World} {base n ga : Nat} {gl : List Gt} (h : w.ownsRow base 100 2 (.slice (some ⟨ga, 0, none⟩) n n) n (gtC (gtK gl n))) (hk : gl.length < n) (x y : Int) :
    (w.setCells ga (gl.length * 2) #[Value.int .i64 x, .int .i64 y].toList).ownsRow base 100 2 (.slice (some ⟨ga, 0, none⟩) n n) n (gtC (gtK (gl ++ [(x, y)]) n)) ∧ Keep [ga] w (w.setCells ga (gl.length * 2) #[Value.int .i64 x, .int .i64 y].toList) := by
  have e : w.setCells ga (gl.length * 2) #[Value.int .i64 x, .int .i64 y].toList = (w.setCell ⟨ga, gl.length * 2, none⟩ (.int .i64 x)).setCell ⟨ga, gl.length * 2 + 1, none⟩ (.int .i64 y) := rfl
  rw [e]
  refine ⟨?_, Keep.setCell (Keep.setCell (Keep.refl _ _) (.inl (by simp)) _) (.inl (by simp)) _⟩
  have h5 := own_set (own_set h (gl.length * 2) (.int .i64 x)) (gl.length * 2 + 1) (.int .i64 y)
  rwa [gtC_set _ _ (by rw [gtK_len (by omega)]; exact hk), gtK_set hk] at h5
end Go.Proofs.YtahdgojcebajkaaGreat

namespace Go.Proofs.YtahdgojcebajkaaGreat
open Go.RowKit Go.Rg Go.BigFrame

set_option maxRecDepth 100000 in
set_option maxHeartbeats 51200000 in
theorem apply_any (q p m pb : Nat) (g : Option Nat) (L : Led) (B : Bk) (l : List Stp) (v : Value) (w : World) (h : IsM w q p m pb g L B) (hs : SlAt w 0 10 v l.length (stCells l)) (hin : ∀ s ∈ l, Known s) :
    Calls Tryz.prog 35 #[.pointer (some ⟨q, 0, none⟩), .agg #[v]] w (RetAp q (applyM l L B) w) := by
  obtain ⟨i0, hi, hz0, hz1, hz2⟩ := info_parts got_info
  obtain ⟨A, cap, rfl, q1, q2, q3, q4⟩ := hs
  obtain ⟨vv, hvv⟩ : ∃ vv, vv = Value.slice A l.length cap := ⟨_, rfl⟩
  have VV := Lib.hid hvv
  rw [← hvv]
  have hql := lt_of_heap h.row
  have e0 := ext_alloc w (.cells #[vv] 76)
  have h0 := heap_alloc_top w (.cells #[vv] 76)
  have s0 := size_alloc w (.cells #[vv] 76)
  generalize hW : w.alloc (.cells #[vv] 76) = W at *
  have HW := Lib.hid hW
  clear hW hvv q3
  obtain ⟨r, hr⟩ : ∃ r, r = applyM l L B := ⟨_, rfl⟩
  have HR := Lib.hid hr
  rw [← hr]
  clear hr
  go_enter Tryz.func35, Tryz.ntmps35
  go_wp2_with (first
    | (refine wpList_newrow rfl 88 rfl (.cells #[.int .i64 0, .int .i64 0, .slice none 0 0] 88) _ rfl (by go_simp) ?_
       rw [HW.out]
       intro w2 e2 h2
       rw [s0] at h2))
  have h02 := e2.at h0
  have e02 := Ext.trans e0 e2
  have s2 := lt_of_heap h2
  clear e0 h0 e2 HW s0
  refine (mthere_any q p m pb g L B w2 (h.ext e02)).mono ?_
  rintro e w3 ⟨rfl, e3⟩
  have e03 := Ext.trans e02 e3
  have h03 := e3.at h02
  have h3 := e3.at h2
  have h3M := h.ext e03
  have s3 := e3.size
  clear h02 h2
  by_cases hn : l.length = 0 ∨ 8 < l.length
  · have HA := Lib.hid (apply_short hn L B)
    have c0 := cell_at (j := 0) h03 rfl
    rw [VV.out] at c0
    rcases hn with hn | hn
    · rw [hn] at c0
      have g1 : decide ((0 : Int) < 1) = true := rfl
      go_wp2_with (refine wpList_row rfl rfl 88 _ _ rfl (w.heap.size + 1) _ rfl rfl 88 _ h3 (by kernel_rfl) (by rfl) (by rfl) ?_
                   intro w8 hb8 ho8 hs8)
      exact ret_cell (w.heap.size + 1) 88 _ _ _ rfl rfl hs8 Tryz.underlying88 rfl (by kernel_rfl) rfl (by
        have e8 : Ext w w8 := hb8 _ _ (by omega) e03
        rw [HR.out, HA.out]
        exact ⟨_, p, m, pb, g, rfl, FrA.of_ext e8, slAt_nil _ _ _, h.ext e8⟩)
    · have g1 : decide ((l.length : Int) < 1) = false := by simp; omega
      have g2 : decide ((l.length : Int) > 8) = true := by simp; omega
      go_wp2_with (refine wpList_row rfl rfl 88 _ _ rfl (w.heap.size + 1) _ rfl rfl 88 _ h3 (by kernel_rfl) (by rfl) (by rfl) ?_
                   intro w8 hb8 ho8 hs8)
      exact ret_cell (w.heap.size + 1) 88 _ _ _ rfl rfl hs8 Tryz.underlying88 rfl (by kernel_rfl) rfl (by
        have e8 : Ext w w8 := hb8 _ _ (by omega) e03
        rw [HR.out, HA.out]
        exact ⟨_, p, m, pb, g, rfl, FrA.of_ext e8, slAt_nil _ _ _, h.ext e8⟩)
  have c0 := cell_at (j := 0) h03 rfl
  rw [VV.out] at c0
  have g1 : decide ((l.length : Int) < 1) = false := by simp; omega
  have g2 : decide ((l.length : Int) > 8) = false := by simp; omega
  have ldh := load_houseM h3M.row
  have hcp := hcopy_any p m pb g L B w3 h3M.led h3M.book
  have HN := Lib.hid hn
  go_wp2_with (refine wpList_load_at rfl 38 _ _ _ rfl rfl ldh ?_)
  refine hcp.mono ?_
  rintro e w4 ⟨p4, m4, pb4, g4, rfl, e4, hL4, hB4, n1, n2, n3, n4⟩
  have hz := heap_alloc_top w4 (.cells #[.pointer (some ⟨p4, 0, none⟩), .pointer (some ⟨pb4, 0, none⟩)] 169)
  have ez := ext_alloc w4 (.cells #[.pointer (some ⟨p4, 0, none⟩), .pointer (some ⟨pb4, 0, none⟩)] 169)
  clear hcp ldh c0 g1 g2
  go_wp2_with fail
  generalize w4.alloc (.cells #[.pointer (some ⟨p4, 0, none⟩), .pointer (some ⟨pb4, 0, none⟩)] 169) = w5 at *
  refine (kinds_any _).mono ?_
  rintro e w6 ⟨km, rfl, e6, hk6, hkm⟩
  have E6 : Ext w3 w6 := Ext.trans e4 (Ext.trans ez e6)
  have h06 := E6.at h03
  have h6 := E6.at h3
  have c6 := cell_at (j := 0) h06 rfl
  rw [VV.out] at c6
  have hxs : (madeCells (Value.agg #[.int .i64 0, .int .i64 0]).cells (l.length * 2)).toList = gtC (List.replicate l.length (0, 0)) := by
    show (madeCells #[.int .i64 0, .int .i64 0] (l.length * 2)).toList = _
    rw [made2, gtC_none]
  have hb2 : i0.bytes * l.length ≤ 281474976710656 := by rw [hz2]; omega
  have hb3 : l.length ≤ maxLen := by unfold maxLen; omega
  go_wp2_with (first
    | (at_make; refine wpList_makeF rfl _ _ 86 rfl w6.heap.size 100 i0 _ 2 Tryz.underlying86 hi hz0 hz1 _ _ l.length rfl rfl hb2 hb3 (Nat.le_refl _) _ hxs ?_
       intro w7 e7 hlt7 hown7
       have c7 := cell_at (j := 0) (e7.at h06) rfl
       rw [VV.out] at c7))
  have hkml : km < w6.heap.size := by obtain ⟨es, cl, hm, _⟩ := hk6; exact lt_of_heap hm
  obtain ⟨ga, hga⟩ : ∃ ga, ga = w6.heap.size := ⟨_, rfl⟩
  rw [← hga] at hown7 hlt7 ⊢
  have s4 := e4.size
  have s5 := ez.size
  have s6 := e6.size
  have l4 := lt_of_heap hz
  have hga1 : w6.heap.size ≤ ga := by omega
  obtain ⟨base, hbase⟩ : ∃ base : Nat → Prop, base = fun x => w.heap.size + 2 ≤ x ∧ x ≠ km ∧ x ≠ ga := ⟨_, rfl⟩
  have hba : ∀ x, base x → w.heap.size + 2 ≤ x ∧ x ≠ km ∧ x ≠ ga := fun x hx => by rw [hbase] at hx; exact hx
  have hbb : ∀ x, w.heap.size + 2 ≤ x → x ≠ km → x ≠ ga → base x := fun x h1 h2 h3 => by rw [hbase]; exact ⟨h1, h2, h3⟩
  have E47 : Ext w4 w7 := Ext.trans ez (Ext.trans e6 e7)
  have hI0 : ApI base l L B w vv km ga w4.heap.size 0 p4 m4 pb4 g4 L B [] w7 := by
    refine ⟨rfl, by simp, ⟨(Ext.trans e6 e7).at hz, hL4.ext E47, hB4.ext E47, h.ok, ?_, ?_, ?_, ?_, ?_⟩, Ext.trans e03 (Ext.trans E6 e7), e7.at h06, e7.at h6, hk6.keep (Keep.of_ext (S := []) e7) (by simp), ?_⟩
    · exact hbb _ (by omega) (by omega) (by omega)
    · have := hL4.ltp; exact hbb _ (by omega) (by omega) (by omega)
    · have := hL4.ltm; exact hbb _ (by omega) (by omega) (by omega)
    · have := hB4.ltp; exact hbb _ (by omega) (by omega) (by omega)
    · intro x hx
      have := n4 x hx
      have := hB4.ltg x hx
      exact hbb _ (by omega) (by omega) (by omega)
    · have := own_lower hown7 (show w.heap.size ≤ ga by omega)
      simpa [gtK] using this
  have hwn : w.heap.size + 2 ≤ w4.heap.size := by omega
  have hgar : w.heap.size + 1 < ga := by omega
  have hkga : km < ga := by omega
  generalize w4.heap.size = hw at *
  clear hga hbase hxs hb2 hb3 hown7 c6 h06 h6 hk6 E47 hz ez e6 e7 hL4 hB4 E6 h03 h3 h3M hkm n1 n2 n3 n4 hi hz0 hz1 hz2 hn s2 s3 s4 s5 s6 l4 hlt7 hkml e02 e03 e3 e4 c7
  have hn63 : (l.length : Int) ≤ 9223372036854775807 := by have := HN.out; omega
  go_loopw [8, 9, 10, 11, 12, 13, 46, 47, 48, 49, 50, 51, 52, 53, 54, 55, 56, 57, 58, 59, 60, 61, 62, 63, 64, 65, 66, 67, 68, 69, 70, 71, 72, 73, 74, 75, 76, 77, 78] (fun _ _ _ _ _ _ iv _ _ _ _ _ _ _ _ _ _ _ _ _ _ _ _ _ _ _ _ _ _ _ _ _ _ _ _ _ _ _ _ wr => ∃ k : Nat, k ≤ l.length ∧ iv = .int .i64 k ∧ ∃ p5 m5 pb5 g5 L5 B5 gl, ApI base l L B w vv km ga hw k p5 m5 pb5 g5 L5 B5 gl wr) (fun _ _ _ _ _ _ iv _ _ _ _ _ _ _ _ _ _ _ _ _ _ _ _ _ _ _ _ _ _ _ _ _ _ _ _ _ _ _ _ _ => l.length - (intOf iv).toNat)
  case atStart => exact ⟨0, Nat.zero_le _, rfl, _, _, _, _, _, _, _, hI0⟩
  case round =>
    obtain ⟨k, hk, rfl, p5, m5, pb5, g5, L5, B5, gl, len, run, house, ext, cmd, rep, kin, own⟩ := hrel
    clear hI0
    subst len
    by_cases hkn : gl.length < l.length
    · rcases q4 with q4 | ⟨g0, rfl, hb0, hlt, hcell⟩
      · omega
      have hld := load_st wr g0 gl.length l hkn (fun j u hu => (cell_block (ext.block hlt)).trans (hcell j u hu))
      have hdr := List.drop_eq_getElem_cons hkn
      have hins := hin _ (List.getElem_mem hkn)
      generalize l[gl.length]'hkn = s at *
      obtain ⟨kd, pa, pbb, ca, cb, am, mx, nu, de, sq⟩ := s
      simp only [Stp.agg] at hld
      rw [hdr] at run
      have RUN := Lib.hid run
      have INS := Lib.hid hins
      have k0 : (0 : Int) ≤ (gl.length : Int) := by omega
      have k1 : (gl.length : Int) < (l.length : Int) := by omega
      have k2 : decide ((gl.length : Int) < (l.length : Int)) = true := by simpa using hkn
      have hz5 := heap_alloc_top wr (.cells #[.int .u8 0, .int .u8 0, .int .u8 0, .int .u8 0, .int .u8 0, .int .i64 0, .int .i64 0, .int .i64 0, .int .i64 0, .int .u64 0] 97)
      have ez5 := ext_alloc wr (.cells #[.int .u8 0, .int .u8 0, .int .u8 0, .int .u8 0, .int .u8 0, .int .i64 0, .int .i64 0, .int .i64 0, .int .i64 0, .int .u64 0] 97)
      clear hcell hdr run hins
      obtain ⟨es, clock, hkm, hes⟩ := kin
      cases hkf : kfind kindN kd 0 with
      | none =>
        have hst := stepM_none ⟨kd, pa, pbb, ca, cb, am, mx, nu, de, sq⟩ L5 B5 hkf
        have HST := Lib.hid hst
        clear hst
        go_wp2_with (first
          | (refine wpList_load_at rfl 97 _ _ _ rfl rfl hld ?_)
          | (refine wpList_row rfl rfl 97 _ _ rfl wr.heap.size _ rfl rfl 97 _ hz5 (by kernel_rfl) (by rfl) (by rfl) ?_
             intro w8 hb8 ho8 hs8
             have e8 : Ext wr w8 := hb8 _ _ (Nat.le_refl _) ez5
             have z0 := cell_at (j := 0) hs8 rfl
             have hlk := kin_lookup kd km clock kindN es w8 (e8.at hkm) hes
             rw [hkf] at hlk
             simp only at hlk
             have hr8 := e8.at rep)
          | (refine wpList_row rfl rfl 88 _ _ rfl (w.heap.size + 1) _ rfl rfl 88 _ hr8 (by kernel_rfl) (by rfl) (by rfl) ?_
             intro w9 hb9 ho9 hs9))
        exact ret_cell (w.heap.size + 1) 88 _ _ _ rfl rfl hs9 Tryz.underlying88 rfl (by kernel_rfl) rfl (by
          have e9 : Ext w w9 := hb9 _ _ (by omega) (Ext.trans ext e8)
          have hrun := RUN.out
          rw [runM_bad _ _ _ _ _ _ (by rw [HST.out]; show (1 : Int) ≠ 0; decide), HST.out] at hrun
          rw [HR.out, apply_bad HN.out L B hrun (show (1 : Int) ≠ 0 by decide)]
          exact ⟨_, p, m, pb, g, rfl, FrA.of_ext e9, slAt_nil _ _ _, h.ext e9⟩)
      | some fr =>
        obtain ⟨f, hrf, ⟨fn, hf1, hf2, hf3⟩, hdo⟩ := INS.out fr hkf
        obtain ⟨fi, fv⟩ := fr
        simp only at hrf
        subst hrf
        have HCAL := Lib.hid (fun W k1 k2 => hdo base hw p5 m5 pb5 g5 L5 B5 W k1 k2)
        clear hdo
        obtain ⟨sm, hsm⟩ : ∃ sm, sm = stepM ⟨kd, pa, pbb, ca, cb, am, mx, nu, de, sq⟩ L5 B5 := ⟨_, rfl⟩
        rw [← hsm] at HCAL
        have HSM := Lib.hid hsm.symm
        clear hsm
        obtain ⟨sg, se, sL, sB⟩ := sm
        have hx1 := lt_of_heap rep
        have hx2 := lt_of_heap hkm
        have hx3 := (own_cells own).1
        go_wp2_with (first
          | (refine wpList_load_at rfl 97 _ _ _ rfl rfl hld ?_)
          | (refine wpList_row rfl rfl 97 _ _ rfl wr.heap.size _ rfl rfl 97 _ hz5 (by kernel_rfl) (by rfl) (by rfl) ?_
             intro w8 hb8 ho8 hs8
             have e8 : Ext wr w8 := hb8 _ _ (Nat.le_refl _) ez5
             have z0 := cell_at (j := 0) hs8 rfl
             have hlk := kin_lookup kd km clock kindN es w8 (e8.at hkm) hes
             rw [hkf] at hlk
             simp only at hlk
             have ldst := run_loadVar_row (P := Tryz.prog) w8 wr.heap.size _ 97 _ _ _ hs8 Tryz.underlying97 rfl (by kernel_rfl))
          | (refine wpList_load_at rfl 97 _ _ _ rfl rfl ldst ?_)
          | (refine wpList_callv rfl _ rfl _ _ _ rfl f fn rfl hf1 hf2 hf3 _ rfl ?_))
        have hs8' := e8.size
        refine (HCAL.out w8 (house.ext e8) (fun x hx => hbb x (by omega) (by omega) (by omega))).mono ?_
        rintro e wc ⟨x, y, rfl, kc, hgood⟩
        refine ⟨_, rfl, ?_⟩
        have hnb : ¬ base ga := fun hx => (hba ga hx).2.2 rfl
        have hnk : ¬ base km := fun hx => (hba km hx).2.1 rfl
        have hnr : ¬ base (w.heap.size + 1) := fun hx => by have := hba _ hx; omega
        have hnc : ¬ base w.heap.size := fun hx => by have := hba _ hx; omega
        have ownc := own_fra (own_ext own e8) kc (fun b hb => by
          have : ga = b := by injection hb
          subst this
          exact hnb)
        have repc := kc.at (e8.at rep) hnr
        have cmdc := kc.at (e8.at cmd) hnc
        have kmc := kc.at (e8.at hkm) hnk
        have extc : Ext w wc := FrA.ext0 (Ext.trans ext e8) kc (fun x hx => by have := hba x hx; omega)
        clear hlk ldst z0 hs8 hz5 ez5 hld rep cmd hkm ho8 hb8 kc
        by_cases hse : se = 0
        · subst hse
          obtain ⟨hxy, p6, m6, pb6, g6, hH6⟩ := hgood rfl
          have HXY := Lib.hid hxy
          clear hgood hxy
          go_wp2_with (first
            | (refine wpList_newrow rfl 100 rfl (.cells #[.int .i64 0, .int .i64 0] 100) _ rfl (by go_simp) ?_
               intro w9 e9 hr9)
            | (refine wpList_row rfl rfl 100 _ _ rfl wc.heap.size _ rfl rfl 100 _ hr9 (by kernel_rfl) (by rfl) (by rfl) ?_
               intro w10 hb10 ho10 hs10
               have e10 : Ext wc w10 := hb10 _ _ (Nat.le_refl _) e9
               have own10 := own_ext ownc e10
               have hth := own_there own10 hkn
               have ldg := run_loadVar_row (P := Tryz.prog) w10 wc.heap.size _ 100 _ _ _ hs10 Tryz.underlying100 rfl (by kernel_rfl))
            | (refine wpList_load_at rfl 100 _ _ _ rfl rfl ldg ?_)
            | (refine wpList_mid rfl rfl 100 _ _ rfl ga (gl.length * 2) #[.int .i64 x, .int .i64 y] rfl rfl hth (by kernel_rfl) (by simp [Value.oneCell']) ?_))
          obtain ⟨own11, k11⟩ := own_got own10 hkn x y
          have hgn : ∀ k, k ≠ ga → k ∉ [ga] := fun k hk => by simpa using hk
          refine ⟨⟨gl.length + 1, by omega, by go_num, p6, m6, pb6, g6, sL, sB, gl ++ [(x, y)], by simp, ?_, (hH6.ext e10).keep k11 (fun z hz => by rw [List.mem_singleton.1 hz]; exact hnb), (Keep.trans_fresh (S := []) (Keep.of_ext (Ext.trans extc e10)) k11 (fun z hz => by right; rw [List.mem_singleton.1 hz]; omega)).ext, k11.at (e10.at cmdc) (hgn _ (by omega)), k11.at (e10.at repc) (hgn _ (by omega)), ⟨es, clock, k11.at (e10.at kmc) (hgn _ (by omega)), hes⟩, own11⟩, by simp [intOf]; omega⟩
          rw [RUN.out, runM_good _ _ _ _ _ _ (by rw [HSM.out]), HSM.out, HXY.out, show (((gl.length + 1 : Nat)) : Int) = (gl.length : Int) + 1 by omega]
        · have hse1 : (se == 0) = false := by simpa using hse
          have hse2 : (se != 0) = true := by simpa using hse
          clear hgood
          go_wp2_with (first
            | (refine wpList_newrow rfl 100 rfl (.cells #[.int .i64 0, .int .i64 0] 100) _ rfl (by go_simp) ?_
               intro w9 e9 hr9)
            | (refine wpList_row rfl rfl 100 _ _ rfl wc.heap.size _ rfl rfl 100 _ hr9 (by kernel_rfl) (by rfl) (by rfl) ?_
               intro w10 hb10 ho10 hs10
               have e10 : Ext wc w10 := hb10 _ _ (Nat.le_refl _) e9
               have hr10 := e10.at repc)
            | (refine wpList_row rfl rfl 88 _ _ rfl (w.heap.size + 1) _ rfl rfl 88 _ hr10 (by kernel_rfl) (by rfl) (by rfl) ?_
               intro w11 hb11 ho11 hs11))
          exact ret_cell (w.heap.size + 1) 88 _ _ _ rfl rfl hs11 Tryz.underlying88 rfl (by kernel_rfl) rfl (by
            have e11 : Ext w w11 := hb11 _ _ (by omega) (Ext.trans extc e10)
            have hrun := RUN.out
            rw [runM_bad _ _ _ _ _ _ (by rw [HSM.out]; exact hse), HSM.out] at hrun
            rw [HR.out, apply_bad HN.out L B hrun hse]
            exact ⟨_, p, m, pb, g, rfl, FrA.of_ext e11, slAt_nil _ _ _, h.ext e11⟩)
    · have hk' : gl.length = l.length := by omega
      have HK := Lib.hid hk'
      have k3 : decide ((gl.length : Int) < (l.length : Int)) = false := by simp; omega
      have k3n : decide (gl.length < l.length) = false := by simp; omega
      have hrow := ext.at h.row
      have ldh := load_house house.row
      have RUN := Lib.hid run
      clear run hk' hk hkn q4
      go_wp2_with (first
        | (refine wpList_load_at rfl 38 _ _ _ rfl rfl ldh ?_)
        | (refine wpList_row rfl rfl 38 _ _ rfl q _ rfl rfl 78 _ hrow (by kernel_rfl) (by rfl) (by rfl) ?_
           intro w8 hb8 ho8 hs8
           have hr8 := (ho8 (w.heap.size + 1) (by omega)).trans rep)
        | (refine wpList_row rfl rfl 88 _ _ rfl (w.heap.size + 1) _ rfl rfl 88 _ hr8 (by kernel_rfl) (by rfl) (by rfl) ?_
           intro w9 hb9 ho9 hs9))
      exact ret_cell (w.heap.size + 1) 88 _ _ _ rfl rfl hs9 Tryz.underlying88 rfl (by kernel_rfl) rfl (by
        have HN2 := HN.out
        have hrun := RUN.out
        rw [HK.out, List.drop_length] at hrun
        rw [HR.out, apply_good HN2 L B (hrun.trans rfl)]
        have BQ := hb8 q wr (Nat.le_refl _) (Below.refl _ _)
        have KQ : Keep [q] wr w8 := ⟨BQ.os, BQ.tape, BQ.output, BQ.size, fun k _ hk => ho8 k (by simpa using hk)⟩
        have BZ := hb9 (w.heap.size + 1) w8 (Nat.le_refl _) (Below.refl _ _)
        have KZ : Keep [w.heap.size + 1] w8 w9 := ⟨BZ.os, BZ.tape, BZ.output, BZ.size, fun k _ hk => ho9 k (by simpa using hk)⟩
        have F9 : FrA (fun x => x = q) w w9 := fra_keep (fra_keep (FrA.of_ext ext) KQ (fun x hx => .inl (List.mem_singleton.1 hx))) KZ (fun x hx => .inr (by rw [List.mem_singleton.1 hx]; omega))
        have KA : Keep [q, w.heap.size + 1] wr w9 := (KQ.mono (fun x hx => by simp at hx ⊢; omega)).trans (KZ.mono (fun x hx => by simp at hx ⊢; omega))
        obtain ⟨b1, b2, b3, b4, b5⟩ := house.lo
        have b1' := hba _ b1
        have b2' := hba _ b2
        have b3' := hba _ b3
        have b4' := hba _ b4
        have hgaw : w.heap.size ≤ ga := by
          rcases own.2 with h4 | ⟨b, cp, cur, hv, hb, _⟩
          · cases h4.1
          · injection hv with hv; injection hv with hv; injection hv with hv; rw [hv]; exact hb
        have own9 := own_fra own (show FrA (fun x => x = q ∨ x = w.heap.size + 1) wr w9 from ⟨KA.os, KA.tape, KA.output, KA.size, fun k hk hA => KA.block k hk (by simpa using hA)⟩) (fun b hb => by
          have : ga = b := by injection hb
          subst this
          rintro (hx | hx)
          · omega
          · have := own_row own
            obtain ⟨cur, hrow2⟩ := this
            rw [hx, rep] at hrow2
            injection hrow2 with hrow2
            injection hrow2 with _ h2
            exact absurd h2 (by decide))
        refine ⟨_, p5, m5, pb5, g5, rfl, F9, ?_, ⟨KZ.at hs8 (by simp; omega), house.led.keep KA (by simp; omega) (by simp; omega), house.book.keep KA (by simp; omega) (fun x hx => by have := hba _ (b5 x hx); simp; omega), house.ok⟩⟩
        have := SlAt.of_own own9
        rw [gtK_full HK.out] at this
        simp only [HK.out]
        exact this)
end Go.Proofs.YtahdgojcebajkaaGreat
