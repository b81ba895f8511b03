/- MachinesBatch: what a command does, step by step; the walk. Commands that come in, opened: slices of slices of steps. A machine's state, walked; two states that say the same. -/
import Derived.Test.YtahdgojcebajkaaGreatMv
import Derived.Test.YtahdgojcebajkaaGreatMade
set_option maxHeartbeats 12800000
set_option maxRecDepth 100000
namespace Go.Proofs.YtahdgojcebajkaaGreat
open Go.Joins Go.Deep Go.WideElems Go.Maps Go.ChangeShapes Go.WideShapes Go.ChangeAt Go.RowKit Go.Rg Go.BigFrame
abbrev Cmd := Value × List Stp
def Cmd.cells (x : Cmd) : List Value := [x.1]
def Zcw (w : World) (x : Cmd) : Prop := Zcx w 10 x.1 x.2.length (V7 x.2) /\ ∀ s ∈ x.2, s.In
theorem Zcw.ext {w w' : World} {x : Cmd} (h : Zcw w x) (k : Ext w w') : Zcw w' x := ⟨h.1.ext k, h.2⟩
theorem Zfg (l : List Cmd) (k : Nat) (hk : k < l.length) : (l.flatMap Cmd.cells)[k]? = some (l[k]'hk).1 := by
 have := Zcd Cmd.cells 1 (fun _ => rfl) l k 0 hk (by omega)
 rw [Nat.mul_one, Nat.add_zero] at this
 rw [this]
 rfl
theorem list10 {α : Type} {cs : List α} (h : cs.length = 10) : ∃ c0 c1 c2 c3 c4 c5 c6 c7 c8 c9, cs = [c0, c1, c2, c3, c4, c5, c6, c7, c8, c9] := by
 match cs, h with
 | [c0, c1, c2, c3, c4, c5, c6, c7, c8, c9], _ => exact ⟨c0, c1, c2, c3, c4, c5, c6, c7, c8, c9, rfl⟩
section
variable {H : Type} {enc : TypeId × Value -> H} {w : World} {base : Nat} {spare : Nat -> Bool} {held : Bool}
theorem open_step {fuel : Nat} {cs : List Value} {x : DataW H × List MemPlace} (h : DataW.trod enc Tryz.prog w base spare held fuel 97 cs = some x) : ∃ a : Stp, cs = a.cells /\ a.In := by
 have hu := Tryz.underlying97
 have hl := (DataW.trod_struct hu h).choose_spec.choose_spec.2.2.1
 obtain ⟨c0, c1, c2, c3, c4, c5, c6, c7, c8, c9, rfl⟩ := list10 (hl.trans (by kernel_rfl))
 obtain ⟨_, _, h0⟩ := U3 hu h 0 0 1 _ rfl (by kernel_rfl)
 obtain ⟨_, _, h1⟩ := U3 hu h 1 1 1 _ rfl (by kernel_rfl)
 obtain ⟨_, _, h2⟩ := U3 hu h 2 2 1 _ rfl (by kernel_rfl)
 obtain ⟨_, _, h3⟩ := U3 hu h 3 3 1 _ rfl (by kernel_rfl)
 obtain ⟨_, _, h4⟩ := U3 hu h 4 4 1 _ rfl (by kernel_rfl)
 obtain ⟨_, _, h5⟩ := U3 hu h 5 5 1 _ rfl (by kernel_rfl)
 obtain ⟨_, _, h6⟩ := U3 hu h 6 6 1 _ rfl (by kernel_rfl)
 obtain ⟨_, _, hr⟩ := U3 hu h 7 7 2 _ rfl (by kernel_rfl)
 obtain ⟨_, _, h9⟩ := U3 hu h 8 9 1 _ rfl (by kernel_rfl)
 have hv := Tryz.underlying30
 obtain ⟨_, _, h7⟩ := U3 hv hr 0 0 1 _ rfl (by kernel_rfl)
 obtain ⟨_, _, h8⟩ := U3 hv hr 1 1 1 _ rfl (by kernel_rfl)
 simp only [List.drop_succ_cons, List.drop_zero, List.take_succ_cons, List.take_zero] at h0 h1 h2 h3 h4 h5 h6 h7 h8 h9
 obtain ⟨x0, rfl, _⟩ := Ut Tryz.underlying95 h0
 obtain ⟨x1, rfl, _⟩ := Ut Tryz.underlying27 h1
 obtain ⟨x2, rfl, _⟩ := Ut Tryz.underlying27 h2
 obtain ⟨x3, rfl, _⟩ := Ut Tryz.underlying28 h3
 obtain ⟨x4, rfl, _⟩ := Ut Tryz.underlying28 h4
 obtain ⟨x5, rfl, w5⟩ := Ut Tryz.underlying2 h5
 obtain ⟨x6, rfl, w6⟩ := Ut Tryz.underlying2 h6
 obtain ⟨x7, rfl, w7⟩ := Ut Tryz.underlying2 h7
 obtain ⟨x8, rfl, w8⟩ := Ut Tryz.underlying2 h8
 obtain ⟨x9, rfl, _⟩ := Ut Tryz.underlying26 h9
 exact ⟨⟨x0, x1, x2, x3, x4, x5, x6, x7, x8, x9⟩, rfl, (bounds_i64 w5).2, (bounds_i64 w6).2, (bounds_i64 w7).2, (bounds_i64 w8).2⟩
theorem Zh2 {fuel : Nat} {cs : List Value} {x : DataW H × List MemPlace} (h : DataW.trod enc Tryz.prog w base spare held fuel 76 cs = some x) : ∃ a : Cmd, cs = a.cells /\ Zcw w a := by
 have hu := Tryz.underlying76
 have hl := (DataW.trod_struct hu h).choose_spec.choose_spec.2.2.1
 obtain ⟨v, rfl⟩ := List.length_eq_one_iff.1 (hl.trans (by kernel_rfl))
 obtain ⟨_, _, h0⟩ := U3 hu h 0 0 1 _ rfl (by kernel_rfl)
 simp only [List.drop_zero, List.take_succ_cons, List.take_zero] at h0
 obtain ⟨v', l, e, ha, ho⟩ := Zh3 Stp.cells Stp.In 10 (by omega) (fun _ => rfl) Tryz.underlying74 (by kernel_rfl) (fun n cs y => open_step) h0
 cases e
 exact ⟨(v, l), rfl, ha, ho⟩
theorem open_cmd {b0 : Nat} {r : Reach} {v : Value} {d : DataW H} {p : List MemPlace} (hv : Value.okWide Tryz.prog w r b0 76 v) (h : DataW.Trod enc Tryz.prog w base spare held 76 v d p) :
 ∃ a : Cmd, v = .agg #[a.1] /\ Zcw w a := by
 obtain ⟨cs, rfl, hsz⟩ := okWide_struct Tryz.underlying76 hv
 obtain ⟨fuel, hf⟩ := h
 obtain ⟨a, ha, hb⟩ := Zh2 hf
 refine ⟨a, ?_, hb⟩
 obtain ⟨l⟩ := cs
 simp only [Value.cells] at ha
 have : l = a.cells := by simpa using ha
 subst this
 rfl
theorem open_cmds {b0 : Nat} {r : Reach} {v : Value} {d : DataW H} {p : List MemPlace} (hv : Value.okWide Tryz.prog w r b0 92 v) (h : DataW.Trod enc Tryz.prog w base spare held 92 v d p) :
 ∃ l : List Cmd, Zcx w 1 v l.length (l.flatMap Cmd.cells) /\ ∀ x ∈ l, Zcw w x := by
 obtain ⟨A, n, cap, rfl⟩ := okWide_slice Tryz.underlying92 hv
 obtain ⟨fuel, hf⟩ := h
 obtain ⟨v', l, e, ha, ho⟩ := Zh3 Cmd.cells (Zcw w) 1 (by omega) (fun _ => rfl) Tryz.underlying92 (by kernel_rfl) (fun n cs y => Zh2) hf
 simp only [Value.cells] at e
 cases e
 exact ⟨l, ha, ho⟩
end
end Go.Proofs.YtahdgojcebajkaaGreat
namespace Go.Rg
open Go.RowKit
section
variable {P : Program} {ops : Array Oper} {md : Region.Mode}
theorem Xl {n f : Nat} {L : Array Bool -> Act -> World -> Prop} {listed : Array Bool} {a : Act} {w0 w : World} (i : Nat) (o : Oper) (v : Value) (hg : o.guard = none)
 (hr : Region.ready md ops listed = [i]) (hin : i < n) (ho : ops[i]? = some o) (hl : ∀ w', Ext w w' -> (execOp a.eval o).run P w' = .ok (.value v) w')
 (h : ∀ w' : World, Ext w0 w' -> Ext w w' -> wpX P md ops w0 n L f (listed.setIfInBounds i true) (a.put o.dst v) w') : wpX P md ops w0 n L (f + 1) listed a w := by
 refine X6 i o hr hin ho (by simp [Region.wanted, hg]) fun w' h0 hw' => ?_
 unfold xRun
 rw [hl w' hw']
 exact ⟨h0, h w' h0 hw'⟩
end
end Go.Rg
namespace Go.Proofs.YtahdgojcebajkaaGreat
open Go.RowKit Go.Rg Go.BigFrame
def StSl (w : World) (base : Nat) (v : Value) (L : Led) (B : Bk) : Prop :=
 ∃ v1 v2 v3, v = .agg #[v1, v2, v3, .int .u64 B.next] /\ SlAt w base 1 v1 (Zu L).length ((Zu L).map (.int .u8)) /\ SlAt w base 5 v2 (Yn L.lines).length (Yu (Yn L.lines)) /\ Zay w base v3 B.offs
def RetSt (L : Led) (B : Bk) (w : World) (e : Ending) (w' : World) : Prop := ∃ v, e = .returned v /\ Ext w w' /\ StSl w' w.heap.size v L B
theorem StSl.ext {w w' : World} {base : Nat} {v : Value} {L : Led} {B : Bk} (h : StSl w base v L B) (k : Ext w w') : StSl w' base v L B :=
 let ⟨v1, v2, v3, e, h1, h2, h3⟩ := h
 ⟨v1, v2, v3, e, h1.ext k, h2.ext k, SlAt.ext h3 k⟩
theorem StSl.fra2 {A : Nat -> Prop} {w w' : World} {base : Nat} {v : Value} {L : Led} {B : Bk} (h : StSl w base v L B) (k : FrA A w w') (hS : ∀ x, A x -> x < base \/ w.heap.size <= x) : StSl w' base v L B :=
 let ⟨v1, v2, v3, e, h1, h2, h3⟩ := h
 ⟨v1, v2, v3, e, h1.fra2 k hS, h2.fra2 k hS, SlAt.fra2 h3 k hS⟩
theorem Zbz (q p m pb : Nat) (g : Option Nat) (L : Led) (B : Bk) (w : World) (h : IsM w q p m pb g L B) : Calls Tryz.prog 33 #[.pointer (some ⟨q, 0, none⟩)] w (RetSt L B w) := by
 have h0 := Zb w (.cells #[.slice none 0 0, .slice none 0 0, .slice none 0 0, .int .u64 0] 83)
 have e0 := Zc w (.cells #[.slice none 0 0, .slice none 0 0, .slice none 0 0, .int .u64 0] 83)
 go_enter Tryz.func33, Tryz.ntmps33
 go_wp2_with fail
 refine (Zc5 q p m pb g L B _ (h.ext e0)).mono ?_
 rintro e w3 ⟨rfl, e3⟩
 have h3 := e3.at h0
 have e03 := Xt e0 e3
 have hM := h.ext e03
 clear h0 e0 e3 h
 go_wp2_with fail
 refine Zf Zk 25 [5, 11, 17, 23, 24] (by kernel_rfl) (by kernel_rfl) ?_
 intro w1 hw1
 have d0 : ∀ u : ExtOf w1, u.to.cell? ⟨q, 0, none⟩ = _ := fun u => Za (j := 0) ((Xt hw1 u.h).at hM.row) rfl
 have d1 : ∀ u : ExtOf w1, u.to.cell? ⟨q, 1, none⟩ = _ := fun u => Za (j := 1) ((Xt hw1 u.h).at hM.row) rfl
 simp only [Zj, Rg.hsB, Nat.reduceBEq, Nat.reduceAdd, ↓reduceIte]
 repeat (go_big_quiet_step (fail))
 refine wpQuiet_nil ?_
 clear d0 d1
 refine Z2 5 92 _ #[.pointer (some ⟨p, 0, none⟩)] _ (by rfl) _ _ (by rfl) Tryz.func92 rfl rfl (by kernel_rfl) (by rfl) (by kernel_rfl) (by decide) ?_
 intro w4 h04 h4
 refine (Ze3 p m L w4 (hM.led.ext h04)).mono ?_
 rintro e w5 ⟨v1, rfl, e5, s1⟩
 have s1' := s1
 obtain ⟨A1, k1, rfl, _⟩ := s1'
 refine ⟨_, rfl, Xt h04 e5, ?_⟩
 refine Z2 11 25 _ #[.pointer (some ⟨p, 0, none⟩)] _ (by rfl) _ _ (by rfl) Tryz.func25 rfl rfl (by kernel_rfl) (by rfl) (by kernel_rfl) (by decide) ?_
 intro w6 h06 h6
 refine (Zcb p m L w6 (hM.led.ext h06) hM.ok.wf).mono ?_
 rintro e w7 ⟨v2, rfl, e7, s2⟩
 obtain ⟨A2, k2, rfl⟩ := Z6 s2
 refine ⟨_, rfl, Xt h06 e7, ?_⟩
 refine Z2 17 27 _ #[.pointer (some ⟨pb, 0, none⟩)] _ (by rfl) _ _ (by rfl) Tryz.func27 rfl rfl (by kernel_rfl) (by rfl) (by kernel_rfl) (by decide) ?_
 intro w8 h08 h8
 refine (Zlq pb g B w8 (hM.book.ext h08)).mono ?_
 rintro e w9 ⟨v3, rfl, e9, s3⟩
 have s3' := s3
 obtain ⟨A3, k3, rfl, _⟩ := s3'
 refine ⟨_, rfl, Xt h08 e9, ?_⟩
 refine Z2 23 32 _ #[.pointer (some ⟨pb, 0, none⟩)] _ (by rfl) _ _ (by rfl) Tryz.func32 rfl rfl (by kernel_rfl) (by rfl) (by kernel_rfl) (by decide) ?_
 intro w10 h010 h10
 refine (bnext_any pb g B w10 (hM.book.ext h010)).mono ?_
 rintro e w11 ⟨rfl, e11⟩
 refine ⟨_, rfl, Xt h010 e11, ?_⟩
 refine Xl 24 _ (.agg #[.slice A1 (Zu L).length k1, .slice A2 (Yn L.lines).length k2, .slice A3 B.offs.length k3, .int .u64 B.next]) rfl (by kernel_rfl) (by decide) rfl (fun w' _ => by go_simp) ?_
 intro w12 h012 h12
 refine Zi (by kernel_rfl) ?_
 intro w13 e13 e13'
 simp only [Act.put, Rg.puB]
 simp only [List.getElem_toArray, List.getElem_cons_succ, List.getElem_cons_zero, Rg.puB]
 have h13 := e13.at h3
 have z3 := e03.size
 have z4 := h04.size
 have z6 := h06.size
 have z8 := h08.size
 have f11 : Ext w11 w13 := Xt h12 e13'
 have f9 : Ext w9 w13 := Xt h10 (Xt e11 f11)
 have f7 : Ext w7 w13 := Xt h8 (Xt e9 f9)
 have f5 : Ext w5 w13 := Xt h6 (Xt e7 f7)
 have s1 := (s1.ext f5).low (show w.heap.size + 1 <= w4.heap.size by have := Zg h3; omega)
 have s2 := ((SlAt.of_own s2).ext f7).low (show w.heap.size + 1 <= w6.heap.size by have := Zg h3; omega)
 have s3 := SlAt.low (SlAt.ext s3 f9) (show w.heap.size + 1 <= w8.heap.size by have := Zg h3; omega)
 clear f5 f7 f9 f11 e5 e7 e9 e11 h4 h6 h8 h10 h12 h04 h06 h08 h010 h012
 go_wp2_with (refine Zd rfl rfl 83 _ _ rfl w.heap.size _ rfl rfl 83 _ h13 (by kernel_rfl) (by rfl) (by rfl) ?_
              intro w14 hb14 ho14 hs14)
 have k14 : Keep [w.heap.size] w13 w14 := by
  have kz := hb14 0 w13 (Nat.zero_le _) (Below.refl 0 w13)
  exact ⟨kz.os, kz.tape, kz.output, kz.size, fun k _ hk => ho14 k (by simpa using hk)⟩
 have hfr : FrA (fun x => x = w.heap.size) w13 w14 := ⟨k14.os, k14.tape, k14.output, k14.size, fun k hk hA => k14.block k hk (by simpa using hA)⟩
 exact Yl w.heap.size 83 _ _ _ rfl rfl hs14 Tryz.underlying83 rfl (by kernel_rfl) rfl
  ⟨_, rfl, (Keep.trans_fresh (S := []) (Kx (Xt e03 e13)) k14 (fun x hx => by right; simp at hx; omega)).ext, _, _, _, rfl, (s1.fra2 hfr (fun x hx => by omega)).low (by omega), (s2.fra2 hfr (fun x hx => by omega)).low (by omega), SlAt.low (SlAt.fra2 s3 hfr (fun x hx => by omega)) (by omega)⟩
theorem Zkz (v : Value) (l : List Cmd) (w : World) (h : Zcx w 1 v l.length (l.flatMap Cmd.cells)) (hok : ∀ x ∈ l, Zcw w x) : Calls Tryz.prog 38 #[v] w (fun e w' => (∃ b, e = .returned (.bool b)) /\ Ext w w') := by
 obtain ⟨A, cap, rfl, h1, h2, h3, h4⟩ := h
 have hn63 : (l.length : Int) <= 9223372036854775807 := by unfold maxLen at h2; omega
 by_cases hg : (l.length : Int) > 60
 · have hg' : decide ((l.length : Int) > 60) = true := by simpa using hg
   go_enter Tryz.func38, Tryz.ntmps38
   go_wp2
   go_ret
   exact ⟨⟨_, rfl⟩, Ext.refl _⟩
 have hg' : decide ((l.length : Int) > 60) = false := by simpa using hg
 go_enter Tryz.func38, Tryz.ntmps38
 go_wp2
 go_loopw [3, 4] (fun nv iv wr => ∃ (z : Int) (k : Nat), k <= l.length /\ nv = .int .i64 z /\ iv = .int .i64 k /\ Ext w wr) (fun _ iv _ => l.length - (intOf iv).toNat)
 case atStart => exact ⟨0, 0, Nat.zero_le _, rfl, rfl, Ext.refl _⟩
 obtain ⟨z, k, hk, rfl, rfl, er⟩ := hrel
 by_cases hkn : k < l.length
 · rcases h4 with h4 | ⟨g, off, rfl, hlt, hcell⟩
   · omega
   have hj1 : (0 : Int) <= (k : Int) := by omega
   have hj2 : (k : Int) < (l.length : Int) := by omega
   have hc : wr.cell? ⟨g, off + k, none⟩ = some (l[k]'hkn).1 := (Zh (er.block hlt)).trans (hcell k _ (Zfg l k hkn))
   obtain ⟨⟨B, cap', hv, _⟩, _⟩ := hok _ (List.getElem_mem hkn)
   rw [hv] at hc
   generalize (l[k]'hkn).2.length = n' at *
   clear hcell hok hv h3
   go_wp2
   exact ⟨⟨_, k + 1, by omega, rfl, by go_num, er⟩, by simp [intOf]; omega⟩
 have hk' : k = l.length := by omega
 subst hk'
 clear h4 h3 hok hg hg'
 go_wp2
 go_ret
 exact ⟨⟨_, rfl⟩, er⟩
theorem same_u8 (b1 b2 : Nat) (v1 v2 : Value) (l : List Int) (w : World) (h : SlAt w b1 1 v1 l.length (l.map (Value.int .u8))) (k : SlAt w b2 1 v2 l.length (l.map (Value.int .u8))) :
 Calls Tryz.prog 133 #[v1, v2] w (Ret (.bool true) w) := by
 obtain ⟨A, cap, rfl, h1, h2, h3, h4⟩ := h
 obtain ⟨A', cap', rfl, k1, k2, k3, k4⟩ := k
 have hn63 : (l.length : Int) <= 9223372036854775807 := by unfold maxLen at h2; omega
 go_enter Tryz.func133, Tryz.ntmps133
 go_wp2
 go_loopw [5] (fun i wr => ∃ k : Nat, k <= l.length /\ i = .int .i64 k /\ Ext w wr) (fun i _ => l.length - (intOf i).toNat)
 case atStart => exact ⟨0, Nat.zero_le _, rfl, Ext.refl _⟩
 obtain ⟨k, hk, rfl, e1⟩ := hrel
 by_cases hkn : k < l.length
 · rcases h4 with h4 | ⟨g, rfl, hb, hlt, hcell⟩
   · omega
   rcases k4 with k4 | ⟨g', rfl, hb', hlt', hcell'⟩
   · omega
   have hj1 : (0 : Int) <= (k : Int) := by omega
   have hj2 : (k : Int) < (l.length : Int) := by omega
   have hld : ∀ wq, Ext wr wq -> wq.cell? ⟨g, k, none⟩ = some (.int .u8 (l[k]'hkn)) := fun wq q => by rw [Zh ((Xt e1 q).block hlt)]; exact hcell k _ (by simp [hkn])
   have hld' : ∀ wq, Ext wr wq -> wq.cell? ⟨g', k, none⟩ = some (.int .u8 (l[k]'hkn)) := fun wq q => by rw [Zh ((Xt e1 q).block hlt')]; exact hcell' k _ (by simp [hkn])
   clear hcell hcell' h3 k3
   generalize (l[k]'hkn) = x at *
   go_wp2_with fail
   refine Yg Zk [] (by kernel_rfl) (by kernel_rfl) ?_
   intro w1 hw1
   have ld1 : ∀ u : ExtOf w1, u.to.cell? ⟨g, k, none⟩ = _ := fun u => hld u.to (Xt hw1 u.h)
   have ld2 : ∀ u : ExtOf w1, u.to.cell? ⟨g', k, none⟩ = _ := fun u => hld' u.to (Xt hw1 u.h)
   clear hld hld'
   simp only [Zj, Rg.hsB, Nat.reduceAdd, ↓reduceIte]
   repeat (go_big_quiet_step (fail))
   refine wpQuiet_nil ?_
   refine Vb (by kernel_rfl) ?_
   intro w4 e4 e4'
   try simp only [Act.put, List.getElem_toArray, List.getElem_cons_succ, List.getElem_cons_zero, Rg.puB]
   clear ld1 ld2 hw1
   go_wp2
   exact ⟨⟨k + 1, by omega, by go_num, Xt e1 e4⟩, by simp [intOf]; omega⟩
 have hk' : k = l.length := by omega
 subst hk'
 clear h3 k3 h4 k4
 go_wp2
 go_ret
 exact ⟨rfl, e1⟩
theorem sameP_any (b1 b2 : Nat) (v1 v2 : Value) (l : List Int) (w : World) (h : SlAt w b1 1 v1 l.length (l.map (Value.int .u8))) (k : SlAt w b2 1 v2 l.length (l.map (Value.int .u8))) : Calls Tryz.prog 95 #[v1, v2] w (Ret (.bool true) w) := by
 have hs := same_u8 b1 b2 v1 v2 l w h k
 obtain ⟨A, cap, rfl, _⟩ := h
 obtain ⟨A', cap', rfl, _⟩ := k
 go_enter Tryz.func95, Tryz.ntmps95
 go_wp2_with fail
 refine hs.mono ?_
 rintro e w1 ⟨rfl, e1⟩
 go_wp2
 go_ret
 exact ⟨rfl, e1⟩
theorem Zks (b1 b2 : Nat) (v1 v2 : Value) (L : Led) (B : Bk) (w : World) (h : StSl w b1 v1 L B) (k : StSl w b2 v2 L B) : Calls Tryz.prog 41 #[v1, v2] w (Ret (.bool true) w) := by
 obtain ⟨p1, l1, o1, rfl, hp, hl, ho⟩ := h
 obtain ⟨p2, l2, o2, rfl, kp, kl, ko⟩ := k
 have h0 := Zb w (.cells #[p1, l1, o1, .int .u64 B.next] 83)
 have e0 := Zc w (.cells #[p1, l1, o1, .int .u64 B.next] 83)
 have s0 := size_alloc w (.cells #[p1, l1, o1, .int .u64 B.next] 83)
 have h1 := Zb (w.alloc (.cells #[p1, l1, o1, .int .u64 B.next] 83)) (.cells #[p2, l2, o2, .int .u64 B.next] 83)
 have e1 := Zc (w.alloc (.cells #[p1, l1, o1, .int .u64 B.next] 83)) (.cells #[p2, l2, o2, .int .u64 B.next] 83)
 have h0 := e1.at h0
 rw [s0] at h1
 have E1 := Xt e0 e1
 clear e0 e1 s0
 go_enter Tryz.func41, Tryz.ntmps41
 have x0 := Za (j := 0) h0 rfl
 have y0 := Za (j := 0) h1 rfl
 go_wp2_with fail
 refine (sameP_any b1 b2 p1 p2 _ _ (hp.ext E1) (kp.ext E1)).mono ?_
 rintro e w2 ⟨rfl, e2⟩
 have x1 := Za (j := 1) (e2.at h0) rfl
 have y1 := Za (j := 1) (e2.at h1) rfl
 clear x0 y0
 go_wp2_with fail
 refine (Zhj b1 b2 l1 l2 _ _ (hl.ext (Xt E1 e2)) (kl.ext (Xt E1 e2))).mono ?_
 rintro e w3 ⟨rfl, e3⟩
 have E3 := Xt E1 (Xt e2 e3)
 have x2 := Za (j := 2) ((Xt e2 e3).at h0) rfl
 have y2 := Za (j := 2) ((Xt e2 e3).at h1) rfl
 clear x1 y1
 go_wp2_with fail
 refine (Zgd b1 b2 o1 o2 _ _ (SlAt.ext ho E3) (SlAt.ext ko E3)).mono ?_
 rintro e w4 ⟨rfl, e4⟩
 have x3 := Za (j := 3) ((Xt e2 (Xt e3 e4)).at h0) rfl
 have y3 := Za (j := 3) ((Xt e2 (Xt e3 e4)).at h1) rfl
 clear x2 y2
 go_wp2_with fail
 go_ret
 exact ⟨rfl, Xt E3 e4⟩
theorem apply_one (s : Stp) (L : Led) (B : Bk) : Yz [s] L B = if (Yf s L B).2.1 ≠ 0 then (((Yf s L B).2.1, 0, []), L, B) else ((0, 0, [(Yf s L B).1]), (Yf s L B).2.2.1, (Yf s L B).2.2.2) := by
 have hn : ¬ ([s].length = 0 \/ 8 < [s].length) := by simp
 by_cases h : (Yf s L B).2.1 = 0
 · rw [if_neg (by simpa using h)]
   exact Zdf (L' := (Yf s L B).2.2.1) hn L B (i := 0) ((Zb2 s [] 0 L B [] h).trans rfl)
 rw [if_pos (by simpa using h)]
 exact Zcg hn L B (Za6 s [] 0 L B [] h) h
theorem Ze0 : ∀ (l : List Stp) (i : Int) (L : Led) (B : Bk) (g : List Gt), (runM l i L B g).1 = 0 -> ∃ t, (runM l i L B g).2.2.1 = g ++ t /\ t.length = l.length
 | [], _, _, _, g, _ => ⟨[], by simp [runM], rfl⟩
 | s :: l, i, L, B, g, h => by
   by_cases hs : (Yf s L B).2.1 = 0
   · rw [Zb2 s l i L B g hs] at h ⊢
     obtain ⟨t, h1, h2⟩ := Ze0 l _ _ _ _ h
     exact ⟨(Yf s L B).1 :: t, by rw [h1]; simp, by simp [h2]⟩
   rw [Za6 s l i L B g hs] at h
   exact absurd h hs
structure AtK (l : List Stp) (L0 : Led) (B0 : Bk) (k : Nat) (L : Led) (B : Bk) (gl : List Gt) : Prop where
 le : k <= l.length
 len : gl.length = k
 run : runM l 0 L0 B0 [] = runM (l.drop k) k L B gl
theorem AtK.start (l : List Stp) (L : Led) (B : Bk) : AtK l L B 0 L B [] := ⟨Nat.zero_le _, rfl, rfl⟩
theorem AtK.bad {l : List Stp} {L0 L : Led} {B0 B : Bk} {k : Nat} {gl : List Gt} (h : AtK l L0 B0 k L B gl) (hn : ¬ (l.length = 0 \/ 8 < l.length)) (hk : k < l.length) (he : (Yf (l[k]'hk) L B).2.1 ≠ 0) :
 Yz l L0 B0 = (((Yf (l[k]'hk) L B).2.1, (k : Int), []), L0, B0) := by
 have hr := h.run
 rw [List.drop_eq_getElem_cons hk, Za6 _ _ _ _ _ _ he] at hr
 exact Zcg hn L0 B0 hr he
theorem AtK.next {l : List Stp} {L0 L : Led} {B0 B : Bk} {k : Nat} {gl : List Gt} (h : AtK l L0 B0 k L B gl) (hk : k < l.length) (he : (Yf (l[k]'hk) L B).2.1 = 0) :
 AtK l L0 B0 (k + 1) (Yf (l[k]'hk) L B).2.2.1 (Yf (l[k]'hk) L B).2.2.2 (gl ++ [(Yf (l[k]'hk) L B).1]) := by
 have hr := h.run
 rw [List.drop_eq_getElem_cons hk, Zb2 _ _ _ _ _ _ he] at hr
 exact ⟨hk, by simp [h.len], by rw [hr, show (((k + 1 : Nat)) : Int) = (k : Int) + 1 by omega]⟩
theorem AtK.got {l : List Stp} {L0 L : Led} {B0 B : Bk} {k : Nat} {gl : List Gt} (h : AtK l L0 B0 k L B gl) (hn : ¬ (l.length = 0 \/ 8 < l.length)) (h0 : (Yz l L0 B0).1.1 = 0) :
 ∃ t, (Yz l L0 B0).1.2.2 = gl ++ t /\ (Yz l L0 B0).1.2.2.length = l.length := by
 by_cases hr : (runM l 0 L0 B0 []).1 = 0
 · obtain ⟨t, h1, h2⟩ := Ze0 (l.drop k) k L B gl (by rw [<- h.run]; exact hr)
   have ha : (Yz l L0 B0).1.2.2 = (runM l 0 L0 B0 []).2.2.1 := by unfold Yz; rw [if_neg hn, if_neg (by simpa using hr)]
   rw [ha, h.run, h1]
   exact ⟨t, rfl, by have := h.le; have := h.len; simp [h2]; omega⟩
 exfalso
 refine hr ?_
 have ha : (Yz l L0 B0).1.1 = (runM l 0 L0 B0 []).1 := by unfold Yz; rw [if_neg hn, if_pos (by simpa using hr)]
 rw [<- ha]; exact h0
theorem AtK.done {l : List Stp} {L0 L : Led} {B0 B : Bk} {gl : List Gt} (h : AtK l L0 B0 l.length L B gl) (hn : ¬ (l.length = 0 \/ 8 < l.length)) : Yz l L0 B0 = ((0, 0, gl), L, B) :=
 Zdf hn L0 B0 (i := 0) (by rw [h.run, List.drop_length]; rfl)
theorem IsM.fraq {w w' : World} {q p m pb : Nat} {g : Option Nat} {L : Led} {B : Bk} (h : IsM w q p m pb g L B) {q2 : Nat} {cs : Array Value} {fr : Nat × Nat} (hr : w.heap[q2]? = some (.cells cs 78 fr)) (k : FrA (fun x => x = q2) w w') (hne : q ≠ q2) : IsM w' q p m pb g L B := by
 have hk : Keep [q2] w w' := ⟨k.os, k.tape, k.output, k.size, fun i hi hn => k.block i hi (by simpa using hn)⟩
 have h1 := Zc9 h.led hr (by decide)
 have h2 := Zar h.book hr (by decide) (by decide)
 exact h.keep hk (by simpa using hne) h1.1 h1.2 h2.1 h2.2
theorem load_cmd {w : World} {g k : Nat} {v : Value} (h : w.cell? ⟨g, k, none⟩ = some v) : (loadVar 76 ⟨g, k, none⟩).run Tryz.prog w = .ok (.agg #[v]) w :=
 Zs w g k 76 [v] _ (fun j u hu => by
  have hj : j = 0 := by have := (List.getElem?_eq_some_iff.1 hu).1; simp at this; exact this
  subst hj
  simp at hu
  subst hu
  simpa using h) Tryz.underlying76 rfl (by kernel_rfl)
theorem Zmm (va : Value) (l : List Cmd) (c : Cmd) (w : World) (ha : Zcx w 1 va l.length (l.flatMap Cmd.cells)) (hla : ∀ x ∈ l, Zcw w x) (hc : Zcw w c) :
 Calls Tryz.prog 7 #[va, .agg #[c.1]] w (Ret (.bool true) w) := by
 have h0 := Zb w (.cells #[c.1] 76)
 have e0 := Zc w (.cells #[c.1] 76)
 have hgr := Zkz va l _ (ha.ext e0) (fun x hx => (hla x hx).ext e0)
 obtain ⟨A, cap, rfl, q1, q2, q3, q4⟩ := ha
 have hn63 : (l.length : Int) <= 9223372036854775807 := by unfold maxLen at q2; omega
 obtain ⟨vc, sc⟩ := c
 obtain ⟨harg, hin⟩ := hc
 simp only at harg hin
 have HARG := Lib.hid harg
 have HIN := Lib.hid (fun s hs => Zku s (hin s hs))
 have HLA := Lib.hid hla
 obtain ⟨C, ccap, hcv, d1, d2, d3, d4⟩ := harg
 subst hcv
 have hm63 : (sc.length : Int) <= 9223372036854775807 := by unfold maxLen at d2; omega
 clear hin hla d3 q3
 go_enter Tryz.func7, Tryz.ntmps7
 go_wp2_with fail
 refine hgr.mono ?_
 rintro e w1 ⟨⟨bg, rfl⟩, e1⟩
 have E1 := Xt e0 e1
 have h1 := e1.at h0
 have c0 := Za (j := 0) h1 rfl
 clear hgr h0 e0 e1
 cases bg with
 | true =>
   go_wp2_with fail
   refine (Jc _).mono ?_
   rintro e wz ⟨rfl, ez⟩
   go_wp2
   go_ret
   exact ⟨rfl, Xt E1 ez⟩
 | false =>
   by_cases hn : sc.length = 0 \/ 8 < sc.length
   · rcases hn with hn | hn
     · rw [hn] at c0
       go_wp2_with fail
       refine (Jc _).mono ?_
       rintro e wz ⟨rfl, ez⟩
       go_wp2
       go_ret
       exact ⟨rfl, Xt E1 ez⟩
     have g1 : decide ((sc.length : Int) > 8) = true := by simp; omega
     go_wp2_with fail
     refine (Jc _).mono ?_
     rintro e wz ⟨rfl, ez⟩
     go_wp2
     go_ret
     exact ⟨rfl, Xt E1 ez⟩
   have g1 : decide ((sc.length : Int) > 8) = false := by simp; omega
   have g2 : ((sc.length : Int) == 0) = false := by rw [beq_eq_false_iff_ne]; omega
   go_wp2_with fail
   refine (Zkf _).mono ?_
   rintro e w2 ⟨q, p, m, pb, g, rfl, e2, hM2, hq2⟩
   have hw1 := Zg h1
   have hE1 := E1.size
   have HN := Lib.hid hn
   clear c0 g1 g2 hn
   go_wp2_with fail
   go_loopw [6] (fun iv wr => ∃ k : Nat, k <= l.length /\ iv = .int .i64 k /\ ∃ p m pb g L B, IsM wr q p m pb g L B /\ Ext w1 wr) (fun iv _ => l.length - (intOf iv).toNat)
   case atStart => exact ⟨0, Nat.zero_le _, rfl, p, m, pb, g, _, _, hM2, e2⟩
   clear hM2 e2
   obtain ⟨k, hk, rfl, p, m, pb, g, L, B, hM, er⟩ := hrel
   by_cases hkn : k < l.length
   · rcases q4 with q4 | ⟨ga, off, rfl, hlt, hcell⟩
     · omega
     have hj1 : (0 : Int) <= (k : Int) := by omega
     have hj2 : (k : Int) < (l.length : Int) := by omega
     have hld := load_cmd ((Zh ((Xt E1 er).block hlt)).trans (hcell k _ (Zfg l k hkn)))
     have hcx := (HLA.out _ (List.getElem_mem hkn)).ext (Xt E1 er)
     generalize (l[k]'hkn) = x at *
     obtain ⟨vx, sx⟩ := x
     simp only at hld
     clear hcell d4
     go_wp2_with (refine Ze rfl 76 _ _ _ rfl rfl hld ?_)
     refine (Zch q p m pb g L B sx vx wr hM hcx.1 (fun s hs => Zku s (hcx.2 s hs))).mono ?_
     rintro e w5 ⟨v5, p', m', pb', g', rfl, f5, _, hM'⟩
     have er' := FrA.ext0 er f5 (fun x (hx : x = q) => by omega)
     clear hld
     go_wp2
     exact ⟨⟨k + 1, by omega, by go_num, p', m', pb', g', _, _, hM', er'⟩, by simp [intOf]; omega⟩
   have hk' : k = l.length := by omega
   subst hk'
   clear q4 hkn
   have hst := Zbz q p m pb g L B wr hM
   go_wp2_with fail
   refine hst.mono ?_
   rintro e w7 ⟨v7, rfl, e7, sst⟩
   have SST := Lib.hid sst
   obtain ⟨v1, v2, v3, rfl, t1, t2, t3⟩ := sst
   obtain ⟨A1, k1, rfl, _⟩ := t1
   obtain ⟨A2, k2, rfl, _⟩ := t2
   obtain ⟨A3, k3, rfl, _⟩ := t3
   have hrs := er.size
   have hq7 := Zg hM.row
   have hM7 := hM.ext e7
   have E7 := Xt E1 (Xt er e7)
   have h7 := (Xt er e7).at h1
   have hs7 := e7.size
   clear hst hM e7 er h1 E1
   go_wp2_with (first
    | (refine Zn rfl 83 rfl (.cells #[.slice none 0 0, .slice none 0 0, .slice none 0 0, .int .u64 0] 83) _ rfl (by go_simp) ?_
       intro w8 e8 h8)
    | (refine Zd rfl rfl 83 _ _ rfl w7.heap.size _ rfl rfl 83 _ h8 (by kernel_rfl) (by rfl) (by rfl) ?_
       intro w9 hb9 ho9 h9))
   have e9 : Ext w7 w9 := hb9 _ _ (Nat.le_refl _) e8
   clear hb9 ho9 h8 e8
   refine (mcopy_any q p m pb g L B w9 (hM7.ext e9)).mono ?_
   rintro e w10 ⟨q2, p2, m2, pb2, g2, rfl, e10, hN10, hq10⟩
   have hM10 := (hM7.ext e9).ext e10
   have h710 := (Xt e9 e10).at h7
   have E10 := Xt E7 (Xt e9 e10)
   have h910 := e10.at h9
   have ldc := run_loadVar_row (P := Tryz.prog) w10 w.heap.size _ 76 _ _ _ h710 Tryz.underlying76 rfl (by kernel_rfl)
   obtain ⟨r, hr⟩ : ∃ r, r = Yz sc L B := ⟨_, rfl⟩
   have hap := Zch q p m pb g L B sc _ w10 hM10 (HARG.out.ext E10) HIN.out
   rw [<- hr] at hap
   have HR := Lib.hid hr.symm
   obtain ⟨⟨er, ir, gl⟩, L', B'⟩ := r
   have s9 := Zg h9
   have s10 := Zg hN10.row
   have s79 := e9.size
   have s910 := e10.size
   have SST := Lib.hid (SST.out.ext e9)
   have F10 := Lib.hid (FrA.of_ext (A := fun x => x = q \/ x = q2) e10)
   clear hr hM7 h7 E7 e9 e10 h9
   go_wp2_with (refine Ze rfl 76 _ _ _ rfl rfl ldc ?_)
   refine hap.mono ?_
   rintro e w11 ⟨vg, p', m', pb', g', rfl, f11, sg, hM11⟩
   simp only at sg hM11
   have SG := Lib.hid sg
   obtain ⟨G, gcap, rfl, g1, g2', _⟩ := sg
   have hg63 : (gl.length : Int) <= 9223372036854775807 := by unfold maxLen at g2'; omega
   have hqq : q ≠ q2 := by omega
   have s11 := f11.size
   have hN11 := hN10.fraq hM10.row f11 (fun e => hqq e.symm)
   have hnm : ∀ (x : Nat) (cs : Array Value) (ty : TypeId), w10.heap[x]? = some (.cells cs ty (0, 0)) -> ty ≠ 78 -> x ≠ q := fun x cs ty hx ht e => by
    subst e
    rw [hM10.row] at hx
    simp only [Option.some.injEq, Obj.cells.injEq] at hx
    exact ht hx.2.1.symm
   have h711 := f11.at h710 (hnm _ _ _ h710 (by decide))
   have h911 := f11.at h910 (hnm _ _ _ h910 (by decide))
   have E11 := FrA.ext0 E10 f11 (fun x (hx : x = q) => by omega)
   have F11 := Lib.hid (F10.out.trans (f11.mono (fun x (hx : x = q) => Or.inl hx)))
   have s1011 := f11.size
   clear ldc hap h710 h910 hnm hN10 hM10 f11 E10 F10
   go_wp2_with (first
    | (refine Zn rfl 88 rfl (.cells #[.int .i64 0, .int .i64 0, .slice none 0 0] 88) _ rfl (by go_simp) ?_
       intro w12 e12 h12)
    | (refine Zd rfl rfl 88 _ _ rfl w11.heap.size _ rfl rfl 88 _ h12 (by kernel_rfl) (by rfl) (by rfl) ?_
       intro w13 hb13 ho13 h13))
   have e13 : Ext w11 w13 := hb13 _ _ (Nat.le_refl _) e12
   have hM13 := hM11.ext e13
   have hN13 := hN11.ext e13
   have h713 := e13.at h711
   have h913 := e13.at h911
   have F13 := Lib.hid (F11.out.trans (FrA.of_ext e13))
   have SG13 := Lib.hid (SG.out.ext e13)
   have E13 := Xt E11 e13
   have HX := Lib.hid (show q ≠ q2 /\ w.heap.size < q /\ w.heap.size < q2 /\ w7.heap.size < q2 /\ q2 < w10.heap.size /\ q2 < w11.heap.size /\ w7.heap.size < w11.heap.size /\ wr.heap.size <= w7.heap.size /\ q < wr.heap.size /\ w9.heap.size <= q2 by omega)
   clear hb13 ho13 h12 e12 hM11 hN11 h711 h911 F11 SG E11 e13 s9 s10 s79 s910 s11 s1011 hq10 hq7 hs7 hrs
   go_loopw [4, 10, 11, 47, 48, 49, 50, 51, 52, 53, 54, 55, 56, 57, 58, 59, 60, 61, 62, 63, 64, 65, 66, 67, 68, 69, 70, 71, 72, 73, 74, 75, 76, 77, 78, 79, 80, 81, 82, 83, 84, 85, 86, 87, 88, 89, 90, 91, 92, 93, 94, 95, 96, 97, 98, 99, 100, 101, 102, 103, 104, 105, 106, 107, 108, 109, 110, 111, 112, 113, 114, 115, 116, 117, 118, 119, 120, 121] (fun _ iv _ _ _ _ _ _ _ _ _ _ _ _ _ _ _ _ _ _ _ _ _ _ _ _ _ _ _ _ _ _ _ _ _ _ _ _ _ _ _ _ _ _ _ _ _ _ _ _ _ _ _ _ _ _ _ _ _ _ _ _ _ _ _ _ _ _ _ _ _ _ _ _ _ _ _ _ wr => ∃ k : Nat, iv = .int .i64 k /\ ∃ pN mN pbN gN Lk Bk gk, AtK sc L B k Lk Bk gk /\ IsM wr q2 pN mN pbN gN Lk Bk /\ FrA (fun x => x = q2) w13 wr) (fun _ iv _ _ _ _ _ _ _ _ _ _ _ _ _ _ _ _ _ _ _ _ _ _ _ _ _ _ _ _ _ _ _ _ _ _ _ _ _ _ _ _ _ _ _ _ _ _ _ _ _ _ _ _ _ _ _ _ _ _ _ _ _ _ _ _ _ _ _ _ _ _ _ _ _ _ _ _ _ => sc.length - (intOf iv).toNat)
   case atStart => exact ⟨0, rfl, p2, m2, pb2, g2, L, B, [], AtK.start _ _ _, hN13, FrA.of_ext (Ext.refl _)⟩
   obtain ⟨k, rfl, pN, mN, pbN, gN, Lk, Bk, gk, hat, hN, fr⟩ := hrel
   obtain ⟨x1, x2, x3, x4, x5, x6, x7, x8, x9, x10⟩ := HX.out
   have hMr := hM13.fraq hN13.row fr x1
   have hcr := fr.at h713 (by omega)
   have hsr := fr.at h913 (by omega)
   have hrr := fr.at h13 (by omega)
   have STr := Lib.hid (SST.out.fra2 (F13.out.trans (fr.mono (fun x (hx : x = q2) => Or.inr hx))) (fun x hx => by rcases hx with rfl | rfl <;> omega))
   have SGr := Lib.hid (SG13.out.fra2 fr (fun x (hx : x = q2) => by omega))
   have Er := FrA.ext0 E13 fr (fun x (hx : x = q2) => by omega)
   have HAT := Lib.hid hat
   have hkl := hat.le
   have HN13 := Lib.hid hN13
   clear hat hN13
   have c0 := Za (j := 0) hcr rfl
   by_cases hkn : k < sc.length
   · rcases d4 with d4 | ⟨gs, off, rfl, hlt, hcell⟩
     · omega
     have hj1 : (0 : Int) <= (k : Int) := by omega
     have hj2 : (k : Int) < (sc.length : Int) := by omega
     have hld := load_st wr gs off k sc hkn (fun j u hu => (Zh (Er.block hlt)).trans (hcell j u hu))
     have hkn1 := HIN.out _ (List.getElem_mem hkn)
     obtain ⟨s, hse⟩ : ∃ s, s = sc[k]'hkn := ⟨_, rfl⟩
     rw [<- hse] at hld hkn1
     have HSE := Lib.hid hse
     clear hse hcell
     obtain ⟨kd, pa, pbb, ca, cb, am, mx, nu, de, sq⟩ := s
     simp only [Stp.agg] at hld
     go_wp2_with (first
      | (refine Ze rfl 97 _ _ _ rfl rfl hld ?_)
      | (refine Xe (len := 1) rfl (by kernel_rfl) (.cells (V7 [(⟨kd, pa, pbb, ca, cb, am, mx, nu, de, sq⟩ : Stp)]).toArray 97) (.slice (some ⟨wr.heap.size, 0, none⟩) 1 1) _ rfl (by kernel_rfl) ?_
         intro w14 e14 h14))
     refine (Zdp _ _ _ _).mono ?_
     rintro e w15 ⟨rfl, e15⟩
     have hN15 := hN.ext (Xt e14 e15)
     have hsl : SlAt w15 0 10 (.slice (some ⟨wr.heap.size, 0, none⟩) 1 1) 1 (V7 [(⟨kd, pa, pbb, ca, cb, am, mx, nu, de, sq⟩ : Stp)]) := Uw (e15.at h14) rfl (by decide) (Nat.zero_le _)
     have hap := Zch q2 pN mN pbN gN Lk Bk [(⟨kd, pa, pbb, ca, cb, am, mx, nu, de, sq⟩ : Stp)] _ w15 hN15 hsl.arg (fun s hs => by rw [List.mem_singleton.1 hs]; exact hkn1)
     rw [apply_one] at hap
     obtain ⟨sm, hsm⟩ : ∃ sm, sm = Yf ⟨kd, pa, pbb, ca, cb, am, mx, nu, de, sq⟩ Lk Bk := ⟨_, rfl⟩
     rw [<- hsm] at hap
     have HSM := Lib.hid hsm
     obtain ⟨sg, se, sL, sB⟩ := sm
     have fr15 := Lib.hid (fr.trans (FrA.of_ext (Xt e14 e15)))
     clear hsm hsl hld hkn1 hN15 h14 e14 e15 c0 hMr hsr hrr hcr STr SGr hN fr
     by_cases hse0 : se = 0
     · subst hse0
       rw [if_neg (by simp)] at hap
       have hnx := HAT.out.next hkn (by rw [<- HSE.out, <- HSM.out])
       rw [<- HSE.out, <- HSM.out] at hnx
       simp only at hnx
       have HNX := Lib.hid hnx
       clear hnx
       go_wp2_with fail
       refine hap.mono ?_
       rintro e w16 ⟨vq, pN', mN', pbN', gN', rfl, f16, sg16, hN16⟩
       simp only at sg16 hN16
       have SG16 := Lib.hid sg16
       obtain ⟨G2, gcap2, rfl, _⟩ := sg16
       clear hap
       go_wp2_with (first
        | (refine Zn rfl 88 rfl (.cells #[.int .i64 0, .int .i64 0, .slice none 0 0] 88) _ rfl (by go_simp) ?_
           intro w17 e17 h17)
        | (refine Zd rfl rfl 88 _ _ rfl w16.heap.size _ rfl rfl 88 _ h17 (by kernel_rfl) (by rfl) (by rfl) ?_
           intro w18 hb18 ho18 h18
           have y0 := Za (j := 0) h18 rfl))
       have e18 : Ext w16 w18 := hb18 _ _ (Nat.le_refl _) e17
       have fr18 := Lib.hid (fr15.out.trans (f16.trans (FrA.of_ext e18)))
       have hMr := hM13.fraq HN13.out.row fr18.out x1
       have hcr := fr18.out.at h713 (by omega)
       have hsr := fr18.out.at h913 (by omega)
       have hrr := fr18.out.at h13 (by omega)
       have STr := Lib.hid (SST.out.fra2 (F13.out.trans (fr18.out.mono (fun x (hx : x = q2) => Or.inr hx))) (fun x hx => by rcases hx with rfl | rfl <;> omega))
       have SG18 := Lib.hid (SG13.out.fra2 fr18.out (fun x (hx : x = q2) => by omega))
       have Er := FrA.ext0 E13 fr18.out (fun x (hx : x = q2) => by omega)
       have hN18 := hN16.ext e18
       clear hb18 ho18 h17 e17 hN16 f16
       go_wp2_with fail
       by_cases her : er = 0
       · subst her
         obtain ⟨t, hgl, hgn⟩ := HNX.out.got HN.out (by rw [HR.out])
         rw [HR.out] at hgl hgn
         simp only at hgl hgn
         have hgk : gl[k]? = some sg := by
          rw [hgl, List.append_assoc, List.getElem?_append_right (by rw [HAT.out.len]; exact Nat.le_refl _), HAT.out.len, Nat.sub_self]
          rfl
         have hkg : k < gl.length := by omega
         have hgk2 : gl[k]'hkg = sg := by rw [List.getElem?_eq_getElem hkg] at hgk; exact Option.some.inj hgk
         obtain ⟨G', gc', hGv, _, _, _, hG⟩ := SG18.out
         obtain ⟨G2', gc2', hG2v, _, _, _, hG2⟩ := SG16.out.ext e18
         injection hGv with hGv _ _
         injection hG2v with hG2v _ _
         subst hGv hG2v
         rcases hG with hG | ⟨gb, rfl, _, hgb, hgc⟩
         · omega
         rcases hG2 with hG2 | ⟨gb2, rfl, _, hgb2, hgc2⟩
         · simp at hG2
         have hl1 : ∀ W, Ext w18 W -> (loadVar 100 ⟨gb, k * 2, none⟩).run Tryz.prog W = .ok (Zg1 sg) W := fun W hW => by
          have := Zfs W gb k gl hkg (fun j u hu => (Zh (hW.block hgb)).trans (hgc j u hu))
          rwa [hgk2] at this
         have hl2 : ∀ W, Ext w18 W -> (loadVar 100 ⟨gb2, 0, none⟩).run Tryz.prog W = .ok (Zg1 sg) W := fun W hW => Zfs W gb2 0 [sg] (by simp) (fun j u hu => (Zh (hW.block hgb2)).trans (hgc2 j u hu))
         rw [hgn] at hrr
         have hne := neq_gt sg.1 sg.2
         simp only [Zg1] at hl1 hl2
         obtain ⟨sg1, sg2⟩ := sg
         simp only at hl1 hl2 hne
         clear hgl hgk hgk2 hgc hgc2 hgb hgb2
         refine Yg Zk [] (by kernel_rfl) (by kernel_rfl) ?_
         intro w1 hw1
         have r0 : ∀ u : ExtOf w1, u.to.cell? ⟨w11.heap.size, 0, none⟩ = _ := fun u => Za (j := 0) ((Xt hw1 u.h).at hrr) rfl
         have r2 : ∀ u : ExtOf w1, u.to.cell? ⟨w11.heap.size, 2, none⟩ = _ := fun u => Za (j := 2) ((Xt hw1 u.h).at hrr) rfl
         have cc : ∀ u : ExtOf w1, u.to.cell? ⟨w.heap.size, 0, none⟩ = _ := fun u => Za (j := 0) ((Xt hw1 u.h).at hcr) rfl
         have qc : ∀ u : ExtOf w1, u.to.cell? ⟨w16.heap.size, 2, none⟩ = _ := fun u => Za (j := 2) ((Xt hw1 u.h).at h18) rfl
         have ld1 : ∀ wq, Cls w1 wq -> (loadVar 100 ⟨gb, k * 2, none⟩).run Tryz.prog wq = .ok (.agg #[.int .i64 sg1, .int .i64 sg2]) wq := by
          rintro _ ⟨u, rfl⟩
          exact hl1 u.to (Xt hw1 u.h)
         have ld2 : ∀ wq, Cls w1 wq -> (loadVar 100 ⟨gb2, 0, none⟩).run Tryz.prog wq = .ok (.agg #[.int .i64 sg1, .int .i64 sg2]) wq := by
          rintro _ ⟨u, rfl⟩
          exact hl2 u.to (Xt hw1 u.h)
         clear hl1 hl2
         simp only [Zj, List.contains_nil, Bool.false_eq_true, Nat.reduceAdd, ↓reduceIte]
         repeat (first | go_big_quiet_step (fail) | (go_big_quiet_want; (first | refine Z4 100 _ _ _ rfl rfl ld1 ?_ | refine Z4 100 _ _ _ rfl rfl ld2 ?_); go_big_quiet_on; simp only [Act.put, Rg.puB]))
         refine wpQuiet_nil ?_
         refine Vb (by kernel_rfl) ?_
         intro w19 e19 e19'
         try simp only [Act.put, List.getElem_toArray, List.getElem_cons_succ, List.getElem_cons_zero, Rg.puB]
         clear r0 r2 cc qc ld1 ld2 hw1 hne
         go_wp2_with fail
         exact ⟨⟨k + 1, by go_num, pN', mN', pbN', gN', sL, sB, _, HNX.out, hN18.ext e19, fr18.out.trans (FrA.of_ext e19)⟩, by simp [intOf]; omega⟩
       have her1 : (er == 0) = false := by simpa using her
       refine Yg Zk [] (by kernel_rfl) (by kernel_rfl) ?_
       intro w1 hw1
       have r0 : ∀ u : ExtOf w1, u.to.cell? ⟨w11.heap.size, 0, none⟩ = _ := fun u => Za (j := 0) ((Xt hw1 u.h).at hrr) rfl
       simp only [Zj, Rg.hsB, Nat.reduceAdd, ↓reduceIte]
       repeat (go_big_quiet_step (fail))
       refine wpQuiet_nil ?_
       refine Vb (by kernel_rfl) ?_
       intro w19 e19 e19'
       try simp only [Act.put, List.getElem_toArray, List.getElem_cons_succ, List.getElem_cons_zero, Rg.puB]
       clear r0 hw1
       go_wp2_with fail
       exact ⟨⟨k + 1, by go_num, pN', mN', pbN', gN', sL, sB, _, HNX.out, hN18.ext e19, fr18.out.trans (FrA.of_ext e19)⟩, by simp [intOf]; omega⟩
     rw [if_pos hse0] at hap
     have hbad := HAT.out.bad HN.out hkn (by rw [<- HSE.out, <- HSM.out]; exact hse0)
     rw [<- HSE.out, <- HSM.out, HR.out] at hbad
     simp only [Prod.mk.injEq] at hbad
     obtain ⟨⟨rfl, rfl, rfl⟩, rfl, rfl⟩ := hbad
     have hse1 : (er != 0) = true := by simpa using hse0
     go_wp2_with fail
     refine hap.mono ?_
     rintro e w16 ⟨vq, pN', mN', pbN', gN', rfl, f16, sg16, hN16⟩
     simp only at sg16
     obtain ⟨G2, gcap2, rfl, _⟩ := sg16
     clear hap
     go_wp2_with (first
      | (refine Zn rfl 88 rfl (.cells #[.int .i64 0, .int .i64 0, .slice none 0 0] 88) _ rfl (by go_simp) ?_
         intro w17 e17 h17)
      | (refine Zd rfl rfl 88 _ _ rfl w16.heap.size _ rfl rfl 88 _ h17 (by kernel_rfl) (by rfl) (by rfl) ?_
         intro w18 hb18 ho18 h18
         have y0 := Za (j := 0) h18 rfl))
     have e18 : Ext w16 w18 := hb18 _ _ (Nat.le_refl _) e17
     have fr18 := Lib.hid (fr15.out.trans (f16.trans (FrA.of_ext e18)))
     have hMr := hM13.fraq HN13.out.row fr18.out x1
     have hcr := fr18.out.at h713 (by omega)
     have hsr := fr18.out.at h913 (by omega)
     have hrr := fr18.out.at h13 (by omega)
     have STr := Lib.hid (SST.out.fra2 (F13.out.trans (fr18.out.mono (fun x (hx : x = q2) => Or.inr hx))) (fun x hx => by rcases hx with rfl | rfl <;> omega))
     have SG18 := Lib.hid (SG13.out.fra2 fr18.out (fun x (hx : x = q2) => by omega))
     have Er := FrA.ext0 E13 fr18.out (fun x (hx : x = q2) => by omega)
     clear hb18 ho18 h17 e17 hN16 f16
     go_wp2_with fail
     refine Yg Zk [19, 21, 22, 23, 24, 25, 26] (by kernel_rfl) (by kernel_rfl) ?_
     intro w1 hw1
     have r0 : ∀ u : ExtOf w1, u.to.cell? ⟨w11.heap.size, 0, none⟩ = _ := fun u => Za (j := 0) ((Xt hw1 u.h).at hrr) rfl
     have r1 : ∀ u : ExtOf w1, u.to.cell? ⟨w11.heap.size, 1, none⟩ = _ := fun u => Za (j := 1) ((Xt hw1 u.h).at hrr) rfl
     have r2 : ∀ u : ExtOf w1, u.to.cell? ⟨w11.heap.size, 2, none⟩ = _ := fun u => Za (j := 2) ((Xt hw1 u.h).at hrr) rfl
     have qc : ∀ u : ExtOf w1, u.to.cell? ⟨w16.heap.size, 0, none⟩ = _ := fun u => Za (j := 0) ((Xt hw1 u.h).at h18) rfl
     have ldw : ∀ wq, Cls w1 wq -> (loadVar 83 ⟨w7.heap.size, 0, none⟩).run Tryz.prog wq = .ok (.agg #[.slice A1 (Zu L').length k1, .slice A2 (Yn L'.lines).length k2, .slice A3 B'.offs.length k3, .int .u64 B'.next]) wq := by
      rintro _ ⟨u, rfl⟩
      exact run_loadVar_row u.to w7.heap.size _ _ _ _ _ ((Xt hw1 u.h).at hsr) Tryz.underlying83 rfl (by kernel_rfl)
     simp only [Zj, Rg.hsB, Nat.reduceBEq, Nat.reduceAdd, ↓reduceIte]
     repeat (first | go_big_quiet_step (fail) | (go_big_quiet_want; (refine Z4 83 _ _ _ rfl rfl ldw ?_); go_big_quiet_on; simp only [Act.put, Rg.puB]))
     refine wpQuiet_nil ?_
     clear r0 r1 r2 qc ldw hse1
     refine wpX_callg 19 33 _ #[.pointer (some ⟨q, 0, none⟩)] _ (by rfl) _ _ (by rfl) Tryz.func33 rfl rfl (by kernel_rfl) (by rfl) (by kernel_rfl) (by decide) ?_
     intro w20 h020 h20
     refine (Zbz q _ _ _ _ _ _ w20 (hMr.ext h020)).mono ?_
     rintro e w21 ⟨v21, rfl, e21, st21⟩
     have h021 := Xt h020 e21
     refine ⟨_, rfl, h021, ?_⟩
     have hlk := fun W (hW : Ext w21 W) => Zks _ _ v21 _ L' B' W (st21.ext hW) (STr.out.ext (Xt h021 hW))
     refine Zcl Zk 21 [] 0 (by kernel_rfl) h021 ?_
     intro w1 hw1
     simp only [Act.put, List.getElem_toArray, List.getElem_cons_succ, List.getElem_cons_zero, Rg.puB]
     have hlku := fun u : ExtOf w1 => hlk u.to (Xt hw1 u.h)
     have hlv := fun u : ExtOf w1 => Jc u.to
     clear hlk
     simp only [Zj, Rg.hsB, Nat.reduceAdd, ↓reduceIte]
     repeat (go_big_quiet_step ((first | (go_at_call 41; exact Ret.cls (hlku _)) | (go_at_call 37; exact Ret.cls (hlv _)))))
     refine wpQuiet_nil ?_
     refine Vb (by kernel_rfl) ?_
     intro w22 e22 e22'
     try simp only [Act.put, List.getElem_toArray, List.getElem_cons_succ, List.getElem_cons_zero, Rg.puB]
     clear hlku hlv hw1
     go_wp2_with fail
     go_ret
     exact ⟨rfl, Xt Er (Xt h021 e22)⟩
   have hk' : k = sc.length := by omega
   subst hk'
   have hdn := HAT.out.done HN.out
   rw [HR.out] at hdn
   simp only [Prod.mk.injEq] at hdn
   obtain ⟨⟨rfl, rfl, rfl⟩, rfl, rfl⟩ := hdn
   have r0 := Za (j := 0) hrr rfl
   have r1 := Za (j := 1) hrr rfl
   clear d4 hkn
   go_wp2_with fail
   refine (Zbz q _ _ _ _ _ _ wr hMr).mono ?_
   rintro e w20 ⟨v20, rfl, e20, st20⟩
   clear r0 r1 c0
   go_wp2_with fail
   refine (Zbz q2 _ _ _ _ _ _ w20 (hN.ext e20)).mono ?_
   rintro e w21 ⟨v21, rfl, e21, st21⟩
   go_wp2_with fail
   refine (Zks _ _ v20 v21 _ _ w21 (st20.ext e21) st21).mono ?_
   rintro e w22 ⟨rfl, e22⟩
   go_wp2_with fail
   refine (Jc _).mono ?_
   rintro e wz ⟨rfl, ez⟩
   go_wp2
   go_ret
   exact ⟨rfl, Xt Er (Xt e20 (Xt e21 (Xt e22 ez)))⟩
end Go.Proofs.YtahdgojcebajkaaGreat
