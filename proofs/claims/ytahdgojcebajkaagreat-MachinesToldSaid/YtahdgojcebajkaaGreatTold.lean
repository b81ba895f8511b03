/- MachinesTold: a machine's state is sound; the walk; the row: whatever commands came ahead and come behind, the answer is true. Commands that come in, opened: slices of slices of steps. A machine's state, walked; two states that say the same. MachinesBatch: what a command does, step by step; the walk. What else a machine keeps true: numbers of offers rise, owners are parties, there are few. Of, walked: a ledger of parties and lines, a book of offers, a machine of a state, where they are such as a machine tells. -/
import Derived.Test.YtahdgojcebajkaaGreatMv
import Derived.Test.YtahdgojcebajkaaGreatMade
import Derived.Test.YtahdgojcebajkaaGreatRnd
set_option maxHeartbeats 12800000
set_option maxRecDepth 100000
namespace Go.Proofs.YtahdgojcebajkaaGreat
open Go.Joins Go.Deep Go.WideElems Go.Maps Go.ChangeShapes Go.WideShapes Go.ChangeAt Go.RowKit Go.Rg Go.BigFrame
abbrev Cmd := Value × List Stp
def Cmd.cells (x : Cmd) : List Value := [x.1]
def Zfb (w : World) (x : Cmd) : Prop := Zct w 10 x.1 x.2.length (Ju x.2) /\ ∀ s ∈ x.2, s.In
theorem Zfb.ext {w w' : World} {x : Cmd} (h : Zfb w x) (k : Ext w w') : Zfb w' x := ⟨h.1.ext k, h.2⟩
theorem Zcn (l : List Cmd) (k : Nat) (hk : k < l.length) : (l.flatMap Cmd.cells)[k]? = some (l[k]'hk).1 := by
 have := Zda Cmd.cells 1 (fun _ => rfl) l k 0 hk (by omega)
 rw [Nat.mul_one, Nat.add_zero] at this
 rw [this]
 rfl
theorem list10 {α : Type} {cs : List α} (h : cs.length = 10) : ∃ c0 c1 c2 c3 c4 c5 c6 c7 c8 c9, cs = [c0, c1, c2, c3, c4, c5, c6, c7, c8, c9] := by
 match cs, h with
 | [c0, c1, c2, c3, c4, c5, c6, c7, c8, c9], _ => exact ⟨c0, c1, c2, c3, c4, c5, c6, c7, c8, c9, rfl⟩
section
variable {H : Type} {enc : TypeId × Value -> H} {w : World} {base : Nat} {spare : Nat -> Bool} {held : Bool}
theorem open_step {fuel : Nat} {cs : List Value} {x : DataW H × List MemPlace} (h : DataW.trod enc Tryz.prog w base spare held fuel 97 cs = some x) : ∃ a : Stp, cs = a.cells /\ a.In := by
 have hu := Tryz.underlying97
 have hl := (DataW.trod_struct hu h).choose_spec.choose_spec.2.2.1
 obtain ⟨c0, c1, c2, c3, c4, c5, c6, c7, c8, c9, rfl⟩ := list10 (hl.trans (by kernel_rfl))
 obtain ⟨_, _, h0⟩ := Jr hu h 0 0 1 _ rfl (by kernel_rfl)
 obtain ⟨_, _, h1⟩ := Jr hu h 1 1 1 _ rfl (by kernel_rfl)
 obtain ⟨_, _, h2⟩ := Jr hu h 2 2 1 _ rfl (by kernel_rfl)
 obtain ⟨_, _, h3⟩ := Jr hu h 3 3 1 _ rfl (by kernel_rfl)
 obtain ⟨_, _, h4⟩ := Jr hu h 4 4 1 _ rfl (by kernel_rfl)
 obtain ⟨_, _, h5⟩ := Jr hu h 5 5 1 _ rfl (by kernel_rfl)
 obtain ⟨_, _, h6⟩ := Jr hu h 6 6 1 _ rfl (by kernel_rfl)
 obtain ⟨_, _, hr⟩ := Jr hu h 7 7 2 _ rfl (by kernel_rfl)
 obtain ⟨_, _, h9⟩ := Jr hu h 8 9 1 _ rfl (by kernel_rfl)
 have hv := Tryz.underlying30
 obtain ⟨_, _, h7⟩ := Jr hv hr 0 0 1 _ rfl (by kernel_rfl)
 obtain ⟨_, _, h8⟩ := Jr hv hr 1 1 1 _ rfl (by kernel_rfl)
 simp only [List.drop_succ_cons, List.drop_zero, List.take_succ_cons, List.take_zero] at h0 h1 h2 h3 h4 h5 h6 h7 h8 h9
 obtain ⟨x0, rfl, _⟩ := Jh Tryz.underlying95 h0
 obtain ⟨x1, rfl, _⟩ := Jh Tryz.underlying27 h1
 obtain ⟨x2, rfl, _⟩ := Jh Tryz.underlying27 h2
 obtain ⟨x3, rfl, _⟩ := Jh Tryz.underlying28 h3
 obtain ⟨x4, rfl, _⟩ := Jh Tryz.underlying28 h4
 obtain ⟨x5, rfl, w5⟩ := Jh Tryz.underlying2 h5
 obtain ⟨x6, rfl, w6⟩ := Jh Tryz.underlying2 h6
 obtain ⟨x7, rfl, w7⟩ := Jh Tryz.underlying2 h7
 obtain ⟨x8, rfl, w8⟩ := Jh Tryz.underlying2 h8
 obtain ⟨x9, rfl, _⟩ := Jh Tryz.underlying26 h9
 exact ⟨⟨x0, x1, x2, x3, x4, x5, x6, x7, x8, x9⟩, rfl, (bounds_i64 w5).2, (bounds_i64 w6).2, (bounds_i64 w7).2, (bounds_i64 w8).2⟩
theorem open_cmdL {fuel : Nat} {cs : List Value} {x : DataW H × List MemPlace} (h : DataW.trod enc Tryz.prog w base spare held fuel 76 cs = some x) : ∃ a : Cmd, cs = a.cells /\ Zfb w a := by
 have hu := Tryz.underlying76
 have hl := (DataW.trod_struct hu h).choose_spec.choose_spec.2.2.1
 obtain ⟨v, rfl⟩ := List.length_eq_one_iff.1 (hl.trans (by kernel_rfl))
 obtain ⟨_, _, h0⟩ := Jr hu h 0 0 1 _ rfl (by kernel_rfl)
 simp only [List.drop_zero, List.take_succ_cons, List.take_zero] at h0
 obtain ⟨v', l, e, ha, ho⟩ := Zjt Stp.cells Stp.In 10 (by omega) (fun _ => rfl) Tryz.underlying74 (by kernel_rfl) (fun n cs y => open_step) h0
 cases e
 exact ⟨(v, l), rfl, ha, ho⟩
theorem Zjs {b0 : Nat} {r : Reach} {v : Value} {d : DataW H} {p : List MemPlace} (hv : Value.okWide Tryz.prog w r b0 92 v) (h : DataW.Trod enc Tryz.prog w base spare held 92 v d p) :
 ∃ l : List Cmd, Zct w 1 v l.length (l.flatMap Cmd.cells) /\ ∀ x ∈ l, Zfb w x := by
 obtain ⟨A, n, cap, rfl⟩ := okWide_slice Tryz.underlying92 hv
 obtain ⟨fuel, hf⟩ := h
 obtain ⟨v', l, e, ha, ho⟩ := Zjt Cmd.cells (Zfb w) 1 (by omega) (fun _ => rfl) Tryz.underlying92 (by kernel_rfl) (fun n cs y => open_cmdL) hf
 simp only [Value.cells] at e
 cases e
 exact ⟨l, ha, ho⟩
end
end Go.Proofs.YtahdgojcebajkaaGreat
namespace Go.Rg
open Go.RowKit
section
variable {P : Program} {ops : Array Oper} {md : Region.Mode}
theorem Xr {n f : Nat} {L : Array Bool -> Act -> World -> Prop} {listed : Array Bool} {a : Act} {w0 w : World} (i : Nat) (o : Oper) (v : Value) (hg : o.guard = none)
 (hr : Region.ready md ops listed = [i]) (hin : i < n) (ho : ops[i]? = some o) (hl : ∀ w', Ext w w' -> (execOp a.eval o).run P w' = .ok (.value v) w')
 (h : ∀ w' : World, Ext w0 w' -> Ext w w' -> wpX P md ops w0 n L f (listed.setIfInBounds i true) (a.put o.dst v) w') : wpX P md ops w0 n L (f + 1) listed a w := by
 refine Vo i o hr hin ho (by simp [Region.wanted, hg]) fun w' h0 hw' => ?_
 unfold Xu
 rw [hl w' hw']
 exact ⟨h0, h w' h0 hw'⟩
end
end Go.Rg
namespace Go.Proofs.YtahdgojcebajkaaGreat
open Go.RowKit Go.Rg Go.BigFrame
def Znu (w : World) (base : Nat) (v : Value) (L : Led) (B : Bk) : Prop :=
 ∃ v1 v2 v3, v = .agg #[v1, v2, v3, .int .u64 B.next] /\ Zr w base 1 v1 (Zu L).length ((Zu L).map (.int .u8)) /\ Zr w base 5 v2 (Z9 L.lines).length (Yt (Z9 L.lines)) /\ Za6 w base v3 B.offs
def RetSt (L : Led) (B : Bk) (w : World) (e : Ending) (w' : World) : Prop := ∃ v, e = .returned v /\ Ext w w' /\ Znu w' w.heap.size v L B
theorem Znu.ext {w w' : World} {base : Nat} {v : Value} {L : Led} {B : Bk} (h : Znu w base v L B) (k : Ext w w') : Znu w' base v L B :=
 let ⟨v1, v2, v3, e, h1, h2, h3⟩ := h
 ⟨v1, v2, v3, e, h1.ext k, h2.ext k, Zr.ext h3 k⟩
theorem Zcx (q p m pb : Nat) (g : Option Nat) (L : Led) (B : Bk) (w : World) (h : IsM w q p m pb g L B) : Calls Tryz.prog 33 #[.pointer (some ⟨q, 0, none⟩)] w (RetSt L B w) := by
 have h0 := Zb w (.cells #[.slice none 0 0, .slice none 0 0, .slice none 0 0, .int .u64 0] 83)
 have e0 := Zc w (.cells #[.slice none 0 0, .slice none 0 0, .slice none 0 0, .int .u64 0] 83)
 go_enter Tryz.func33, Tryz.ntmps33
 go_wp2_with fail
 refine (Zh5 q p m pb g L B _ (h.ext e0)).mono ?_
 rintro e w3 ⟨rfl, e3⟩
 have h3 := e3.at h0
 have e03 := Xt e0 e3
 have hM := h.ext e03
 clear h0 e0 e3 h
 go_wp2_with fail
 refine Ze Zk 25 [5, 11, 17, 23, 24] (by kernel_rfl) (by kernel_rfl) ?_
 intro w1 hw1
 have d0 := fun u : ExtOf w1 => Za (j := 0) ((Xt hw1 u.h).at hM.row) rfl
 have d1 := fun u : ExtOf w1 => Za (j := 1) ((Xt hw1 u.h).at hM.row) rfl
 simp only [Zj, Rg.hsB, Nat.reduceBEq, Nat.reduceAdd, ↓reduceIte]
 repeat (go_big_quiet_step (fail))
 refine wpQuiet_nil ?_
 clear d0 d1
 refine Z1 5 92 _ #[.pointer (some ⟨p, 0, none⟩)] _ (by rfl) _ _ (by rfl) Tryz.func92 rfl rfl (by kernel_rfl) (by rfl) (by kernel_rfl) (by decide) ?_
 intro w4 h04 h4
 refine (Zgb p m L w4 (hM.led.ext h04)).mono ?_
 rintro e w5 ⟨v1, rfl, e5, s1⟩
 have s1' := s1
 obtain ⟨A1, k1, rfl, _⟩ := s1'
 refine ⟨_, rfl, Xt h04 e5, ?_⟩
 refine Z1 11 25 _ #[.pointer (some ⟨p, 0, none⟩)] _ (by rfl) _ _ (by rfl) Tryz.func25 rfl rfl (by kernel_rfl) (by rfl) (by kernel_rfl) (by decide) ?_
 intro w6 h06 h6
 refine (Zc9 p m L w6 (hM.led.ext h06) hM.ok.wf).mono ?_
 rintro e w7 ⟨v2, rfl, e7, s2⟩
 obtain ⟨A2, k2, rfl⟩ := Z8 s2
 refine ⟨_, rfl, Xt h06 e7, ?_⟩
 refine Z1 17 27 _ #[.pointer (some ⟨pb, 0, none⟩)] _ (by rfl) _ _ (by rfl) Tryz.func27 rfl rfl (by kernel_rfl) (by rfl) (by kernel_rfl) (by decide) ?_
 intro w8 h08 h8
 refine (Znq pb g B w8 (hM.book.ext h08)).mono ?_
 rintro e w9 ⟨v3, rfl, e9, s3⟩
 have s3' := s3
 obtain ⟨A3, k3, rfl, _⟩ := s3'
 refine ⟨_, rfl, Xt h08 e9, ?_⟩
 refine Z1 23 32 _ #[.pointer (some ⟨pb, 0, none⟩)] _ (by rfl) _ _ (by rfl) Tryz.func32 rfl rfl (by kernel_rfl) (by rfl) (by kernel_rfl) (by decide) ?_
 intro w10 h010 h10
 refine (bnext_any pb g B w10 (hM.book.ext h010)).mono ?_
 rintro e w11 ⟨rfl, e11⟩
 refine ⟨_, rfl, Xt h010 e11, ?_⟩
 refine Xr 24 _ (.agg #[.slice A1 (Zu L).length k1, .slice A2 (Z9 L.lines).length k2, .slice A3 B.offs.length k3, .int .u64 B.next]) rfl (by kernel_rfl) (by decide) rfl (fun w' _ => by go_simp) ?_
 intro w12 h012 h12
 refine Zi (by kernel_rfl) ?_
 intro w13 e13 e13'
 simp only [Act.put, Rg.puB]
 simp only [Rg.puC, Rg.puB]
 have h13 := e13.at h3
 have z3 := e03.size
 have z4 := h04.size
 have z6 := h06.size
 have z8 := h08.size
 have f11 : Ext w11 w13 := Xt h12 e13'
 have f9 : Ext w9 w13 := Xt h10 (Xt e11 f11)
 have f7 : Ext w7 w13 := Xt h8 (Xt e9 f9)
 have f5 : Ext w5 w13 := Xt h6 (Xt e7 f7)
 have s1 := (s1.ext f5).low (show w.heap.size + 1 <= w4.heap.size by have := Zg h3; omega)
 have s2 := ((Zr.of_own s2).ext f7).low (show w.heap.size + 1 <= w6.heap.size by have := Zg h3; omega)
 have s3 := Zr.low (Zr.ext s3 f9) (show w.heap.size + 1 <= w8.heap.size by have := Zg h3; omega)
 clear f5 f7 f9 f11 e5 e7 e9 e11 h4 h6 h8 h10 h12 h04 h06 h08 h010 h012
 go_wp2_with (refine Zf rfl rfl 83 _ _ rfl w.heap.size _ rfl rfl 83 _ h13 (by kernel_rfl) (by rfl) (by rfl) ?_
              intro w14 hb14 ho14 hs14)
 have k14 : Keep [w.heap.size] w13 w14 := by
  have kz := hb14 0 w13 (Nat.zero_le _) (Below.refl 0 w13)
  exact ⟨kz.os, kz.tape, kz.output, kz.size, fun k _ hk => ho14 k (by simpa using hk)⟩
 have hfr : FrA (fun x => x = w.heap.size) w13 w14 := ⟨k14.os, k14.tape, k14.output, k14.size, fun k hk hA => k14.block k hk (by simpa using hA)⟩
 exact Yp w.heap.size 83 _ _ _ rfl rfl hs14 Tryz.underlying83 rfl (by kernel_rfl) rfl
  ⟨_, rfl, (Keep.trans_fresh (S := []) (Kx (Xt e03 e13)) k14 (fun x hx => by right; simp at hx; omega)).ext, _, _, _, rfl, (s1.fra2 hfr (fun x hx => by omega)).low (by omega), (s2.fra2 hfr (fun x hx => by omega)).low (by omega), Zr.low (Zr.fra2 s3 hfr (fun x hx => by omega)) (by omega)⟩
theorem Zgk (v : Value) (l : List Cmd) (w : World) (h : Zct w 1 v l.length (l.flatMap Cmd.cells)) (hok : ∀ x ∈ l, Zfb w x) : Calls Tryz.prog 38 #[v] w (fun e w' => (∃ b, e = .returned (.bool b)) /\ Ext w w') := by
 obtain ⟨A, cap, rfl, h1, h2, h3, h4⟩ := h
 have hn63 : (l.length : Int) <= 9223372036854775807 := by unfold maxLen at h2; omega
 by_cases hg : (l.length : Int) > 60
 · have hg' : decide ((l.length : Int) > 60) = true := by simpa using hg
   go_enter Tryz.func38, Tryz.ntmps38
   go_wp2
   go_ret
   exact ⟨⟨_, rfl⟩, Ext.refl _⟩
 have hg' : decide ((l.length : Int) > 60) = false := by simpa using hg
 go_enter Tryz.func38, Tryz.ntmps38
 go_wp2
 go_loopw [3, 4] (fun nv iv wr => ∃ (z : Int) (k : Nat), k <= l.length /\ nv = .int .i64 z /\ iv = .int .i64 k /\ Ext w wr) (fun _ iv _ => l.length - (intOf iv).toNat)
 case atStart => exact ⟨0, 0, Nat.zero_le _, rfl, rfl, Ext.refl _⟩
 obtain ⟨z, k, hk, rfl, rfl, er⟩ := hrel
 by_cases hkn : k < l.length
 · rcases h4 with h4 | ⟨g, off, rfl, hlt, hcell⟩
   · omega
   have hj1 : (0 : Int) <= (k : Int) := by omega
   have hj2 : (k : Int) < (l.length : Int) := by omega
   have hc : wr.cell? ⟨g, off + k, none⟩ = some (l[k]'hkn).1 := (Zh (er.block hlt)).trans (hcell k _ (Zcn l k hkn))
   obtain ⟨⟨B, cap', hv, _⟩, _⟩ := hok _ (List.getElem_mem hkn)
   rw [hv] at hc
   generalize (l[k]'hkn).2.length = n' at *
   clear hcell hok hv h3
   go_wp2
   exact ⟨⟨_, k + 1, by omega, rfl, by go_num, er⟩, by simp [intOf]; omega⟩
 have hk' : k = l.length := by omega
 subst hk'
 clear h4 h3 hok hg hg'
 go_wp2
 go_ret
 exact ⟨⟨_, rfl⟩, er⟩
theorem same_u8 (b1 b2 : Nat) (v1 v2 : Value) (l : List Int) (w : World) (h : Zr w b1 1 v1 l.length (l.map (Value.int .u8))) (k : Zr w b2 1 v2 l.length (l.map (Value.int .u8))) :
 Calls Tryz.prog 133 #[v1, v2] w (Ret (.bool true) w) := by
 obtain ⟨A, cap, rfl, h1, h2, h3, h4⟩ := h
 obtain ⟨A', cap', rfl, k1, k2, k3, k4⟩ := k
 have hn63 : (l.length : Int) <= 9223372036854775807 := by unfold maxLen at h2; omega
 go_enter Tryz.func133, Tryz.ntmps133
 go_wp2
 go_loopw [5] (fun i wr => ∃ k : Nat, k <= l.length /\ i = .int .i64 k /\ Ext w wr) (fun i _ => l.length - (intOf i).toNat)
 case atStart => exact ⟨0, Nat.zero_le _, rfl, Ext.refl _⟩
 obtain ⟨k, hk, rfl, e1⟩ := hrel
 by_cases hkn : k < l.length
 · rcases h4 with h4 | ⟨g, rfl, hb, hlt, hcell⟩
   · omega
   rcases k4 with k4 | ⟨g', rfl, hb', hlt', hcell'⟩
   · omega
   have hj1 : (0 : Int) <= (k : Int) := by omega
   have hj2 : (k : Int) < (l.length : Int) := by omega
   have hld : ∀ wq, Ext wr wq -> wq.cell? ⟨g, k, none⟩ = some (.int .u8 (l[k]'hkn)) := fun wq q => by rw [Zh ((Xt e1 q).block hlt)]; exact hcell k _ (by simp [hkn])
   have hld' : ∀ wq, Ext wr wq -> wq.cell? ⟨g', k, none⟩ = some (.int .u8 (l[k]'hkn)) := fun wq q => by rw [Zh ((Xt e1 q).block hlt')]; exact hcell' k _ (by simp [hkn])
   clear hcell hcell' h3 k3
   generalize (l[k]'hkn) = x at *
   go_wp2_with fail
   refine Ya Zk [] (by kernel_rfl) (by kernel_rfl) ?_
   intro w1 hw1
   have ld1 : ∀ u : ExtOf w1, u.to.cell? ⟨g, k, none⟩ = _ := fun u => hld u.to (Xt hw1 u.h)
   have ld2 : ∀ u : ExtOf w1, u.to.cell? ⟨g', k, none⟩ = _ := fun u => hld' u.to (Xt hw1 u.h)
   clear hld hld'
   simp only [Zj, Rg.hsB, Nat.reduceAdd, ↓reduceIte]
   repeat (go_big_quiet_step (fail))
   refine wpQuiet_nil ?_
   refine Xo (by kernel_rfl) ?_
   intro w4 e4 e4'
   try simp only [Act.put, Rg.puC, Rg.puB]
   clear ld1 ld2 hw1
   go_wp2
   exact ⟨⟨k + 1, by omega, by go_num, Xt e1 e4⟩, by simp [intOf]; omega⟩
 have hk' : k = l.length := by omega
 subst hk'
 clear h3 k3 h4 k4
 go_wp2
 go_ret
 exact ⟨rfl, e1⟩
theorem sameP_any (b1 b2 : Nat) (v1 v2 : Value) (l : List Int) (w : World) (h : Zr w b1 1 v1 l.length (l.map (Value.int .u8))) (k : Zr w b2 1 v2 l.length (l.map (Value.int .u8))) : Calls Tryz.prog 95 #[v1, v2] w (Ret (.bool true) w) := by
 have hs := same_u8 b1 b2 v1 v2 l w h k
 obtain ⟨A, cap, rfl, _⟩ := h
 obtain ⟨A', cap', rfl, _⟩ := k
 go_enter Tryz.func95, Tryz.ntmps95
 go_wp2_with fail
 refine hs.mono ?_
 rintro e w1 ⟨rfl, e1⟩
 go_wp2
 go_ret
 exact ⟨rfl, e1⟩
theorem like_any (b1 b2 : Nat) (v1 v2 : Value) (L : Led) (B : Bk) (w : World) (h : Znu w b1 v1 L B) (k : Znu w b2 v2 L B) : Calls Tryz.prog 41 #[v1, v2] w (Ret (.bool true) w) := by
 obtain ⟨p1, l1, o1, rfl, hp, hl, ho⟩ := h
 obtain ⟨p2, l2, o2, rfl, kp, kl, ko⟩ := k
 have h0 := Zb w (.cells #[p1, l1, o1, .int .u64 B.next] 83)
 have e0 := Zc w (.cells #[p1, l1, o1, .int .u64 B.next] 83)
 have s0 := size_alloc w (.cells #[p1, l1, o1, .int .u64 B.next] 83)
 have h1 := Zb (w.alloc (.cells #[p1, l1, o1, .int .u64 B.next] 83)) (.cells #[p2, l2, o2, .int .u64 B.next] 83)
 have e1 := Zc (w.alloc (.cells #[p1, l1, o1, .int .u64 B.next] 83)) (.cells #[p2, l2, o2, .int .u64 B.next] 83)
 have h0 := e1.at h0
 rw [s0] at h1
 have E1 := Xt e0 e1
 clear e0 e1 s0
 go_enter Tryz.func41, Tryz.ntmps41
 have x0 := Za (j := 0) h0 rfl
 have y0 := Za (j := 0) h1 rfl
 go_wp2_with fail
 refine (sameP_any b1 b2 p1 p2 _ _ (hp.ext E1) (kp.ext E1)).mono ?_
 rintro e w2 ⟨rfl, e2⟩
 have x1 := Za (j := 1) (e2.at h0) rfl
 have y1 := Za (j := 1) (e2.at h1) rfl
 clear x0 y0
 go_wp2_with fail
 refine (Zi3 b1 b2 l1 l2 _ _ (hl.ext (Xt E1 e2)) (kl.ext (Xt E1 e2))).mono ?_
 rintro e w3 ⟨rfl, e3⟩
 have E3 := Xt E1 (Xt e2 e3)
 have x2 := Za (j := 2) ((Xt e2 e3).at h0) rfl
 have y2 := Za (j := 2) ((Xt e2 e3).at h1) rfl
 clear x1 y1
 go_wp2_with fail
 refine (Zhu b1 b2 o1 o2 _ _ (Zr.ext ho E3) (Zr.ext ko E3)).mono ?_
 rintro e w4 ⟨rfl, e4⟩
 have x3 := Za (j := 3) ((Xt e2 (Xt e3 e4)).at h0) rfl
 have y3 := Za (j := 3) ((Xt e2 (Xt e3 e4)).at h1) rfl
 clear x2 y2
 go_wp2_with fail
 go_ret
 exact ⟨rfl, Xt E3 e4⟩
theorem Zf8 : ∀ (l : List Stp) (i : Int) (L : Led) (B : Bk) (g : List Gt), (Jk l i L B g).1 = 0 -> ∃ t, (Jk l i L B g).2.2.1 = g ++ t /\ t.length = l.length
 | [], _, _, _, g, _ => ⟨[], by simp [Jk], rfl⟩
 | s :: l, i, L, B, g, h => by
   by_cases hs : (Y7 s L B).2.1 = 0
   · rw [Zjj s l i L B g hs] at h ⊢
     obtain ⟨t, h1, h2⟩ := Zf8 l _ _ _ _ h
     exact ⟨(Y7 s L B).1 :: t, by rw [h1]; simp, by simp [h2]⟩
   rw [Zhx s l i L B g hs] at h
   exact absurd h hs
structure AtK (l : List Stp) (L0 : Led) (B0 : Bk) (k : Nat) (L : Led) (B : Bk) (gl : List Gt) : Prop where
 le : k <= l.length
 len : gl.length = k
 run : Jk l 0 L0 B0 [] = Jk (l.drop k) k L B gl
theorem AtK.got {l : List Stp} {L0 L : Led} {B0 B : Bk} {k : Nat} {gl : List Gt} (h : AtK l L0 B0 k L B gl) (hn : ¬ (l.length = 0 \/ 8 < l.length)) (h0 : (Xb l L0 B0).1.1 = 0) :
 ∃ t, (Xb l L0 B0).1.2.2 = gl ++ t /\ (Xb l L0 B0).1.2.2.length = l.length := by
 by_cases hr : (Jk l 0 L0 B0 []).1 = 0
 · obtain ⟨t, h1, h2⟩ := Zf8 (l.drop k) k L B gl (by rw [<- h.run]; exact hr)
   have ha : (Xb l L0 B0).1.2.2 = (Jk l 0 L0 B0 []).2.2.1 := by unfold Xb; rw [if_neg hn, if_neg (by simpa using hr)]
   rw [ha, h.run, h1]
   exact ⟨t, rfl, by have := h.le; have := h.len; simp [h2]; omega⟩
 exfalso
 refine hr ?_
 have ha : (Xb l L0 B0).1.1 = (Jk l 0 L0 B0 []).1 := by unfold Xb; rw [if_neg hn, if_pos (by simpa using hr)]
 rw [<- ha]; exact h0
theorem IsM.fraq {w w' : World} {q p m pb : Nat} {g : Option Nat} {L : Led} {B : Bk} (h : IsM w q p m pb g L B) {q2 : Nat} {cs : Array Value} {fr : Nat × Nat} (hr : w.heap[q2]? = some (.cells cs 78 fr)) (k : FrA (fun x => x = q2) w w') (hne : q ≠ q2) : IsM w' q p m pb g L B := by
 have hk : Keep [q2] w w' := ⟨k.os, k.tape, k.output, k.size, fun i hi hn => k.block i hi (by simpa using hn)⟩
 have h1 := Zd8 h.led hr (by decide)
 have h2 := Zbm h.book hr (by decide) (by decide)
 exact h.keep hk (by simpa using hne) h1.1 h1.2 h2.1 h2.2
theorem Zms {w : World} {g k : Nat} {v : Value} (h : w.cell? ⟨g, k, none⟩ = some v) : (loadVar 76 ⟨g, k, none⟩).run Tryz.prog w = .ok (.agg #[v]) w :=
 Zt w g k 76 [v] _ (fun j u hu => by
  have hj : j = 0 := by have := (List.getElem?_eq_some_iff.1 hu).1; simp at this; exact this
  subst hj
  simp at hu
  subst hu
  simpa using h) Tryz.underlying76 rfl (by kernel_rfl)
structure MX (L : Led) (B : Bk) : Prop where
 up : (B.offs.map Off.seq).Pairwise (· < ·)
 lo : ∀ o ∈ B.offs, 1 <= o.seq /\ o.seq < B.next
 own : ∀ o ∈ B.offs, Yl L o.owner = true
 few : B.offs.length <= 32
 nx : 1 <= B.next
theorem MX.par {L L' : Led} {B : Bk} (h : MX L B) (hp : L'.par = L.par) : MX L' B := ⟨h.up, h.lo, fun o ho => by rw [Zev hp]; exact h.own o ho, h.few, h.nx⟩
theorem MX.erase {L : Led} {B : Bk} (h : MX L B) (i : Nat) : MX L { B with offs := B.offs.eraseIdx i } :=
 ⟨h.up.sublist ((List.eraseIdx_sublist ..).map _), fun o ho => h.lo o (List.mem_of_mem_eraseIdx ho), fun o ho => h.own o (List.mem_of_mem_eraseIdx ho), by have := h.few; have := List.length_eraseIdx_le B.offs i; simp only; omega, h.nx⟩
theorem mx_take {L : Led} {B : Bk} (h : MX L B) (seq n : Int) : MX L (Ui B seq n).2 := by
 unfold Ui
 cases hf : Yf B.offs seq with
 | none => exact h
 | some o =>
   simp only
   split
   · exact h
   split
   · exact h.erase _
   rcases Jv seq B.offs 0 with ⟨_, h2⟩ | ⟨j, hj, h1, h2⟩
   · rw [hf] at h2; cases h2
   rw [hf] at h2
   injection h2 with h2
   have hj2 : (Zet B.offs seq).toNat = j := by unfold Zet; rw [h1]; simp
   rw [hj2]
   have hm : (B.offs.set j { o with left := o.left - n }).map Off.seq = B.offs.map Off.seq := by
    rw [List.map_set]
    apply List.ext_getElem?
    intro i
    by_cases hi : j = i
    · subst hi
      rw [List.getElem?_set_self (by simpa using hj), List.getElem?_map, List.getElem?_eq_getElem hj, h2]; rfl
    rw [List.getElem?_set_ne hi]
   have ho : o ∈ B.offs := by rw [h2]; exact List.getElem_mem hj
   refine ⟨by simp only; rw [hm]; exact h.up, fun x hx => ?_, fun x hx => ?_, by simp only [List.length_set]; exact h.few, h.nx⟩
   · rcases List.mem_or_eq_of_mem_set hx with hx | rfl
     · exact h.lo x hx
     exact h.lo o ho
   rcases List.mem_or_eq_of_mem_set hx with hx | rfl
   · exact h.own x hx
   exact h.own o ho
theorem mx_place {L : Led} {B : Bk} (h : MX L B) (owner sell buy left num den : Int) (ho : Yl L owner = true) : MX L (Y3 B owner sell buy left num den).2.2 := by
 unfold Y3
 split
 · exact h
 split
 · exact h
 rename_i hc
 have hn := h.nx
 refine ⟨?_, fun x hx => ?_, fun x hx => ?_, ?_, ?_⟩
 · simp only [List.map_append, List.map_cons, List.map_nil]
   rw [List.pairwise_append]
   refine ⟨h.up, by simp, fun a ha b hb => ?_⟩
   obtain ⟨y, hy, rfl⟩ := List.mem_map.1 ha
   have := h.lo y hy
   simp at hb
   omega
 · rcases List.mem_append.1 hx with hx | hx
   · have := h.lo x hx
     simp only
     omega
   simp at hx
   subst hx
   simp only
   omega
 · rcases List.mem_append.1 hx with hx | hx
   · exact h.own x hx
   simp at hx
   subst hx
   exact ho
 · simp only [List.length_append, List.length_cons, List.length_nil]; omega
 simp only; omega
theorem Zjq (c : Int) : ∀ (fl : Flows) (L : Led), (Yj L c fl).par = L.par
 | [], _ => rfl
 | x :: fl, L => by
   show (Yj (Ur L x.1 x.2.1 c x.2.2).2 c fl).par = L.par
   rw [Zjq c fl]
   unfold Ur V6
   split
   · rfl
   split <;> rfl
theorem Zkv (L : Led) (a b c n : Int) : (Uc L a b c n).2.par = L.par := by
 unfold Uc
 split
 · rfl
 split
 · rfl
 split
 · rfl
 exact Zjq _ _ _
theorem par_trust (L : Led) (a b c n : Int) : (Xx L a b c n).2.par = L.par := by
 unfold Xx
 split
 · rfl
 split
 · rfl
 split
 · rfl
 split
 · rfl
 split <;> rfl
theorem Zmb (L : Led) (a b c n : Int) : (Uw L a b c n).2.par = L.par := by
 unfold Uw
 split
 · rfl
 split
 · rfl
 split <;> rfl
theorem Zfk {left : List Fw} {c : Int} : ∀ {l : List Fw} {L : Led} {g : Int}, (U2 left c l L g).1.par = L.par
 | [], _, _ => rfl
 | x :: l, L, g => by
   unfold U2
   split
   · rw [Zfk (l := l)]; exact Zmb _ _ _ _ _
   exact Zfk (l := l)
theorem par_net (L : Led) (c quota : Int) : (Zag L c quota).2.2.2.par = L.par := by
 unfold Zag
 split
 · rfl
 split
 · rfl
 exact Zfk
theorem par_do (L : Led) (B : Bk) (seq taker to n : Int) : (doR L B seq taker to n).2.2.1.par = L.par := by
 unfold doR
 split
 · rfl
 simp only
 rw [Zkv]
 split
 · rfl
 exact Zkv _ _ _ _ _
theorem mx_do {L : Led} {B : Bk} (h : MX L B) (seq taker to n : Int) : MX (doR L B seq taker to n).2.2.1 (doR L B seq taker to n).2.2.2 /\ (doR L B seq taker to n).2.2.1.par = L.par := by
 refine ⟨MX.par (L := L) ?_ (par_do L B seq taker to n), par_do L B seq taker to n⟩
 unfold doR
 split
 · exact h
 exact mx_take h seq n
theorem Zjx (fr to get give : Int) : ∀ (f : Nat) (L : Led) (B : Bk) (n : Int) (all : List Fl), MX L B -> MX (Yy fr to get give f L B n all).2.1 (Yy fr to get give f L B n all).2.2.1
 | 0, L, B, n, all, h => h
 | f + 1, L, B, n, all, h => by
   unfold Yy
   split
   · exact h
   split
   · exact h
   split
   · exact h
   exact Zjx fr to get give f _ _ _ _ (mx_do h _ _ _ _).1
theorem Zfm (o : Off) : ∀ (f : Nat) (L : Led) (B : Bk) (left : Int) (all : List Fl), MX L B -> MX (Z7 o f L B left all).2.1 (Z7 o f L B left all).2.2.1 /\ (Z7 o f L B left all).2.1.par = L.par
 | 0, L, B, n, all, h => ⟨h, rfl⟩
 | f + 1, L, B, n, all, h => by
   unfold Z7
   split
   · exact ⟨h, rfl⟩
   split
   · exact ⟨h, rfl⟩
   split
   · exact ⟨h, rfl⟩
   have hd := mx_do h (Xw L B { o with left := n }).1 o.owner o.owner (Xw L B { o with left := n }).2
   exact ⟨(Zfm o f _ _ _ _ hd.1).1, (Zfm o f _ _ _ _ hd.1).2.trans hd.2⟩
theorem mx_swap {L : Led} {B : Bk} (h : MX L B) (fr to get give n most : Int) : MX (Y6 L B fr to get give n most).2.1 (Y6 L B fr to get give n most).2.2.1 := by
 unfold Y6
 split
 · exact h
 split
 · exact h
 split
 · exact h
 split
 · exact h
 exact Zjx fr to get give _ _ _ _ _ h
theorem mx_come {L : Led} {B : Bk} (h : MX L B) (o : Off) : MX (Vy L B o).2.2.1 (Vy L B o).2.2.2.1 := by
 have hg := Zfm o 65 L B o.left [] h
 unfold Vy
 split
 · exact h
 split
 · exact h
 rename_i hh
 split
 · exact h
 split
 · split
   · exact h
   exact mx_place hg.1 _ _ _ _ _ _ (by rw [Zev hg.2]; simpa using hh)
 exact hg.1
theorem mx_cancel {L : Led} {B : Bk} (h : MX L B) (own sq : Int) : MX L (X1 B own sq).2.2 := by
 unfold X1
 split
 · exact h
 split
 · exact h
 exact h.erase _
theorem mx_step {L : Led} {B : Bk} (h : MX L B) (s : Stp) : MX (Y7 s L B).2.2.1 (Y7 s L B).2.2.2 := by
 unfold Y7
 by_cases k1 : s.kd = 1
 · rw [if_pos k1]
   refine ⟨h.up, h.lo, fun o ho => ?_, h.few, h.nx⟩
   have := h.own o ho
   unfold Jl
   split
   · split
     · exact this
     unfold Yl at this ⊢
     simp only [Bool.and_eq_true] at this ⊢
     refine ⟨this.1, ?_⟩
     rw [List.getD_eq_getElem?_getD, List.getElem?_set]
     split
     · split
       · rfl
       rename_i h1 h2
       have h3 := this.2
       rw [List.getD_eq_getElem?_getD, <- h1, List.getElem?_eq_none (by omega)] at h3
       exact absurd h3 (by simp)
     rw [<- List.getD_eq_getElem?_getD]; exact this.2
   exact this
 rw [if_neg k1]
 by_cases k2 : s.kd = 2
 · rw [if_pos k2]; exact h.par (par_trust _ _ _ _ _)
 rw [if_neg k2]
 by_cases k3 : s.kd = 3
 · rw [if_pos k3]; exact h.par (Zkv _ _ _ _ _)
 rw [if_neg k3]
 by_cases k4 : s.kd = 4
 · rw [if_pos k4]; exact mx_swap h _ _ _ _ _ _
 rw [if_neg k4]
 by_cases k5 : s.kd = 5
 · rw [if_pos k5]; exact mx_come h _
 rw [if_neg k5]
 by_cases k6 : s.kd = 6
 · rw [if_pos k6]; exact mx_cancel h _ _
 rw [if_neg k6]
 by_cases k7 : s.kd = 7
 · rw [if_pos k7]; exact h.par (par_net _ _ _)
 rw [if_neg k7]
 by_cases k8 : s.kd = 8
 · rw [if_pos k8]; exact h
 rw [if_neg k8]
 by_cases k9 : s.kd = 9
 · rw [if_pos k9]; exact h
 rw [if_neg k9]
 by_cases k10 : s.kd = 10
 · rw [if_pos k10]; exact h
 rw [if_neg k10]
 by_cases k11 : s.kd = 11
 · rw [if_pos k11]
   cases Yf B.offs s.sq <;> exact h
 rw [if_neg k11]
 exact h
theorem mx_run : ∀ (l : List Stp) (i : Int) (L : Led) (B : Bk) (g : List Gt), MX L B -> MX (Jk l i L B g).2.2.2.1 (Jk l i L B g).2.2.2.2
 | [], _, _, _, _, h => h
 | s :: l, i, L, B, g, h => by
   unfold Jk
   split
   · exact h
   exact mx_run l _ _ _ _ (mx_step h s)
theorem Zmh {L : Led} {B : Bk} (h : MX L B) (l : List Stp) : MX (Xb l L B).2.1 (Xb l L B).2.2 := by
 unfold Xb
 split
 · exact h
 split
 · exact h
 exact mx_run l 0 L B [] h
theorem mx_new : MX Zia ⟨[], 1⟩ := ⟨List.Pairwise.nil, fun o ho => by simp at ho, fun o ho => by simp at ho, by decide, by decide⟩
structure PsOk (ps : List Int) : Prop where
 up : ps.Pairwise (· < ·)
 ok : ∀ x ∈ ps, Zm x = true
theorem PsOk.prev {ps : List Int} (h : PsOk ps) (k : Nat) (hk : k + 1 < ps.length) : ps[k]'(Nat.lt_of_succ_lt hk) < ps[k + 1]'hk := List.pairwise_iff_getElem.1 h.up k (k + 1) (by omega) hk (by omega)
theorem PsOk.fresh {ps : List Int} (h : PsOk ps) (k : Nat) (hk : k < ps.length) : ps[k]'hk ∉ ps.take k := fun hm => by
 obtain ⟨j, hj, he⟩ := List.getElem_of_mem hm
 rw [List.getElem_take] at he
 simp at hj
 have := List.pairwise_iff_getElem.1 h.up j k (by omega) hk (by omega)
 omega
def Znx (par : List Bool) (ps : List Int) : Prop := par.length = 17 /\ ∀ j : Nat, j < 17 -> par.getD j false = decide ((j : Int) ∈ ps)
theorem Zop {par : List Bool} {ps : List Int} (hp : PsOk ps) (k : Nat) (hk : k < ps.length) (h : Znx par (ps.take k)) :
 (Jl ⟨par, []⟩ (ps[k]'hk)) = (0, ⟨par.set (ps[k]'hk).toNat true, []⟩) /\ Znx (par.set (ps[k]'hk).toNat true) (ps.take (k + 1)) := by
 have hx := hp.ok _ (List.getElem_mem hk)
 have hf := hp.fresh k hk
 have hb : 1 <= ps[k]'hk /\ ps[k]'hk <= 16 := by unfold Zm at hx; simpa using hx
 have ht : ps.take (k + 1) = ps.take k ++ [ps[k]'hk] := by rw [List.take_add_one, List.getElem?_eq_getElem hk]; rfl
 generalize hg : ps[k]'hk = x at *
 have hxn : (x.toNat : Int) = x := Int.toNat_of_nonneg (by omega)
 have hm := h.2 x.toNat (by omega)
 rw [hxn] at hm
 refine ⟨?_, by simp [h.1], fun j hj => ?_⟩
 · unfold Jl
   rw [if_pos hx, if_neg (by rw [hm]; simpa using hf)]
 rw [ht]
 have hl := h.1
 by_cases hjx : j = x.toNat
 · subst hjx
   rw [hxn]
   have h1 : x.toNat < par.length := by omega
   simp [List.getD_eq_getElem?_getD, List.getElem?_set_self h1]
 have h1 : x.toNat ≠ j := fun e => hjx e.symm
 have h2 : (j : Int) ≠ x := fun e => hjx (by omega)
 have := h.2 j hj
 rw [List.getD_eq_getElem?_getD, List.getElem?_set_ne h1, <- List.getD_eq_getElem?_getD, this]
 simp [h2]
theorem marks_all {L : Led} (hl : L.par.length = 17) {par : List Bool} (h : Znx par (Zu L)) : par = L.par := by
 refine List.ext_getElem (by rw [h.1, hl]) fun j h1 h2 => ?_
 have hj : j < 17 := by rw [<- hl]; exact h2
 have e := h.2 j hj
 rw [List.getD_eq_getElem?_getD, List.getElem?_eq_getElem h1] at e
 have e2 := Zb4 L j
 rw [List.getD_eq_getElem?_getD, List.getElem?_eq_getElem h2] at e2
 simp only [Option.getD_some] at e e2
 rw [e, Bool.eq_iff_iff, decide_eq_true_iff, e2]
 exact ⟨fun h => h.2, fun h => ⟨hj, h⟩⟩
theorem Zkw (L : Led) : ∀ k, (Zb1 L k).Pairwise (· < ·) /\ ∀ x ∈ Zb1 L k, 0 <= x /\ x < (k : Int)
 | 0 => by simp [Zb1]
 | k + 1 => by
   obtain ⟨h1, h2⟩ := Zkw L k
   rw [Zc0]
   constructor
   · rw [List.pairwise_append]
     refine ⟨h1, by split <;> simp, fun a ha b hb => ?_⟩
     split at hb
     · have := h2 a ha
       simp at hb
       omega
     simp at hb
   intro x hx
   rcases List.mem_append.1 hx with hx | hx
   · have := h2 x hx; omega
   split at hx
   · simp at hx; omega
   simp at hx
theorem ps_ok {L : Led} (hw : WF L) : PsOk (Zu L) :=
 ⟨(Zkw L 17).1, fun x hx => by
   have h := (Zkw L 17).2 x hx
   have h0 : x ≠ 0 := fun e => by
    subst e
    have := (Zb4 L 0).1 hx
    rw [hw.par0] at this
    exact absurd this.2 (by simp)
   unfold Zm
   simp
   omega⟩
structure LnOk (par : List Bool) (S : Zv) : Prop where
 up : ∀ k (h : k + 1 < S.length), Zcm (S[k]'(by omega)) (S[k + 1]'h) < 0
 new : ∀ k (h : k < S.length), lkO (S.take k) (S[k]'h).1 = none
 ends : ∀ x ∈ S, Ux x.1 = true /\ par.getD x.1.1.toNat false = true /\ par.getD x.1.2.1.toNat false = true
 nums : ∀ x ∈ S, 1 <= x.2.1 /\ x.2.1 <= 1099511627776 /\ 0 <= x.2.2 /\ x.2.2 <= x.2.1
 few : S.length <= 64
theorem upd_app {k : K3} {v : V2} : ∀ {l : Zv}, lkO l k = none -> upd l k v = l ++ [(k, v)]
 | [], _ => rfl
 | x :: xs, h => by
   unfold lkO at h
   have h1 : (x.1 == k) = false := by
    cases hx : (x.1 == k) with
    | false => rfl
    | true => simp [hx] at h
   have h2 : lkO xs k = none := by
    unfold lkO
    simpa [h1] using h
   unfold upd
   rw [h1, if_neg (by simp), upd_app h2]
   rfl
theorem ln_ok {L : Led} (hw : WF L) (hk : (L.lines.map (·.1)).Nodup) : LnOk L.par (Z9 L.lines) := by
 have hnd : ((Z9 L.lines).map (·.1)).Nodup := ((Vt L.lines).map _).nodup_iff.2 hk
 have hkey : ∀ i j (hi : i < (Z9 L.lines).length) (hj : j < (Z9 L.lines).length), i < j -> ((Z9 L.lines)[i]'hi).1 ≠ ((Z9 L.lines)[j]'hj).1 := fun i j hi hj hij e => by
  have := List.pairwise_iff_getElem.1 hnd i j (by simpa using hi) (by simpa using hj) hij
  simp at this
  exact this e
 have hso : (Z9 L.lines).Pairwise (fun a b => Zbf b a = false) := V4 (p := fun _ => True) (fun x y _ _ => Zd5 x y) (fun x y z _ _ _ => Zan x y z) _ fun _ _ => trivial
 refine ⟨fun k h => ?_, fun k h => ?_, fun x hx => ?_, fun x hx => ?_, by rw [Vu]; exact hw.few⟩
 · have h1 := List.pairwise_iff_getElem.1 hso k (k + 1) (by omega) h (by omega)
   by_cases h2 : Zbf ((Z9 L.lines)[k]'(by omega)) ((Z9 L.lines)[k + 1]'h) = true
   · unfold Zbf at h2; simpa using h2
   exact absurd (Zh8 (by simpa using h2) h1) (hkey k (k + 1) (by omega) h (by omega))
 · unfold lkO
   rw [Option.map_eq_none_iff, List.find?_eq_none]
   intro y hy e
   obtain ⟨j, hj, rfl⟩ := List.getElem_of_mem hy
   simp at hj
   rw [List.getElem_take] at e
   exact hkey j k (by omega) h (by omega) (by simpa using e)
 · have := hw.ends x (U8.1 hx)
   refine ⟨this.1, ?_, ?_⟩
   · have h := this.2.1; unfold Yl at h; simp at h; simpa using h.2
   have h := this.2.2; unfold Yl at h; simp at h; simpa using h.2
 exact hw.nums x (U8.1 hx)
theorem lof_any (b1 b2 : Nat) (v1 v2 : Value) (ps : List Int) (S : Zv) (par : List Bool) (w : World) (h1 : Zr w b1 1 v1 ps.length (ps.map (Value.int .u8))) (h2 : Zr w b2 5 v2 S.length (Yt S)) (hp : PsOk ps) (hpar : ∀ pr, Znx pr ps -> pr = par) (hS : LnOk par S) :
 Calls Tryz.prog 96 #[v1, v2] w (fun e w' => ∃ p m, e = .returned (.tuple #[.pointer (some ⟨p, 0, none⟩), .int .i64 0]) /\ Ext w w' /\ IsLed w' p m ⟨par, S⟩) := by
 obtain ⟨A, cap, rfl, q1, q2, q3, q4⟩ := h1
 obtain ⟨A', cap', rfl, r1, r2, r3, r4⟩ := h2
 have hn63 : (ps.length : Int) <= 9223372036854775807 := by unfold maxLen at q2; omega
 have hm63 : (S.length : Int) <= 9223372036854775807 := by unfold maxLen at r2; omega
 have hfew := hS.few
 have g64 : decide ((S.length : Int) > 64) = false := by simp; omega
 go_enter Tryz.func96, Tryz.ntmps96
 go_wp2_with fail
 refine (new_any w).mono ?_
 rintro e w1 ⟨p, m, rfl, e1, hL1, hp1, hm1⟩
 have hlt1 := hL1.ltp
 have hlt2 := hL1.ltm
 go_wp2_with fail
 go_loopw [4, 5, 7, 8, 15, 16, 17, 18, 19, 20, 21, 22, 23, 24, 25, 26, 27, 28, 29, 30, 31, 32, 33, 34, 35, 36, 37] (fun _ _ _ _ iv _ _ _ _ _ _ _ _ _ _ _ _ _ _ _ _ _ _ _ _ _ _ wr => ∃ k : Nat, k <= ps.length /\ iv = .int .i64 k /\ ∃ pr, Znx pr (ps.take k) /\ IsLed wr p m ⟨pr, []⟩ /\ Ext w wr) (fun _ _ _ _ iv _ _ _ _ _ _ _ _ _ _ _ _ _ _ _ _ _ _ _ _ _ _ _ => ps.length - (intOf iv).toNat)
 case atStart => exact ⟨0, Nat.zero_le _, rfl, _, ⟨rfl, fun j hj => by simp only [List.take_zero, List.not_mem_nil, decide_false]; revert j; decide⟩, hL1, e1⟩
 obtain ⟨k, hk, rfl, pr, hmk, hL, er⟩ := hrel
 by_cases hkn : k < ps.length
 · rcases q4 with q4 | ⟨g, rfl, hb, hlt, hcell⟩
   · omega
   have hj1 : (0 : Int) <= (k : Int) := by omega
   have hj2 : (k : Int) < (ps.length : Int) := by omega
   have hc : wr.cell? ⟨g, k, none⟩ = some (.int .u8 (ps[k]'hkn)) := (Zh (er.block hlt)).trans (hcell k _ (by rw [List.getElem?_map, List.getElem?_eq_getElem hkn]; rfl))
   obtain ⟨ho, hmk2⟩ := Zop hp k hkn hmk
   have hop := Zmd p m ⟨pr, []⟩ (ps[k]'hkn) wr hL
   rw [ho] at hop
   cases k with
   | zero =>
     clear hcell q3 hmk ho hp hS
     generalize (ps[0]'hkn) = x at *
     go_wp2_with fail
     refine hop.mono ?_
     rintro e w2 ⟨rfl, k2, hL2⟩
     go_wp2
     exact ⟨⟨1, by omega, by first | rfl | go_num, _, hmk2, hL2, (Keep.trans_fresh (S := []) (Kx er) k2 (fun x hx => by right; simp at hx; omega)).ext⟩, by simp [intOf]; omega⟩
   | succ k =>
     have hpv : wr.cell? ⟨g, k, none⟩ = some (.int .u8 (ps[k]'(Nat.lt_of_succ_lt hkn))) := (Zh (er.block hlt)).trans (hcell k _ (by rw [List.getElem?_map, List.getElem?_eq_getElem (Nat.lt_of_succ_lt hkn)]; rfl))
     have hlt3 := hp.prev k hkn
     have hle : decide ((ps[k + 1]'hkn) <= (ps[k]'(Nat.lt_of_succ_lt hkn))) = false := by simp; omega
     have hs1 : ((k + 1 : Nat) : Int) - 1 = (k : Int) := by omega
     clear hcell q3 hmk ho hp hS hlt3
     generalize (ps[k + 1]'hkn) = x at *
     generalize (ps[k]'(Nat.lt_of_succ_lt hkn)) = y at *
     go_wp2_with fail
     refine hop.mono ?_
     rintro e w2 ⟨rfl, k2, hL2⟩
     go_wp2
     exact ⟨⟨k + 2, by omega, by go_num, _, hmk2, hL2, (Keep.trans_fresh (S := []) (Kx er) k2 (fun x hx => by right; simp at hx; omega)).ext⟩, by simp [intOf]; omega⟩
 have hk' : k = ps.length := by omega
 subst hk'
 rw [List.take_length] at hmk
 have hpe := hpar pr hmk
 subst hpe
 clear hpar hmk hp q3 q4 hkn hk
 go_wp2_with fail
 go_loopw [4, 5, 9, 10, 11, 43, 44, 45, 46, 47, 48, 49, 50, 51, 52, 53, 54, 55, 56, 57, 58, 59, 60, 61, 62, 63, 64, 65, 66, 67, 68, 69, 70, 71, 72, 73, 74, 75, 76, 77, 78, 79, 80, 81, 82, 83, 84, 85, 86, 87, 88, 89, 90, 91, 92, 93, 94, 95, 96, 97, 98, 99, 100, 101, 102, 103, 104, 105, 106, 107, 108, 109, 110, 111, 112, 113] (fun _ _ _ _ _ iv _ _ _ _ _ _ _ _ _ _ _ _ _ _ _ _ _ _ _ _ _ _ _ _ _ _ _ _ _ _ _ _ _ _ _ _ _ _ _ _ _ _ _ _ _ _ _ _ _ _ _ _ _ _ _ _ _ _ _ _ _ _ _ _ _ _ _ _ _ _ wr => ∃ k : Nat, k <= S.length /\ iv = .int .i64 k /\ IsLed wr p m ⟨pr, S.take k⟩ /\ Ext w wr) (fun _ _ _ _ _ iv _ _ _ _ _ _ _ _ _ _ _ _ _ _ _ _ _ _ _ _ _ _ _ _ _ _ _ _ _ _ _ _ _ _ _ _ _ _ _ _ _ _ _ _ _ _ _ _ _ _ _ _ _ _ _ _ _ _ _ _ _ _ _ _ _ _ _ _ _ _ _ => S.length - (intOf iv).toNat)
 case atStart => exact ⟨0, Nat.zero_le _, rfl, hL, er⟩
 clear hL er
 obtain ⟨kk, hk, rfl, hL, er⟩ := hrel
 by_cases hkn : kk < S.length
 · rcases r4 with r4 | ⟨g', rfl, hb', hlt', hcell'⟩
   · omega
   have hj1 : (0 : Int) <= (kk : Int) := by omega
   have hj2 : (kk : Int) < (S.length : Int) := by omega
   have hlds := fun j hj => Zbh wr g' j S hj (fun i u hu => (Zh (er.block hlt')).trans (hcell' i u hu))
   have hld := hlds kk hkn
   have hen := hS.ends _ (List.getElem_mem hkn)
   have hnu := hS.nums _ (List.getElem_mem hkn)
   have hup : upd (S.take kk) (S[kk]'hkn).1 (S[kk]'hkn).2 = S.take (kk + 1) := by
    rw [upd_app (hS.new kk hkn), List.take_add_one, List.getElem?_eq_getElem hkn]; rfl
   have hprev : ∀ i, kk = i + 1 -> ∃ y, (∀ wq, Ext wr wq -> (loadVar 149 ⟨g', i * 5, none⟩).run Tryz.prog wq = .ok (J7 y) wq) /\ Zcm y (S[kk]'hkn) < 0 := fun i hi => by
    subst hi
    exact ⟨S[i]'(Nat.lt_of_succ_lt hkn), fun wq q => Zbh wq g' i S _ (fun i u hu => (Zh ((Xt er q).block hlt')).trans (hcell' i u hu)), hS.up i hkn⟩
   clear hcell' hlds r3 hS
   generalize (S[kk]'hkn) = x at *
   obtain ⟨⟨a, b, c⟩, ⟨lim, dbt⟩⟩ := x
   obtain ⟨n1, n2, n3, n4⟩ := hnu
   obtain ⟨hme, hpa, hpb⟩ := hen
   simp only [J7] at hld hup n1 n2 n3 n4 hme hpa hpb
   obtain ⟨⟨a1, a2⟩, ⟨b1', b2'⟩, _⟩ := (Zeb a b c).1 hme
   obtain ⟨ja, rfl⟩ := Int.eq_ofNat_of_zero_le (show 0 <= a by omega)
   obtain ⟨jb, rfl⟩ := Int.eq_ofNat_of_zero_le (show 0 <= b by omega)
   simp only [Int.toNat_natCast] at hpa hpb
   have HUP := Lib.hid hup
   have HPV := Lib.hid hprev
   have HPA := Lib.hid hpa
   have HPB := Lib.hid hpb
   have f1 : decide (lim < 1) = false := by simp; omega
   have f2 : decide (lim > 1099511627776) = false := by simp; omega
   have f3 : decide (dbt < 0) = false := by simp; omega
   have f4 : decide (dbt > lim) = false := by simp; omega
   have hmay := fun W => Zgn (ja : Int) (jb : Int) c W
   rw [hme] at hmay
   simp only [Y9] at hmay
   clear hup hprev hpa hpb hme n1 n2 n3 n4
   have h3 := Zb wr (.cells #[.int .u8 (ja : Int), .int .u8 (jb : Int), .int .u8 c, .int .i64 lim, .int .i64 dbt] 149)
   have e3 := Zc wr (.cells #[.int .u8 (ja : Int), .int .u8 (jb : Int), .int .u8 c, .int .i64 lim, .int .i64 dbt] 149)
   have s3 := size_alloc wr (.cells #[.int .u8 (ja : Int), .int .u8 (jb : Int), .int .u8 c, .int .i64 lim, .int .i64 dbt] 149)
   have h5 := Zb (wr.alloc (.cells #[.int .u8 (ja : Int), .int .u8 (jb : Int), .int .u8 c, .int .i64 lim, .int .i64 dbt] 149)) (.cells #[.int .u8 (ja : Int), .int .u8 (jb : Int), .int .u8 c] 154)
   have e5 := Zc (wr.alloc (.cells #[.int .u8 (ja : Int), .int .u8 (jb : Int), .int .u8 c, .int .i64 lim, .int .i64 dbt] 149)) (.cells #[.int .u8 (ja : Int), .int .u8 (jb : Int), .int .u8 c] 154)
   rw [s3] at h5
   have h35 := e5.at h3
   have E5 := Xt e3 e5
   clear h3 s3 e3 e5
   go_wp2_with (refine Zd rfl 149 _ _ _ rfl rfl hld ?_)
   refine (hmay _).mono ?_
   rintro e w6 ⟨rfl, e6⟩
   have h36 := e6.at h35
   have h56 := e6.at h5
   have E6 : Ext wr w6 := Xt E5 e6
   have hL6 := hL.ext E6
   clear hmay h5 h35 hld e6 E5
   go_wp2_with fail
   refine Ya Zk [] (by kernel_rfl) (by kernel_rfl) ?_
   intro w1 hw1
   have hLu : ∀ u : ExtOf w1, IsLed u.to p m ⟨pr, S.take kk⟩ := fun u => hL6.ext (Xt hw1 u.h)
   have cp : ∀ u : ExtOf w1, u.to.cell? ⟨p, ja, none⟩ = some (.bool true) := fun u => by have := (hLu u).cellP ja (by omega); rwa [HPA.out] at this
   have d0 := fun u : ExtOf w1 => Za (j := 0) ((Xt hw1 u.h).at h56) rfl
   clear hLu
   simp only [Zj, Rg.hsB, Nat.reduceAdd, ↓reduceIte]
   repeat (go_big_quiet_step (fail))
   refine wpQuiet_nil ?_
   refine Xo (by kernel_rfl) ?_
   intro w7 e7 e7'
   try simp only [Act.put, Rg.puC, Rg.puB]
   have h37 := e7.at h36
   have h57 := e7.at h56
   have hL7 := hL6.ext e7
   have E7 := Xt E6 e7
   clear cp d0 hw1 hL6 h36 h56 E6 e7 e7'
   go_wp2_with fail
   refine Ya Zk [] (by kernel_rfl) (by kernel_rfl) ?_
   intro w1 hw1
   have hLu : ∀ u : ExtOf w1, IsLed u.to p m ⟨pr, S.take kk⟩ := fun u => hL7.ext (Xt hw1 u.h)
   have cp : ∀ u : ExtOf w1, u.to.cell? ⟨p, jb, none⟩ = some (.bool true) := fun u => by have := (hLu u).cellP jb (by omega); rwa [HPB.out] at this
   have d0 := fun u : ExtOf w1 => Za (j := 1) ((Xt hw1 u.h).at h57) rfl
   clear hLu
   simp only [Zj, Rg.hsB, Nat.reduceAdd, ↓reduceIte]
   repeat (go_big_quiet_step (fail))
   refine wpQuiet_nil ?_
   refine Xo (by kernel_rfl) ?_
   intro w8 e8 e8'
   try simp only [Act.put, Rg.puC, Rg.puB]
   have h38 := e8.at h37
   have h58 := e8.at h57
   have hL8 := hL7.ext e8
   have E8 := Xt E7 e8
   clear cp d0 hw1 hL7 h37 h57 E7 e8 e8'
   have y3 := Za (j := 3) h38 rfl
   have y4 := Za (j := 4) h38 rfl
   cases kk with
   | zero =>
     go_wp2_with fail
     clear y3 y4 f1 f2 f3 f4
     refine Ya Zk [] (by kernel_rfl) (by kernel_rfl) ?_
     intro w1 hw1
     simp only [Zj, Rg.hsB, Nat.reduceAdd, ↓reduceIte]
     repeat (go_big_quiet_step (fail))
     refine wpQuiet_nil ?_
     refine Xo (by kernel_rfl) ?_
     intro w9 e9 e9'
     try simp only [Act.put, Rg.puC, Rg.puB]
     have h39 := e9.at h38
     have h59 := e9.at h58
     have hL9 := hL8.ext e9
     have E9 := Xt er (Xt E8 e9)
     clear hw1 hL8 h38 h58 E8 e9 e9'
     obtain ⟨kk, hkk⟩ : ∃ kk : Nat, kk = 0 := ⟨0, rfl⟩
     rw [<- hkk] at hL9 HUP
     go_wp2_with fail
     refine Ze Zk 10 [] (by kernel_rfl) (by kernel_rfl) ?_
     intro w1 hw1
     have hLu : ∀ u : ExtOf w1, IsLed u.to p m ⟨pr, S.take kk⟩ := fun u => hL9.ext (Xt hw1 u.h)
     have c17 : ∀ u : ExtOf w1, u.to.cell? ⟨p, 17, none⟩ = some (.map (some m)) := fun u => (hLu u).cell17
     have d3 := fun u : ExtOf w1 => Za (j := 3) ((Xt hw1 u.h).at h39) rfl
     have d4 := fun u : ExtOf w1 => Za (j := 4) ((Xt hw1 u.h).at h39) rfl
     have lde : ∀ wq, Cls w1 wq -> (loadVar 154 ⟨wr.heap.size + 1, 0, none⟩).run Tryz.prog wq = .ok (.agg #[.int .u8 (ja : Int), .int .u8 (jb : Int), .int .u8 c]) wq := by
      rintro _ ⟨u, rfl⟩
      exact run_loadVar_row u.to (wr.heap.size + 1) _ _ _ _ _ ((Xt hw1 u.h).at h59) Tryz.underlying154 rfl (by kernel_rfl)
     clear hLu
     simp only [Zj, Rg.hsB, Nat.reduceAdd, ↓reduceIte]
     repeat (first | go_big_quiet_step (fail) | (go_big_quiet_want; (refine Z3 154 _ _ _ rfl rfl lde ?_); go_big_quiet_on; simp only [Act.put, Rg.puB]))
     refine wpQuiet_nil ?_
     clear c17 d3 d4 lde
     refine Zi (by kernel_rfl) ?_
     intro w10 e10 e10'
     simp only [Rg.puB]
     have hL10 := hL9.ext e10
     obtain ⟨w11, r11, m11, kp11, _⟩ := Jg m (S.take kk) ((ja : Int), (jb : Int), c) (lim, dbt) w10 hL10.map
     rw [HUP.out] at m11
     simp only [Y9, Ul] at r11
     have E11 : Ext w w11 := (Keep.trans_fresh (S := []) (Kx (Xt E9 e10)) kp11 (fun x hx => by right; simp at hx; omega)).ext
     have hL11 : IsLed w11 p m ⟨pr, S.take (kk + 1)⟩ := ⟨kp11.at hL10.row (by simpa using hL10.ne), hL10.len, m11⟩
     clear kp11 m11
     go_wp2
     subst hkk
     exact ⟨⟨1, by omega, by first | rfl | go_num, hL11, E11⟩, by simp [intOf]; omega⟩
   | succ kp =>
     obtain ⟨y, hldp, hcmp⟩ := HPV.out kp rfl
     have hs1 : ((kp + 1 : Nat) : Int) - 1 = (kp : Int) := by omega
     have hgt : decide (((kp + 1 : Nat) : Int) > 0) = true := by simp only [decide_eq_true_eq]; omega
     have hpi : (kp : Int) < (S.length : Int) := by omega
     have hc0 : decide (Zcm y (((ja : Int), (jb : Int), c), lim, dbt) >= 0) = false := by simp; omega
     have hord := fun W => (D.Zjr y (((ja : Int), (jb : Int), c), lim, dbt) W).mono (R' := Ret _ W) fun _ _ ⟨h1, h2⟩ => ⟨h1, h2.to⟩
     obtain ⟨cv, hcv⟩ : ∃ cv, cv = Zcm y (((ja : Int), (jb : Int), c), lim, dbt) := ⟨_, rfl⟩
     rw [<- hcv] at hc0 hord
     simp only [J7] at hldp hord
     clear hcv hcmp
     go_wp2_with fail
     clear y3 y4 f1 f2 f3 f4
     refine Ya Zk [] (by kernel_rfl) (by kernel_rfl) ?_
     intro w1 hw1
     have ldp : ∀ wq, Cls w1 wq -> (loadVar 149 ⟨g', kp * 5, none⟩).run Tryz.prog wq = .ok (.agg #[.int .u8 y.1.1, .int .u8 y.1.2.1, .int .u8 y.1.2.2, .int .i64 y.2.1, .int .i64 y.2.2]) wq := by
      rintro _ ⟨u, rfl⟩
      exact hldp u.to (Xt E8 (Xt hw1 u.h))
     have ldl : ∀ wq, Cls w1 wq -> (loadVar 149 ⟨wr.heap.size, 0, none⟩).run Tryz.prog wq = .ok (.agg #[.int .u8 (ja : Int), .int .u8 (jb : Int), .int .u8 c, .int .i64 lim, .int .i64 dbt]) wq := by
      rintro _ ⟨u, rfl⟩
      exact run_loadVar_row u.to wr.heap.size _ _ _ _ _ ((Xt hw1 u.h).at h38) Tryz.underlying149 rfl (by kernel_rfl)
     have hordu : ∀ u : ExtOf w1, Calls Tryz.prog 84 #[.agg #[.int .u8 y.1.1, .int .u8 y.1.2.1, .int .u8 y.1.2.2, .int .i64 y.2.1, .int .i64 y.2.2], .agg #[.int .u8 (ja : Int), .int .u8 (jb : Int), .int .u8 c, .int .i64 lim, .int .i64 dbt]] u.to (Ret (.int .i64 cv) u.to) := fun u => hord u.to
     clear hldp hord
     simp only [Zj, List.contains_nil, Bool.false_eq_true, Nat.reduceAdd, ↓reduceIte]
     repeat (first | go_big_quiet_step ((go_at_call 84; exact Ret.cls (hordu _))) | (go_big_quiet_want; (first | refine Z3 149 _ _ _ rfl rfl ldp ?_ | refine Z3 149 _ _ _ rfl rfl ldl ?_); go_big_quiet_on; simp only [Act.put, Rg.puB]))
     refine wpQuiet_nil ?_
     refine Xo (by kernel_rfl) ?_
     intro w9 e9 e9'
     try simp only [Act.put, Rg.puC, Rg.puB]
     have h39 := e9.at h38
     have h59 := e9.at h58
     have hL9 := hL8.ext e9
     have E9 := Xt er (Xt E8 e9)
     clear hw1 hL8 h38 h58 E8 e9 e9' ldp ldl hordu hs1 hgt
     obtain ⟨kk, hkk⟩ : ∃ kk : Nat, kk = kp + 1 := ⟨_, rfl⟩
     rw [<- hkk] at hL9 HUP
     go_wp2_with fail
     refine Ze Zk 10 [] (by kernel_rfl) (by kernel_rfl) ?_
     intro w1 hw1
     have hLu : ∀ u : ExtOf w1, IsLed u.to p m ⟨pr, S.take kk⟩ := fun u => hL9.ext (Xt hw1 u.h)
     have c17 : ∀ u : ExtOf w1, u.to.cell? ⟨p, 17, none⟩ = some (.map (some m)) := fun u => (hLu u).cell17
     have d3 := fun u : ExtOf w1 => Za (j := 3) ((Xt hw1 u.h).at h39) rfl
     have d4 := fun u : ExtOf w1 => Za (j := 4) ((Xt hw1 u.h).at h39) rfl
     have lde : ∀ wq, Cls w1 wq -> (loadVar 154 ⟨wr.heap.size + 1, 0, none⟩).run Tryz.prog wq = .ok (.agg #[.int .u8 (ja : Int), .int .u8 (jb : Int), .int .u8 c]) wq := by
      rintro _ ⟨u, rfl⟩
      exact run_loadVar_row u.to (wr.heap.size + 1) _ _ _ _ _ ((Xt hw1 u.h).at h59) Tryz.underlying154 rfl (by kernel_rfl)
     clear hLu
     simp only [Zj, Rg.hsB, Nat.reduceAdd, ↓reduceIte]
     repeat (first | go_big_quiet_step (fail) | (go_big_quiet_want; (refine Z3 154 _ _ _ rfl rfl lde ?_); go_big_quiet_on; simp only [Act.put, Rg.puB]))
     refine wpQuiet_nil ?_
     clear c17 d3 d4 lde
     refine Zi (by kernel_rfl) ?_
     intro w10 e10 e10'
     simp only [Rg.puB]
     have hL10 := hL9.ext e10
     obtain ⟨w11, r11, m11, kp11, _⟩ := Jg m (S.take kk) ((ja : Int), (jb : Int), c) (lim, dbt) w10 hL10.map
     rw [HUP.out] at m11
     simp only [Y9, Ul] at r11
     have E11 : Ext w w11 := (Keep.trans_fresh (S := []) (Kx (Xt E9 e10)) kp11 (fun x hx => by right; simp at hx; omega)).ext
     have hL11 : IsLed w11 p m ⟨pr, S.take (kk + 1)⟩ := ⟨kp11.at hL10.row (by simpa using hL10.ne), hL10.len, m11⟩
     clear kp11 m11
     go_wp2
     subst hkk
     exact ⟨⟨kp + 2, by omega, by go_num, hL11, E11⟩, by simp [intOf]; omega⟩
 have hk' : kk = S.length := by omega
 subst hk'
 rw [List.take_length] at hL
 clear hS r3 r4
 go_wp2
 go_ret2
 exact ⟨p, m, rfl, er, hL⟩
theorem bof_any (b : Nat) (v : Value) (l : List Off) (nx : Int) (w : World) (h : Za6 w b v l) (hok : ∀ o ∈ l, Y5 o = true) (hup : (l.map Off.seq).Pairwise (· < ·)) (hlo : ∀ o ∈ l, 1 <= o.seq /\ o.seq < nx) (hfew : l.length <= 32) (hn : 0 < nx) (hn2 : nx <= 18446744073709551615) :
 Calls Tryz.prog 97 #[v, .int .u64 nx] w (fun e w' => ∃ p g, e = .returned (.tuple #[.pointer (some ⟨p, 0, none⟩), .int .i64 0]) /\ Ext w w' /\ IsBook w' p g ⟨l, nx⟩) := by
 have hcl := fun w2 (k : Ext w w2) => Zbn b v l w2 (Zr.ext h k) (by omega)
 obtain ⟨A, cap, rfl, q1, q2, q3, q4⟩ := h
 have hn63 : (l.length : Int) <= 9223372036854775807 := by omega
 have g32 : decide ((l.length : Int) > 32) = false := by simp; omega
 have HCL := Lib.hid hcl
 clear hcl
 go_enter Tryz.func97, Tryz.ntmps97
 go_wp2_with fail
 go_loopw [4, 5, 6, 8, 14, 15, 16, 17, 18, 19, 20, 21, 22, 23, 24, 25, 26, 27, 28, 29] (fun _ _ la _ iv _ _ _ _ _ _ _ _ _ _ _ _ _ _ _ wr => ∃ (k : Nat) (z : Int), k <= l.length /\ iv = .int .i64 k /\ la = .int .u64 z /\ 0 <= z /\ z < nx /\ (∀ hk : k < l.length, z < (l[k]'hk).seq) /\ Ext w wr) (fun _ _ _ _ iv _ _ _ _ _ _ _ _ _ _ _ _ _ _ _ _ => l.length - (intOf iv).toNat)
 case atStart => exact ⟨0, 0, Nat.zero_le _, rfl, rfl, by omega, by omega, fun hk => by have := (hlo _ (List.getElem_mem hk)).1; omega, Ext.refl _⟩
 obtain ⟨k, z, hk, rfl, rfl, hz0, hz1, hzk, er⟩ := hrel
 by_cases hkn : k < l.length
 · rcases q4 with q4 | ⟨g, rfl, hb, hlt, hcell⟩
   · omega
   have hj1 : (0 : Int) <= (k : Int) := by omega
   have hj2 : (k : Int) < (l.length : Int) := by omega
   have hld := Jn wr g k l hkn (fun i u hu => (Zh (er.block hlt)).trans (hcell i u hu))
   have hz := hzk hkn
   have hm := hok _ (List.getElem_mem hkn)
   have hl2 := hlo _ (List.getElem_mem hkn)
   have hnext : ∀ hk2 : k + 1 < l.length, (l[k]'hkn).seq < (l[k + 1]'hk2).seq := fun hk2 => by
    have := List.pairwise_iff_getElem.1 hup k (k + 1) (by simpa using hkn) (by simpa using hk2) (by omega)
    simpa using this
   clear hcell q3 hzk
   generalize (l[k]'hkn) = o at *
   obtain ⟨seq, owner, sell, buy, left, num, den⟩ := o
   have hbd : num <= 9223372036854775807 /\ den <= 9223372036854775807 := by
    unfold Y5 at hm
    rw [decide_eq_true_eq] at hm
    have h9 := hm.2.2.2.2.2.2.2.2.2
    unfold Xd at h9
    rw [decide_eq_true_eq] at h9
    simp only at h9
    omega
   have hmay := fun W => Znm seq owner sell buy left num den W hbd.1 hbd.2
   rw [hm] at hmay
   simp only [Off.agg] at hmay hld hz hl2 hnext
   have HNX := Lib.hid hnext
   have f1 : decide (seq <= z) = false := by simp; omega
   have h3 := Zb wr (.cells #[.int .u64 seq, .int .u8 owner, .int .u8 sell, .int .u8 buy, .int .i64 left, .int .i64 num, .int .i64 den] 32)
   have e3 := Zc wr (.cells #[.int .u64 seq, .int .u8 owner, .int .u8 sell, .int .u8 buy, .int .i64 left, .int .i64 num, .int .i64 den] 32)
   have ld3 := run_loadVar_row (P := Tryz.prog) _ wr.heap.size _ 32 _ _ _ h3 Tryz.underlying32 rfl (by kernel_rfl)
   clear hbd hnext hm
   go_wp2_with (first
    | (refine Zd rfl 32 _ _ _ rfl rfl hld ?_)
    | (refine Zd rfl 32 _ _ _ rfl rfl ld3 ?_))
   refine (hmay _).mono ?_
   rintro e w4 ⟨rfl, e4⟩
   have y0 := Za (j := 0) (e4.at h3) rfl
   have E4 := Xt er (Xt e3 e4)
   clear hmay ld3 hld h3 e3 e4
   go_wp2_with fail
   exact ⟨⟨k + 1, seq, by omega, by go_num, rfl, by omega, hl2.2, HNX.out, E4⟩, by simp [intOf]; omega⟩
 have hk' : k = l.length := by omega
 subst hk'
 have f2 : decide (nx <= z) = false := by simp; omega
 clear hzk q3 q4 hkn hok hup hlo
 go_wp2_with fail
 refine (HCL.out wr er).mono ?_
 rintro e w4 ⟨v', rfl, e4, hown⟩
 obtain ⟨A', cap', rfl⟩ := Z8 hown
 have hp := Zb w4 (.cells #[.slice A' l.length cap', .int .u64 nx] 126)
 have ep := Zc w4 (.cells #[.slice A' l.length cap', .int .u64 nx] 126)
 clear HCL f2 g32
 go_wp2
 go_ret2
 exact ⟨_, (Value.slice A' l.length cap').ownBlock, rfl, Xt er (Xt e4 ep), ⟨⟨_, hp, rfl, own_low (Zs hown ep)⟩, hn, hn2, hfew⟩⟩
theorem mof_any (b : Nat) (v : Value) (L : Led) (B : Bk) (w : World) (h : Znu w b v L B) (hk : MOk L B) (hx : MX L B) (hl : L.par.length = 17) (hkeys : (L.lines.map (·.1)).Nodup) (hn2 : B.next <= 18446744073709551615) :
 Calls Tryz.prog 46 #[v] w (fun e w' => ∃ q p m pb g, e = .returned (.tuple #[.pointer (some ⟨q, 0, none⟩), .int .i64 0]) /\ Ext w w' /\ IsM w' q p m pb g L B /\ w.heap.size <= q) := by
 obtain ⟨v1, v2, v3, rfl, s1, s2, s3⟩ := h
 have h0 := Zb w (.cells #[v1, v2, v3, .int .u64 B.next] 83)
 have e0 := Zc w (.cells #[v1, v2, v3, .int .u64 B.next] 83)
 have hlof := fun W (k : Ext w W) => lof_any b b v1 v2 (Zu L) (Z9 L.lines) L.par W (s1.ext k) (s2.ext k) (ps_ok hk.wf) (fun pr hp => marks_all hl hp) (ln_ok hk.wf hkeys)
 have hbof := fun W (k : Ext w W) => bof_any b v3 B.offs B.next W (Zr.ext s3 k) hk.ok hx.up hx.lo hx.few hx.nx hn2
 go_enter Tryz.func46, Tryz.ntmps46
 have x0 := Za (j := 0) h0 rfl
 have x1 := Za (j := 1) h0 rfl
 go_wp2_with fail
 refine (hlof _ e0).mono ?_
 rintro e w2 ⟨p, m, rfl, e2, hL2⟩
 have hL2 : IsLed w2 p m L := ⟨hL2.row, hL2.len, hL2.map.perm (Vt _)⟩
 have E2 := Xt e0 e2
 have x2 := Za (j := 2) (e2.at h0) rfl
 have x3 := Za (j := 3) (e2.at h0) rfl
 clear x0 x1 hlof
 go_wp2_with fail
 refine (hbof _ E2).mono ?_
 rintro e w3 ⟨pb, g, rfl, e3, hB3⟩
 have hL3 := hL2.ext e3
 have E3 := Xt E2 e3
 have x4 := Za (j := 2) ((Xt e2 e3).at h0) rfl
 obtain ⟨A, cap, rfl, q1, q2, q3, q4⟩ := Zr.ext s3 E3
 have hfw := hx.few
 have hn63 : (B.offs.length : Int) <= 9223372036854775807 := by omega
 clear x2 x3 hbof s1 s2 s3 hL2 e3 e2 e0 h0
 go_wp2_with fail
 go_loopw [2, 3, 8, 34, 35, 36, 37, 38, 39, 40, 41, 42, 43] (fun _ _ _ iv _ _ _ _ _ _ _ _ _ wr => ∃ k : Nat, k <= B.offs.length /\ iv = .int .i64 k /\ Ext w3 wr) (fun _ _ _ iv _ _ _ _ _ _ _ _ _ _ => B.offs.length - (intOf iv).toNat)
 case atStart => exact ⟨0, Nat.zero_le _, rfl, Ext.refl _⟩
 obtain ⟨k, hkl, rfl, er⟩ := hrel
 by_cases hkn : k < B.offs.length
 · rcases q4 with q4 | ⟨g', rfl, hb, hlt, hcell⟩
   · omega
   have hj1 : (0 : Int) <= (k : Int) := by omega
   have hj2 : (k : Int) < (B.offs.length : Int) := by omega
   have hld := Jn wr g' k B.offs hkn (fun i u hu => (Zh (er.block hlt)).trans (hcell i u hu))
   have ho := hx.own _ (List.getElem_mem hkn)
   clear hcell q3
   generalize (B.offs[k]'hkn) = o at *
   obtain ⟨seq, owner, sell, buy, left, num, den⟩ := o
   simp only [Off.agg] at hld ho
   have h3 := Zb wr (.cells #[.int .u64 seq, .int .u8 owner, .int .u8 sell, .int .u8 buy, .int .i64 left, .int .i64 num, .int .i64 den] 32)
   have e3 := Zc wr (.cells #[.int .u64 seq, .int .u8 owner, .int .u8 sell, .int .u8 buy, .int .i64 left, .int .i64 num, .int .i64 den] 32)
   have y1 := Za (j := 1) h3 rfl
   have hhas := Jw p m L owner _ ((hL3.ext er).ext e3)
   rw [ho] at hhas
   clear h3 hx
   go_wp2_with (refine Zd rfl 32 _ _ _ rfl rfl hld ?_)
   refine hhas.mono ?_
   rintro e w5 ⟨rfl, e5⟩
   have E5 := Xt er (Xt e3 e5)
   clear hhas y1 hld e3 e5
   go_wp2_with fail
   exact ⟨⟨k + 1, by omega, by go_num, E5⟩, by simp [intOf]; omega⟩
 have hk' : k = B.offs.length := by omega
 subst hk'
 have hz := Zb wr (.cells #[.pointer (some ⟨p, 0, none⟩), .pointer (some ⟨pb, 0, none⟩)] 78)
 have ez := Zc wr (.cells #[.pointer (some ⟨p, 0, none⟩), .pointer (some ⟨pb, 0, none⟩)] 78)
 have hL4 := (hL3.ext er).ext ez
 have hB4 := (hB3.ext er).ext ez
 have sz := (Xt E3 er).size
 clear q3 q4 hkn hx x4
 go_wp2
 go_ret2
 exact ⟨_, p, m, pb, g, rfl, Xt E3 (Xt er ez), ⟨hz, hL4, hB4, hk⟩, sz⟩
theorem Zma {L : Led} (h : L.par.getD 0 false = false) : (Zu L).length <= 16 := by
 have hk : ∀ k, (Zb1 L (k + 1)).length <= k := by
  intro k
  induction k with
  | zero => rw [Zc0, h]; simp [Zb1]
  | succ k ih => rw [Zc0, List.length_append]; split <;> simp <;> omega
 exact hk 16
theorem Zon (b : Nat) (v : Value) (L : Led) (B : Bk) (w : World) (h : Znu w b v L B) (hk : MOk L B) (hx : MX L B) : Calls Tryz.prog 42 #[v] w (Ret (.bool true) w) := by
 obtain ⟨v1, v2, v3, rfl, s1, s2, s3⟩ := h
 obtain ⟨A1, c1, rfl, _, _, _, _⟩ := s1
 obtain ⟨A2, c2, rfl, a1, a2, a3, a4⟩ := s2
 obtain ⟨A3, c3, rfl, b1, b2, b3, b4⟩ := s3
 have hp16 := Zma hk.wf.par0
 have hl64 : (Z9 L.lines).length <= 64 := by rw [Vu]; exact hk.wf.few
 have ho32 := hx.few
 have hnum : ∀ y ∈ Z9 L.lines, 1 <= y.2.1 /\ y.2.1 <= 1099511627776 /\ 0 <= y.2.2 /\ y.2.2 <= y.2.1 := fun y hy => hk.wf.nums y (U8.1 hy)
 have hoff : ∀ o ∈ B.offs, 1 <= o.left /\ o.left <= 1099511627776 /\ o.seq < B.next := fun o ho => by
  have h1 := hk.ok o ho
  unfold Y5 at h1
  rw [decide_eq_true_eq] at h1
  have := (hx.lo o ho).2
  omega
 have g1 : decide (((Z9 L.lines).length : Int) <= 64) = true := by simp only [decide_eq_true_eq]; omega
 have g2 : decide ((B.offs.length : Int) <= 32) = true := by simp only [decide_eq_true_eq]; omega
 have g3 : decide (((Zu L).length : Int) <= 16) = true := by simp only [decide_eq_true_eq]; omega
 generalize Z9 L.lines = S at *
 generalize (Zu L).length = np at *
 obtain ⟨W, hW, e0, h0, _⟩ := J6 w #[.slice A1 np c1, .slice A2 S.length c2, .slice A3 B.offs.length c3, .int .u64 B.next] 83
 have HW := Lib.hid hW
 clear hW hk hx
 go_enter Tryz.func42, Tryz.ntmps42
 go_wp2_with fail
 refine cast (congrArg (fun X => Code.wp _ _ _ _ X) HW.out.symm) ?_
 clear HW
 go_loopw [2, 3, 5, 6, 7, 8, 9, 10, 11, 12, 13, 14, 15, 16, 17, 18, 19, 20, 21, 22, 23, 24, 25, 26, 27, 28, 29, 30, 31, 32, 33, 34, 35, 36, 37, 38, 39, 40, 41, 42, 43, 44, 45, 46, 47, 48, 49, 50, 51] (fun _ iv _ _ _ _ _ _ _ _ _ _ _ _ _ _ _ _ _ _ _ _ _ _ _ _ _ _ _ _ _ _ _ _ _ _ _ _ _ _ _ _ _ _ _ _ _ _ _ wr => ∃ k : Nat, k <= S.length /\ iv = .int .i64 k /\ Ext W wr) (fun _ iv _ _ _ _ _ _ _ _ _ _ _ _ _ _ _ _ _ _ _ _ _ _ _ _ _ _ _ _ _ _ _ _ _ _ _ _ _ _ _ _ _ _ _ _ _ _ _ _ => S.length - (intOf iv).toNat)
 case atStart => exact ⟨0, Nat.zero_le _, rfl, Ext.refl _⟩
 obtain ⟨k, hkl, rfl, er⟩ := hrel
 have h1 := er.at h0
 have z1 := Za (j := 1) h1 rfl
 by_cases hkn : k < S.length
 · rcases a4 with a4 | ⟨g, rfl, hb, hlt, hcell⟩
   · omega
   have hj1 : (0 : Int) <= (k : Int) := by omega
   have hj2 : (k : Int) < (S.length : Int) := by omega
   have q3 : ∀ W2, Ext wr W2 -> W2.cell? ⟨g, k * 5 + 3, none⟩ = some (.int .i64 (S[k]'hkn).2.1) := fun W2 kk => (Zh ((Xt e0 (Xt er kk)).block hlt)).trans (hcell _ _ (Zb6 S k 3 hkn (by omega)))
   have q4 : ∀ W2, Ext wr W2 -> W2.cell? ⟨g, k * 5 + 4, none⟩ = some (.int .i64 (S[k]'hkn).2.2) := fun W2 kk => (Zh ((Xt e0 (Xt er kk)).block hlt)).trans (hcell _ _ (Zb6 S k 4 hkn (by omega)))
   obtain ⟨n1, n2, n3, n4⟩ := hnum _ (List.getElem_mem hkn)
   generalize (S[k]'hkn).2.1 = lim at *
   generalize (S[k]'hkn).2.2 = dbt at *
   have f1 : decide (dbt < 0) = false := by simp only [decide_eq_false_iff_not]; omega
   have f2 : decide (dbt > lim) = false := by simp only [decide_eq_false_iff_not]; omega
   have f3 : decide (lim < 1) = false := by simp only [decide_eq_false_iff_not]; omega
   have f4 : decide (lim > 1099511627776) = false := by simp only [decide_eq_false_iff_not]; omega
   clear hcell a3 hnum hoff n1 n2 n3 n4 b4
   go_wp2_with fail
   refine Ya Zk [] (by kernel_rfl) (by kernel_rfl) ?_
   intro w1 hw1
   have y1 := fun u : ExtOf w1 => Za (j := 1) ((Xt hw1 u.h).at h1) rfl
   have y3 : ∀ u : ExtOf w1, u.to.cell? ⟨g, k * 5 + 3, none⟩ = _ := fun u => q3 u.to (Xt hw1 u.h)
   have y4 : ∀ u : ExtOf w1, u.to.cell? ⟨g, k * 5 + 4, none⟩ = _ := fun u => q4 u.to (Xt hw1 u.h)
   clear q3 q4
   simp only [Zj, Rg.hsB, Nat.reduceAdd, ↓reduceIte]
   repeat (go_big_quiet_step (fail))
   refine wpQuiet_nil ?_
   refine Xo (by kernel_rfl) ?_
   intro w4 e4 e4'
   try simp only [Act.put, Rg.puC, Rg.puB]
   clear y1 y3 y4 hw1 f1 f2 f3 f4 z1
   go_wp2_with fail
   exact ⟨⟨k + 1, by omega, by go_num, Xt er e4⟩, by simp [intOf]; omega⟩
 have hk' : k = S.length := by omega
 subst hk'
 clear a4 a3 hnum hkn hkl
 go_wp2_with fail
 clear z1 h1
 go_loopw [2, 4, 52, 53, 54, 55, 56, 57, 58, 59, 60, 61, 62, 63, 64, 65, 66, 67, 68, 69, 70, 71, 72, 73, 74, 75, 76, 77, 78, 79, 80, 81, 82, 83, 84, 85] (fun _ iv _ _ _ _ _ _ _ _ _ _ _ _ _ _ _ _ _ _ _ _ _ _ _ _ _ _ _ _ _ _ _ _ _ _ wr => ∃ k : Nat, k <= B.offs.length /\ iv = .int .i64 k /\ Ext W wr) (fun _ iv _ _ _ _ _ _ _ _ _ _ _ _ _ _ _ _ _ _ _ _ _ _ _ _ _ _ _ _ _ _ _ _ _ _ _ => B.offs.length - (intOf iv).toNat)
 case atStart => exact ⟨0, Nat.zero_le _, rfl, er⟩
 clear er
 obtain ⟨k, hkl, rfl, er⟩ := hrel
 have h1 := er.at h0
 have z2 := Za (j := 2) h1 rfl
 by_cases hkn : k < B.offs.length
 · rcases b4 with b4 | ⟨g, rfl, hb, hlt, hcell⟩
   · omega
   have hj1 : (0 : Int) <= (k : Int) := by omega
   have hj2 : (k : Int) < (B.offs.length : Int) := by omega
   have q0 : ∀ W2, Ext wr W2 -> W2.cell? ⟨g, k * 7, none⟩ = some (.int .u64 (B.offs[k]'hkn).seq) := fun W2 kk => (Zh ((Xt e0 (Xt er kk)).block hlt)).trans (hcell _ _ (Ys B.offs k 0 hkn (by omega)))
   have q4 : ∀ W2, Ext wr W2 -> W2.cell? ⟨g, k * 7 + 4, none⟩ = some (.int .i64 (B.offs[k]'hkn).left) := fun W2 kk => (Zh ((Xt e0 (Xt er kk)).block hlt)).trans (hcell _ _ (Ys B.offs k 4 hkn (by omega)))
   obtain ⟨n1, n2, n3⟩ := hoff _ (List.getElem_mem hkn)
   generalize (B.offs[k]'hkn).seq = sq at *
   generalize (B.offs[k]'hkn).left = lf at *
   have f1 : decide (lf < 1) = false := by simp only [decide_eq_false_iff_not]; omega
   have f2 : decide (sq >= B.next) = false := by simp only [decide_eq_false_iff_not]; omega
   have f3 : decide (lf > 1099511627776) = false := by simp only [decide_eq_false_iff_not]; omega
   clear hcell b3 hoff n1 n2 n3
   go_wp2_with fail
   refine Ya Zk [] (by kernel_rfl) (by kernel_rfl) ?_
   intro w1 hw1
   have y2 := fun u : ExtOf w1 => Za (j := 2) ((Xt hw1 u.h).at h1) rfl
   have y3 := fun u : ExtOf w1 => Za (j := 3) ((Xt hw1 u.h).at h1) rfl
   have y0 : ∀ u : ExtOf w1, u.to.cell? ⟨g, k * 7, none⟩ = _ := fun u => q0 u.to (Xt hw1 u.h)
   have y4 : ∀ u : ExtOf w1, u.to.cell? ⟨g, k * 7 + 4, none⟩ = _ := fun u => q4 u.to (Xt hw1 u.h)
   clear q0 q4
   simp only [Zj, Rg.hsB, Nat.reduceAdd, ↓reduceIte]
   repeat (go_big_quiet_step (fail))
   refine wpQuiet_nil ?_
   refine Xo (by kernel_rfl) ?_
   intro w4 e4 e4'
   try simp only [Act.put, Rg.puC, Rg.puB]
   clear y0 y2 y3 y4 hw1 f1 f2 f3 z2
   go_wp2_with fail
   exact ⟨⟨k + 1, by omega, by go_num, Xt er e4⟩, by simp [intOf]; omega⟩
 have hk' : k = B.offs.length := by omega
 subst hk'
 have z0 := Za (j := 0) h1 rfl
 have z1 := Za (j := 1) h1 rfl
 clear b4 b3 hoff hkn
 go_wp2_with fail
 go_ret
 exact ⟨rfl, Xt e0 er⟩
theorem FrA.kp {A : Nat -> Prop} {w w' : World} {S : List Nat} (k : FrA A w w') (h : ∀ x, A x -> x ∈ S) : Keep S w w' := ⟨k.os, k.tape, k.output, k.size, fun i hi hn => k.block i hi (fun ha => hn (h i ha))⟩
theorem mtold_any (va vb : Value) (l more : List Cmd) (w : World) (ha : Zct w 1 va l.length (l.flatMap Cmd.cells)) (hla : ∀ x ∈ l, Zfb w x) (hb : Zct w 1 vb more.length (more.flatMap Cmd.cells)) (hlb : ∀ x ∈ more, Zfb w x) :
 Calls Tryz.prog 9 #[va, vb] w (Ret (.bool true) w) := by
 have hgr := Zgk va l w ha hla
 have hgs := fun W (k : Ext w W) => Zgk vb more W (hb.ext k) (fun x hx => (hlb x hx).ext k)
 obtain ⟨A, cap, rfl, q1, q2, q3, q4⟩ := ha
 obtain ⟨A', cap', rfl, r1, r2, r3, r4⟩ := hb
 have hn63 : (l.length : Int) <= 9223372036854775807 := by unfold maxLen at q2; omega
 have hm63 : (more.length : Int) <= 9223372036854775807 := by unfold maxLen at r2; omega
 have HLA := Lib.hid hla
 have HLB := Lib.hid hlb
 clear hla hlb q3 r3
 go_enter Tryz.func9, Tryz.ntmps9
 go_wp2_with fail
 refine hgr.mono ?_
 rintro e w1 ⟨⟨bg, rfl⟩, e1⟩
 clear hgr
 cases bg with
 | true =>
   go_wp2_with fail
   refine (Zd2 _).mono ?_
   rintro e wz ⟨rfl, ez⟩
   go_wp2
   go_ret
   exact ⟨rfl, Xt e1 ez⟩
 | false =>
   go_wp2_with fail
   refine (hgs w1 e1).mono ?_
   rintro e w2 ⟨⟨bh, rfl⟩, e2⟩
   have E2 := Xt e1 e2
   clear hgs e1 e2
   cases bh with
   | true =>
     go_wp2_with fail
     refine (Zd2 _).mono ?_
     rintro e wz ⟨rfl, ez⟩
     go_wp2
     go_ret
     exact ⟨rfl, Xt E2 ez⟩
   | false =>
     go_wp2_with fail
     refine (Zmi _).mono ?_
     rintro e w3 ⟨q, p, m, pb, g, rfl, e3, hM3, hq3⟩
     have hE2 := E2.size
     go_wp2_with fail
     go_loopw [6] (fun iv wr => ∃ k : Nat, k <= l.length /\ iv = .int .i64 k /\ ∃ p m pb g L B, IsM wr q p m pb g L B /\ MX L B /\ Ext w2 wr) (fun iv _ => l.length - (intOf iv).toNat)
     case atStart => exact ⟨0, Nat.zero_le _, rfl, p, m, pb, g, _, _, hM3, mx_new, e3⟩
     clear hM3 e3
     obtain ⟨k, hk, rfl, p, m, pb, g, L, B, hM, hmx, er⟩ := hrel
     by_cases hkn : k < l.length
     · rcases q4 with q4 | ⟨ga, off, rfl, hlt, hcell⟩
       · omega
       have hj1 : (0 : Int) <= (k : Int) := by omega
       have hj2 : (k : Int) < (l.length : Int) := by omega
       have hld := Zms ((Zh ((Xt E2 er).block hlt)).trans (hcell k _ (Zcn l k hkn)))
       have hcx := (HLA.out _ (List.getElem_mem hkn)).ext (Xt E2 er)
       generalize (l[k]'hkn) = x at *
       obtain ⟨vx, sx⟩ := x
       simp only at hld
       clear hcell r4
       go_wp2_with (refine Zd rfl 76 _ _ _ rfl rfl hld ?_)
       refine (Zdd q p m pb g L B sx vx wr hM hcx.1 (fun s hs => Zig s (hcx.2 s hs))).mono ?_
       rintro e w5 ⟨v5, p', m', pb', g', rfl, f5, _, hM'⟩
       have er' := FrA.ext0 er f5 (fun x (hx : x = q) => by omega)
       clear hld
       go_wp2
       exact ⟨⟨k + 1, by omega, by go_num, p', m', pb', g', _, _, hM', Zmh hmx sx, er'⟩, by simp [intOf]; omega⟩
     have hk' : k = l.length := by omega
     subst hk'
     clear q4 hkn
     have hst := Zcx q p m pb g L B wr hM
     go_wp2_with fail
     refine hst.mono ?_
     rintro e w7 ⟨v7, rfl, e7, st7⟩
     have hM7 := hM.ext e7
     have E7 := Xt E2 (Xt er e7)
     have hq7 := Zg hM7.row
     clear hst hM er e7
     go_wp2_with fail
     refine (mof_any _ v7 L B w7 st7 hM7.ok hmx hM7.led.len hM7.led.map.keys hM7.book.top).mono ?_
     rintro e w8 ⟨q2, p2, m2, pb2, g2, rfl, e8, hN8, hq8⟩
     have hM8 := hM7.ext e8
     have E8 := Xt E7 e8
     have hqq : q < q2 := by omega
     have hwq : w.heap.size <= q := by omega
     clear hM7 E7 e8 hq7 hq8 st7 E2 hq3 hE2
     go_wp2_with fail
     go_loopw [4, 9, 38, 39, 40, 41, 42, 43, 44, 45, 46, 47, 48, 49, 50, 51, 52, 53, 54, 55, 56, 57] (fun _ iv _ _ _ _ _ _ _ _ _ _ _ _ _ _ _ _ _ _ _ _ wr => ∃ k : Nat, k <= more.length /\ iv = .int .i64 k /\ ∃ p m pb g p2 m2 pb2 g2 L B, IsM wr q p m pb g L B /\ IsM wr q2 p2 m2 pb2 g2 L B /\ MX L B /\ Ext w wr) (fun _ iv _ _ _ _ _ _ _ _ _ _ _ _ _ _ _ _ _ _ _ _ _ => more.length - (intOf iv).toNat)
     case atStart => exact ⟨0, Nat.zero_le _, rfl, p, m, pb, g, p2, m2, pb2, g2, L, B, hM8, hN8, hmx, E8⟩
     clear hM8 hN8 hmx E8
     obtain ⟨k, hk, rfl, p, m, pb, g, p2, m2, pb2, g2, L, B, hM, hN, hmx, er⟩ := hrel
     by_cases hkn : k < more.length
     · rcases r4 with r4 | ⟨ga, off, rfl, hlt, hcell⟩
       · omega
       have hj1 : (0 : Int) <= (k : Int) := by omega
       have hj2 : (k : Int) < (more.length : Int) := by omega
       have hcl := (Zh (er.block hlt)).trans (hcell k _ (Zcn more k hkn))
       have hcx := HLB.out _ (List.getElem_mem hkn)
       have hgr := er.size
       generalize (more[k]'hkn) = x at *
       obtain ⟨vx, sx⟩ := x
       simp only at hcl
       clear hcell
       have hq1 := Zg hM.row
       have hq2 := Zg hN.row
       go_wp2_with fail
       refine RgK.Ze [q, q2] Zk 12 [5, 11] (by kernel_rfl) (by kernel_rfl) (by kernel_rfl) ?_
       intro w1 hw1
       have ldc : ∀ wq, Um [q, q2] w1 wq -> (loadVar 76 ⟨ga, off + k, none⟩).run Tryz.prog wq = .ok (.agg #[vx]) wq := by
        rintro _ ⟨u, rfl⟩
        exact Zms ((Zh ((hw1.trans u.h).block ga (show ga < wr.heap.size by omega) (by simp; omega))).trans hcl)
       simp only [Zj, Rg.hsB, Nat.reduceBEq, Nat.reduceAdd, ↓reduceIte]
       repeat (first | go_big_quiet_step (fail) | (go_big_quiet_want; (refine Z3 76 _ _ _ rfl rfl ldc ?_); go_big_quiet_on; simp only [Act.put, Rg.puB]))
       refine wpQuiet_nil ?_
       intro hx1
       clear ldc
       refine RgK.Z1 5 35 _ #[.pointer (some ⟨q, 0, none⟩), .agg #[vx]] _ (by rfl) _ _ (by rfl) Tryz.func35 rfl rfl (by kernel_rfl) (by rfl) (by kernel_rfl) (by decide) ?_
       intro w3 h03 h3
       have E3 := Xt hx1 h3
       have hM3 := hM.ext E3
       have hN3 := hN.ext E3
       have F3 := Xt er E3
       refine (Zdd q p m pb g L B sx vx w3 hM3 (hcx.ext F3).1 (fun s hs => Zig s (hcx.2 s hs))).mono ?_
       rintro e w4 ⟨v4, p', m', pb', g', rfl, f4, s4, hM4⟩
       have h04 := h03.trans (f4.kp (S := [q, q2]) (fun x (hx : x = q) => by simp [hx]))
       refine ⟨_, rfl, h04, ?_⟩
       have hN4 := hN3.fraq hM3.row f4 (by omega)
       have t3 := E3.size
       have t4 := f4.size
       have F4 := FrA.ext0 F3 f4 (fun x (hx : x = q) => by omega)
       refine RgK.Z1 11 35 _ #[.pointer (some ⟨q2, 0, none⟩), .agg #[vx]] _ (by rfl) _ _ (by rfl) Tryz.func35 rfl rfl (by kernel_rfl) (by rfl) (by kernel_rfl) (by decide) ?_
       intro w5 h05 h5
       have hM5 := hM4.ext h5
       have hN5 := hN4.ext h5
       have F5 := Xt F4 h5
       refine (Zdd q2 p2 m2 pb2 g2 L B sx vx w5 hN5 (hcx.ext F5).1 (fun s hs => Zig s (hcx.2 s hs))).mono ?_
       rintro e w6 ⟨v6, p2', m2', pb2', g2', rfl, f6, s6, hN6⟩
       have h06 := h05.trans (f6.kp (S := [q, q2]) (fun x (hx : x = q2) => by simp [hx]))
       refine ⟨_, rfl, h06, ?_⟩
       have t5 := h5.size
       have t6 := f6.size
       have hM6 := hM5.fraq hN5.row f6 (by omega)
       have s46 := (s4.ext h5).fra2 f6 (fun x (hx : x = q2) => by omega)
       have F6 := FrA.ext0 F5 f6 (fun x (hx : x = q2) => by omega)
       refine RgK.Zi (by kernel_rfl) ?_
       intro w7 e7 e7'
       simp only [Act.put, Rg.puB]
       have hM7 := hM6.ext e7'
       have hN7 := hN6.ext e7'
       have s47 := s46.ext e7'
       have s67 := s6.ext e7'
       have F7 := Xt F6 e7'
       clear h03 h3 hx1 h04 h05 h5 h06 hw1 f4 f6 e7 e7' hM hN hM3 hN3 hM4 hN4 hM5 hN5 hM6 hN6 s4 s6 s46 E3 F3 F4 F5 F6
       go_wp2_with fail
       refine (J0 w3.heap.size w5.heap.size v4 v6 _ _ _ w7 s47 s67).mono ?_
       rintro e w8 ⟨rfl, e8⟩
       clear s47 s67
       go_wp2_with fail
       exact ⟨⟨k + 1, by omega, by go_num, p', m', pb', g', p2', m2', pb2', g2', _, _, hM7.ext e8, hN7.ext e8, Zmh hmx sx, Xt F7 e8⟩, by simp [intOf]; omega⟩
     have hk' : k = more.length := by omega
     subst hk'
     clear r4 hkn
     go_wp2_with fail
     refine (Zcx q p m pb g L B wr hM).mono ?_
     rintro e w20 ⟨v20, rfl, e20, st20⟩
     go_wp2_with fail
     refine (Zcx q2 p2 m2 pb2 g2 L B w20 (hN.ext e20)).mono ?_
     rintro e w21 ⟨v21, rfl, e21, st21⟩
     go_wp2_with fail
     refine (like_any _ _ v20 v21 L B w21 (st20.ext e21) st21).mono ?_
     rintro e w22 ⟨rfl, e22⟩
     have E22 := Xt e20 (Xt e21 e22)
     go_wp2_with fail
     refine (Zcx q p m pb g L B w22 (hM.ext E22)).mono ?_
     rintro e w23 ⟨v23, rfl, e23, st23⟩
     go_wp2_with fail
     refine (Zon _ v23 L B w23 st23 hM.ok hmx).mono ?_
     rintro e w24 ⟨rfl, e24⟩
     go_wp2_with fail
     refine (Zd2 _).mono ?_
     rintro e wz ⟨rfl, ez⟩
     go_wp2
     go_ret
     exact ⟨rfl, Xt er (Xt E22 (Xt e23 (Xt e24 ez)))⟩
end Go.Proofs.YtahdgojcebajkaaGreat
