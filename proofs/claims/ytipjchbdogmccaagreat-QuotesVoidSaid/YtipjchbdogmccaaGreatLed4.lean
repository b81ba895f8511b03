/- The ledger, further: a line's limit. The ledger, further: one line; a debt falls. -/
import Derived.Test.YtipjchbdogmccaaGreatLed
set_option maxHeartbeats 1600000
set_option maxRecDepth 100000
namespace Go.Proofs.YtipjchbdogmccaaGreat
open Go.RowKit Go.Rg Go.BigFrame
theorem len_map (m:Nat) (l:Zr) (w:World) (h:J2 w m l) (ty:TypeId):
 (Builtin.len_ #[200] ty #[.map (some m)]).run Tryz.prog w= .ok (.int .i64 l.length) w:=by
 obtain ⟨l0,hp,es,clock,hm,hr⟩:=h
 have hl:es.size=l.length:=by rw [<-hp.length_eq];simpa using congrArg List.length hr.same
 rw [Go.run_len_map w _ ty m es clock (by simp only [Program.mapKeyOf,Program.mapElemOf,Tryz.underlying200]) hm,hl]
 rfl
def X9 (L:Led) (a b c lim:Int):Int×Led:=
 if U0 (a,b,c)=false\/lim<0\/1099511627776<lim then (1,L)
 else if L.par.getD a.toNat false=false\/L.par.getD b.toNat false=false then (7,L)
 else if lim<(lk L.lines (a,b,c)).2 then (14,L)
 else if (lkO L.lines (a,b,c)).isSome=false/\0<lim/\64<=L.lines.length then (9,L)
 else if lim=0 then (0,{ L with lines:=del L.lines (a,b,c) })
 else (0,{ L with lines:=upd L.lines (a,b,c) (lim,(lk L.lines (a,b,c)).2) })
theorem Zjw (a b c:Int):U0 (a,b,c)=true↔(1<=a/\a<=16)/\(1<=b/\b<=16)/\a≠b/\1<=c/\c<=8:=by
 unfold U0
 simp
 omega
theorem trust_any (p m:Nat) (L:Led) (a b c lim:Int) (w:World) (h:IsLed w p m L) (hwf:WF L):
 Calls Tryz.prog 144 #[.pointer (some ⟨p,0,none⟩),.int .u8 a,.int .u8 b,.int .u8 c,.int .i64 lim] w (Znq (.int .i64 (X9 L a b c lim).1) [m] (fun w'=>IsLed w' p m (X9 L a b c lim).2) w):=by
 have ct:=fun w (h:IsLed w p m L)=>Vl p m L w h
 have ce:=fun w=>Zpf a b c w
 have e0:Ext w (w.alloc (.cells #[.int .u8 a,.int .u8 b,.int .u8 c] 209)):=Zc _ _
 have h0:=Zb w (.cells #[.int .u8 a,.int .u8 b,.int .u8 c] 209)
 generalize hW:w.alloc (.cells #[.int .u8 a,.int .u8 b,.int .u8 c] 209)=W at e0 h0
 have HW:=Lib.hid hW
 clear hW
 have hLW:=h.ext e0
 simp only [Xm] at ce
 by_cases he:U0 (a,b,c)=false
 ·have hr:X9 L a b c lim=(1,L):=by unfold X9;simp [he]
  rw [hr]
  rw [he] at ce
  clear hr he
  go_enter Tryz.func144,Tryz.ntmps144
  go_wp2_with fail
  rw [HW.out]
  refine (ct _ hLW).mono ?_
  rintro e w2 ⟨rfl,e2⟩
  have t2:=e2.at h0
  have g0:=Za t2 (j:=0) rfl
  have g1:=Za t2 (j:=1) rfl
  have g2:=Za t2 (j:=2) rfl
  go_wp2_with fail
  refine (ce _).mono ?_
  rintro e w3 ⟨rfl,e3⟩
  have h3:=(hLW.ext e2).ext e3
  go_wp2
  go_ret
  exact ⟨rfl,Kx (Xt e0 (Xt e2 e3)),h3⟩
 rw [Bool.not_eq_false] at he
 have he2:=(Zjw a b c).1 he
 rw [he] at ce
 by_cases hlo:lim<0
 ·have hr:X9 L a b c lim=(1,L):=by unfold X9;simp [hlo]
  rw [hr]
  have hlo':decide (lim<0)=true:=by simpa using hlo
  clear hr he he2 hlo
  go_enter Tryz.func144,Tryz.ntmps144
  go_wp2_with fail
  rw [HW.out]
  refine (ct _ hLW).mono ?_
  rintro e w2 ⟨rfl,e2⟩
  have t2:=e2.at h0
  have g0:=Za t2 (j:=0) rfl
  have g1:=Za t2 (j:=1) rfl
  have g2:=Za t2 (j:=2) rfl
  go_wp2_with fail
  refine (ce _).mono ?_
  rintro e w3 ⟨rfl,e3⟩
  have h3:=(hLW.ext e2).ext e3
  go_wp2
  go_ret
  exact ⟨rfl,Kx (Xt e0 (Xt e2 e3)),h3⟩
 have hlo':decide (lim<0)=false:=by simpa using hlo
 by_cases hhi:1099511627776<lim
 ·have hr:X9 L a b c lim=(1,L):=by unfold X9;simp [hhi]
  rw [hr]
  clear hr he he2
  go_enter Tryz.func144,Tryz.ntmps144
  go_wp2_with fail
  rw [HW.out]
  refine (ct _ hLW).mono ?_
  rintro e w2 ⟨rfl,e2⟩
  have t2:=e2.at h0
  have g0:=Za t2 (j:=0) rfl
  have g1:=Za t2 (j:=1) rfl
  have g2:=Za t2 (j:=2) rfl
  go_wp2_with fail
  refine (ce _).mono ?_
  rintro e w3 ⟨rfl,e3⟩
  have h3:=(hLW.ext e2).ext e3
  go_wp2
  go_ret
  exact ⟨rfl,Kx (Xt e0 (Xt e2 e3)),h3⟩
 obtain ⟨⟨a1,a2⟩,⟨b1,b2⟩,-⟩:=he2
 obtain ⟨ja,rfl⟩:=Int.eq_ofNat_of_zero_le (show 0<=a by omega)
 obtain ⟨jb,rfl⟩:=Int.eq_ofNat_of_zero_le (show 0<=b by omega)
 by_cases hpa:L.par.getD ja false=false
 ·have hr:X9 L ja jb c lim=(7,L):=by unfold X9;rw [if_neg (by simp [he];omega),if_pos (Or.inl (by simpa using hpa))]
  rw [hr]
  have HA:=Lib.hid hpa
  clear hr he hpa
  go_enter Tryz.func144,Tryz.ntmps144
  go_wp2_with fail
  rw [HW.out]
  refine (ct _ hLW).mono ?_
  rintro e w2 ⟨rfl,e2⟩
  have t2:=e2.at h0
  have g0:=Za t2 (j:=0) rfl
  have g1:=Za t2 (j:=1) rfl
  have g2:=Za t2 (j:=2) rfl
  go_wp2_with fail
  refine (ce _).mono ?_
  rintro e w3 ⟨rfl,e3⟩
  have h3:=(hLW.ext e2).ext e3
  have ca:=h3.cellP ja (by omega)
  rw [HA.out] at ca
  go_wp2
  go_ret
  exact ⟨rfl,Kx (Xt e0 (Xt e2 e3)),h3⟩
 by_cases hpb:L.par.getD jb false=false
 ·have hr:X9 L ja jb c lim=(7,L):=by unfold X9;rw [if_neg (by simp [he];omega),if_pos (Or.inr (by simpa using hpb))]
  rw [hr]
  rw [Bool.not_eq_false] at hpa
  have HA:=Lib.hid hpa
  have HB:=Lib.hid hpb
  clear hr he hpa hpb
  go_enter Tryz.func144,Tryz.ntmps144
  go_wp2_with fail
  rw [HW.out]
  refine (ct _ hLW).mono ?_
  rintro e w2 ⟨rfl,e2⟩
  have t2:=e2.at h0
  have g0:=Za t2 (j:=0) rfl
  have g1:=Za t2 (j:=1) rfl
  have g2:=Za t2 (j:=2) rfl
  go_wp2_with fail
  refine (ce _).mono ?_
  rintro e w3 ⟨rfl,e3⟩
  have h3:=(hLW.ext e2).ext e3
  have ca:=h3.cellP ja (by omega)
  have cb:=h3.cellP jb (by omega)
  rw [HA.out] at ca
  rw [HB.out] at cb
  go_wp2
  go_ret
  exact ⟨rfl,Kx (Xt e0 (Xt e2 e3)),h3⟩
 have hr:X9 L ja jb c lim=if lim<(lk L.lines (↑ja,↑jb,c)).2 then (14,L)
  else if (lkO L.lines (↑ja,↑jb,c)).isSome=false/\0<lim/\64<=L.lines.length then (9,L)
  else if lim=0 then (0,{ L with lines:=del L.lines (↑ja,↑jb,c) })
  else (0,{ L with lines:=upd L.lines (↑ja,↑jb,c) (lim,(lk L.lines (↑ja,↑jb,c)).2) }):=by
  unfold X9;rw [if_neg (by simp [he];omega),if_neg (by rw [Int.toNat_natCast,Int.toNat_natCast];exact fun h=>h.elim hpa hpb)]
 rw [hr]
 rw [Bool.not_eq_false] at hpa hpb
 have HA:=Lib.hid hpa
 have HB:=Lib.hid hpb
 have b1:=hwf.lk (↑ja,↑jb,c)
 have k1:=fun w (h:IsLed w p m L)=>Vb m L.lines (↑ja,↑jb,c) true w h.map
 have k2:=fun w (h:IsLed w p m L) (v:V2)=>Zdw m L.lines (↑ja,↑jb,c) v w h.map
 have k3:=fun w (h:IsLed w p m L)=>Zit m L.lines (↑ja,↑jb,c) w h.map 0 #[200,209] rfl
 have k4:=fun w (h:IsLed w p m L)=>len_map m L.lines w h.map
 simp only [Xm,U7,if_true] at k1 k2 k3
 generalize lk L.lines (↑ja,↑jb,c)=x at *
 obtain ⟨xl,xd⟩:=x
 generalize (lkO L.lines (↑ja,↑jb,c)).isSome=is at *
 simp only at b1 k1 ⊢
 clear hr he hpa hpb
 have hm:=h.ltm
 by_cases hd:lim<xd
 ·rw [if_pos hd]
  clear k2 k3 k4
  go_enter Tryz.func144,Tryz.ntmps144
  go_wp2_with fail
  rw [HW.out]
  refine (ct _ hLW).mono ?_
  rintro e w2 ⟨rfl,e2⟩
  have t2:=e2.at h0
  have g0:=Za t2 (j:=0) rfl
  have g1:=Za t2 (j:=1) rfl
  have g2:=Za t2 (j:=2) rfl
  go_wp2_with fail
  refine (ce _).mono ?_
  rintro e w3 ⟨rfl,e3⟩
  have h3:=(hLW.ext e2).ext e3
  have ca:=h3.cellP ja (by omega)
  have cb:=h3.cellP jb (by omega)
  rw [HA.out] at ca
  rw [HB.out] at cb
  go_wp2
  refine Zh Zl 11 [9,10] (by kernel_rfl) (by kernel_rfl) ?_
  intro w1 hw1
  have hL:∀q:ExtOf w1,IsLed q.to p m L:=fun q=>h3.ext (Xt hw1 q.h)
  have c1:=fun q:ExtOf w1=>(hL q).cell17
  have l1:=fun q:ExtOf w1=>k1 q.to (hL q)
  have t3:=e3.at t2
  have d0:=fun q:ExtOf w1=>Za (j:=0) ((Xt hw1 q.h).at t3) rfl
  have d1:=fun q:ExtOf w1=>Za (j:=1) ((Xt hw1 q.h).at t3) rfl
  have d2:=fun q:ExtOf w1=>Za (j:=2) ((Xt hw1 q.h).at t3) rfl
  clear k1 hL
  simp only [Zk,Rg.hsB,Nat.reduceBEq,Nat.reduceAdd,↓reduceIte]
  repeat (go_big_quiet_step (fail))
  refine wpQuiet_nil ?_
  refine Ub 9 _ (.cells #[.int .i64 0,.int .i64 0] 211) (fun a w=> ?_) rfl (by kernel_rfl) (by decide) rfl ?_
  ·simp [go_sem]
  intro s w4 h04 h4 hs4 _ hsb
  refine Z3 10 _ 211 _ _ rfl rfl rfl (by kernel_rfl) (by decide) rfl s _ rfl rfl 211 _ (by kernel_rfl) (by rfl) (by rfl) hsb hs4 ?_
  intro w5 h05 hk5 hs5
  refine Zj (by kernel_rfl) ?_
  intro w6 h6 h6'
  simp only [Act.put,Rg.puB]
  have hs6:=h6'.at hs5
  have c10:=Za hs6 (j:=0) rfl
  have c11:=Za hs6 (j:=1) rfl
  have h5:=h3.ext h6
  have e5:Ext W w6:=Xt (Xt e2 e3) h6
  have c17:=h5.cell17
  clear c1 l1 d0 d1 d2
  go_wp2
  go_ret
  exact ⟨rfl,Kx (Xt e0 e5),h5⟩
 rw [if_neg hd]
 by_cases hf:is=false/\0<lim/\64<=L.lines.length
 ·rw [if_pos hf]
  obtain ⟨rfl,hf1,hf2⟩:=hf
  have hf1':decide (0<lim)=true:=by simpa using hf1
  clear k2 k3
  go_enter Tryz.func144,Tryz.ntmps144
  go_wp2_with fail
  rw [HW.out]
  refine (ct _ hLW).mono ?_
  rintro e w2 ⟨rfl,e2⟩
  have t2:=e2.at h0
  have g0:=Za t2 (j:=0) rfl
  have g1:=Za t2 (j:=1) rfl
  have g2:=Za t2 (j:=2) rfl
  go_wp2_with fail
  refine (ce _).mono ?_
  rintro e w3 ⟨rfl,e3⟩
  have h3:=(hLW.ext e2).ext e3
  have ca:=h3.cellP ja (by omega)
  have cb:=h3.cellP jb (by omega)
  rw [HA.out] at ca
  rw [HB.out] at cb
  go_wp2
  refine Zh Zl 11 [9,10] (by kernel_rfl) (by kernel_rfl) ?_
  intro w1 hw1
  have hL:∀q:ExtOf w1,IsLed q.to p m L:=fun q=>h3.ext (Xt hw1 q.h)
  have c1:=fun q:ExtOf w1=>(hL q).cell17
  have l1:=fun q:ExtOf w1=>k1 q.to (hL q)
  have t3:=e3.at t2
  have d0:=fun q:ExtOf w1=>Za (j:=0) ((Xt hw1 q.h).at t3) rfl
  have d1:=fun q:ExtOf w1=>Za (j:=1) ((Xt hw1 q.h).at t3) rfl
  have d2:=fun q:ExtOf w1=>Za (j:=2) ((Xt hw1 q.h).at t3) rfl
  clear k1 hL
  simp only [Zk,Rg.hsB,Nat.reduceBEq,Nat.reduceAdd,↓reduceIte]
  repeat (go_big_quiet_step (fail))
  refine wpQuiet_nil ?_
  refine Ub 9 _ (.cells #[.int .i64 0,.int .i64 0] 211) (fun a w=> ?_) rfl (by kernel_rfl) (by decide) rfl ?_
  ·simp [go_sem]
  intro s w4 h04 h4 hs4 _ hsb
  refine Z3 10 _ 211 _ _ rfl rfl rfl (by kernel_rfl) (by decide) rfl s _ rfl rfl 211 _ (by kernel_rfl) (by rfl) (by rfl) hsb hs4 ?_
  intro w5 h05 hk5 hs5
  refine Zj (by kernel_rfl) ?_
  intro w6 h6 h6'
  simp only [Act.put,Rg.puB]
  have hs6:=h6'.at hs5
  have c10:=Za hs6 (j:=0) rfl
  have c11:=Za hs6 (j:=1) rfl
  have h5:=h3.ext h6
  have e5:Ext W w6:=Xt (Xt e2 e3) h6
  have c17:=h5.cell17
  clear c1 l1 d0 d1 d2
  have k4:=k4 w6 h5
  go_wp2
  go_ret
  exact ⟨rfl,Kx (Xt e0 e5),h5⟩
 rw [if_neg hf]
 by_cases hz:lim=0
 focus
  rw [if_pos hz]
  subst hz
  clear hf hlo hlo' k2 k4
  cases is
  rotate_left
  all_goals
   go_enter Tryz.func144,Tryz.ntmps144
   go_wp2_with fail
   rw [HW.out]
   refine (ct _ hLW).mono ?_
   rintro e w2 ⟨rfl,e2⟩
   have t2:=e2.at h0
   have g0:=Za t2 (j:=0) rfl
   have g1:=Za t2 (j:=1) rfl
   have g2:=Za t2 (j:=2) rfl
   go_wp2_with fail
   refine (ce _).mono ?_
   rintro e w3 ⟨rfl,e3⟩
   have h3:=(hLW.ext e2).ext e3
   have ca:=h3.cellP ja (by omega)
   have cb:=h3.cellP jb (by omega)
   rw [HA.out] at ca
   rw [HB.out] at cb
   go_wp2
   refine Zh Zl 11 [9,10] (by kernel_rfl) (by kernel_rfl) ?_
   intro w1 hw1
   have hL:∀q:ExtOf w1,IsLed q.to p m L:=fun q=>h3.ext (Xt hw1 q.h)
   have c1:=fun q:ExtOf w1=>(hL q).cell17
   have l1:=fun q:ExtOf w1=>k1 q.to (hL q)
   have t3:=e3.at t2
   have d0:=fun q:ExtOf w1=>Za (j:=0) ((Xt hw1 q.h).at t3) rfl
   have d1:=fun q:ExtOf w1=>Za (j:=1) ((Xt hw1 q.h).at t3) rfl
   have d2:=fun q:ExtOf w1=>Za (j:=2) ((Xt hw1 q.h).at t3) rfl
   clear k1 hL
   simp only [Zk,Rg.hsB,Nat.reduceBEq,Nat.reduceAdd,↓reduceIte]
   repeat (go_big_quiet_step (fail))
   refine wpQuiet_nil ?_
   refine Ub 9 _ (.cells #[.int .i64 0,.int .i64 0] 211) (fun a w=> ?_) rfl (by kernel_rfl) (by decide) rfl ?_
   ·simp [go_sem]
   intro s w4 h04 h4 hs4 _ hsb
   refine Z3 10 _ 211 _ _ rfl rfl rfl (by kernel_rfl) (by decide) rfl s _ rfl rfl 211 _ (by kernel_rfl) (by rfl) (by rfl) hsb hs4 ?_
   intro w5 h05 hk5 hs5
   refine Zj (by kernel_rfl) ?_
   intro w6 h6 h6'
   simp only [Act.put,Rg.puB]
   have hs6:=h6'.at hs5
   have c10:=Za hs6 (j:=0) rfl
   have c11:=Za hs6 (j:=1) rfl
   have h5:=h3.ext h6
   have e5:Ext W w6:=Xt (Xt e2 e3) h6
   have c17:=h5.cell17
   clear c1 l1 d0 d1 d2
   go_wp2
   refine Zh Zl 5 [] (by kernel_rfl) (by kernel_rfl) ?_
   intro w1 hw1
   have hL:∀q:ExtOf w1,IsLed q.to p m L:=fun q=>h5.ext (Xt hw1 q.h)
   have c1:=fun q:ExtOf w1=>(hL q).cell17
   have t6:=h6.at t3
   have d0:=fun q:ExtOf w1=>Za (j:=0) ((Xt hw1 q.h).at t6) rfl
   have d1:=fun q:ExtOf w1=>Za (j:=1) ((Xt hw1 q.h).at t6) rfl
   have d2:=fun q:ExtOf w1=>Za (j:=2) ((Xt hw1 q.h).at t6) rfl
   clear hL
   simp only [Zk,Rg.hsB,Nat.reduceAdd,↓reduceIte]
   repeat (go_big_quiet_step (fail))
   refine wpQuiet_nil ?_
   refine Zj (by kernel_rfl) ?_
   intro w7 h7 h7'
   simp only [Rg.puB]
   have h7L:=h5.ext h7
   obtain ⟨w8,r8,m8,kp8,_⟩:=k3 w7 h7L
 rotate_left 2
 focus
  rw [if_neg hz]
  have hz1:(lim==0)=false:=by simpa using hz
  have hz2:decide (0<lim)=true:=by simp;omega
  have hhi2:lim<=1099511627776:=by omega
  clear k3
  cases is
  focus
   have hlen:decide (64<=L.lines.length)=false:=by
    simp
    have:¬64<=L.lines.length:=fun h=>hf ⟨rfl,by omega,h⟩
    omega
   have hlen2:(L.lines.length:Int)<64:=by simp at hlen;omega
   clear hf
   go_enter Tryz.func144,Tryz.ntmps144
   go_wp2_with fail
   rw [HW.out]
   refine (ct _ hLW).mono ?_
   rintro e w2 ⟨rfl,e2⟩
   have t2:=e2.at h0
   have g0:=Za t2 (j:=0) rfl
   have g1:=Za t2 (j:=1) rfl
   have g2:=Za t2 (j:=2) rfl
   go_wp2_with fail
   refine (ce _).mono ?_
   rintro e w3 ⟨rfl,e3⟩
   have h3:=(hLW.ext e2).ext e3
   have ca:=h3.cellP ja (by omega)
   have cb:=h3.cellP jb (by omega)
   rw [HA.out] at ca
   rw [HB.out] at cb
   go_wp2
   refine Zh Zl 11 [9,10] (by kernel_rfl) (by kernel_rfl) ?_
   intro w1 hw1
   have hL:∀q:ExtOf w1,IsLed q.to p m L:=fun q=>h3.ext (Xt hw1 q.h)
   have c1:=fun q:ExtOf w1=>(hL q).cell17
   have l1:=fun q:ExtOf w1=>k1 q.to (hL q)
   have t3:=e3.at t2
   have d0:=fun q:ExtOf w1=>Za (j:=0) ((Xt hw1 q.h).at t3) rfl
   have d1:=fun q:ExtOf w1=>Za (j:=1) ((Xt hw1 q.h).at t3) rfl
   have d2:=fun q:ExtOf w1=>Za (j:=2) ((Xt hw1 q.h).at t3) rfl
   clear k1 hL
   simp only [Zk,Rg.hsB,Nat.reduceBEq,Nat.reduceAdd,↓reduceIte]
   repeat (go_big_quiet_step (fail))
   refine wpQuiet_nil ?_
   refine Ub 9 _ (.cells #[.int .i64 0,.int .i64 0] 211) (fun a w=> ?_) rfl (by kernel_rfl) (by decide) rfl ?_
   ·simp [go_sem]
   intro s w4 h04 h4 hs4 _ hsb
   refine Z3 10 _ 211 _ _ rfl rfl rfl (by kernel_rfl) (by decide) rfl s _ rfl rfl 211 _ (by kernel_rfl) (by rfl) (by rfl) hsb hs4 ?_
   intro w5 h05 hk5 hs5
   refine Zj (by kernel_rfl) ?_
   intro w6 h6 h6'
   simp only [Act.put,Rg.puB]
   have hs6:=h6'.at hs5
   have c10:=Za hs6 (j:=0) rfl
   have c11:=Za hs6 (j:=1) rfl
   have h5:=h3.ext h6
   have e5:Ext W w6:=Xt (Xt e2 e3) h6
   have c17:=h5.cell17
   clear c1 l1 d0 d1 d2
   have k4:=k4 w6 h5
  rotate_left
  focus
   clear hf k4
   go_enter Tryz.func144,Tryz.ntmps144
   go_wp2_with fail
   rw [HW.out]
   refine (ct _ hLW).mono ?_
   rintro e w2 ⟨rfl,e2⟩
   have t2:=e2.at h0
   have g0:=Za t2 (j:=0) rfl
   have g1:=Za t2 (j:=1) rfl
   have g2:=Za t2 (j:=2) rfl
   go_wp2_with fail
   refine (ce _).mono ?_
   rintro e w3 ⟨rfl,e3⟩
   have h3:=(hLW.ext e2).ext e3
   have ca:=h3.cellP ja (by omega)
   have cb:=h3.cellP jb (by omega)
   rw [HA.out] at ca
   rw [HB.out] at cb
   go_wp2
   refine Zh Zl 11 [9,10] (by kernel_rfl) (by kernel_rfl) ?_
   intro w1 hw1
   have hL:∀q:ExtOf w1,IsLed q.to p m L:=fun q=>h3.ext (Xt hw1 q.h)
   have c1:=fun q:ExtOf w1=>(hL q).cell17
   have l1:=fun q:ExtOf w1=>k1 q.to (hL q)
   have t3:=e3.at t2
   have d0:=fun q:ExtOf w1=>Za (j:=0) ((Xt hw1 q.h).at t3) rfl
   have d1:=fun q:ExtOf w1=>Za (j:=1) ((Xt hw1 q.h).at t3) rfl
   have d2:=fun q:ExtOf w1=>Za (j:=2) ((Xt hw1 q.h).at t3) rfl
   clear k1 hL
   simp only [Zk,Rg.hsB,Nat.reduceBEq,Nat.reduceAdd,↓reduceIte]
   repeat (go_big_quiet_step (fail))
   refine wpQuiet_nil ?_
   refine Ub 9 _ (.cells #[.int .i64 0,.int .i64 0] 211) (fun a w=> ?_) rfl (by kernel_rfl) (by decide) rfl ?_
   ·simp [go_sem]
   intro s w4 h04 h4 hs4 _ hsb
   refine Z3 10 _ 211 _ _ rfl rfl rfl (by kernel_rfl) (by decide) rfl s _ rfl rfl 211 _ (by kernel_rfl) (by rfl) (by rfl) hsb hs4 ?_
   intro w5 h05 hk5 hs5
   refine Zj (by kernel_rfl) ?_
   intro w6 h6 h6'
   simp only [Act.put,Rg.puB]
   have hs6:=h6'.at hs5
   have c10:=Za hs6 (j:=0) rfl
   have c11:=Za hs6 (j:=1) rfl
   have h5:=h3.ext h6
   have e5:Ext W w6:=Xt (Xt e2 e3) h6
   have c17:=h5.cell17
   clear c1 l1 d0 d1 d2
  all_goals
   go_wp2
   refine Zh Zl 9 [] (by kernel_rfl) (by kernel_rfl) ?_
   intro w1 hw1
   have hL:∀q:ExtOf w1,IsLed q.to p m L:=fun q=>h5.ext (Xt hw1 q.h)
   have c1:=fun q:ExtOf w1=>(hL q).cell17
   have t6:=h6.at t3
   have d0:=fun q:ExtOf w1=>Za (j:=0) ((Xt hw1 q.h).at t6) rfl
   have d1:=fun q:ExtOf w1=>Za (j:=1) ((Xt hw1 q.h).at t6) rfl
   have d2:=fun q:ExtOf w1=>Za (j:=2) ((Xt hw1 q.h).at t6) rfl
   have d4:=fun q:ExtOf w1=>Za (j:=1) ((Xt hw1 q.h).at hs6) rfl
   clear hL
   simp only [Zk,Rg.hsB,Nat.reduceAdd,↓reduceIte]
   repeat (go_big_quiet_step (fail))
   refine wpQuiet_nil ?_
   refine Zj (by kernel_rfl) ?_
   intro w7 h7 h7'
   simp only [Rg.puB]
   have h7L:=h5.ext h7
   obtain ⟨w8,r8,m8,kp8,_⟩:=k2 w7 h7L (lim,xd)
   simp only at r8
 all_goals
  go_wp2
  go_ret
  exact ⟨rfl,(Kx (Xt e0 (Xt e5 h7))).trans kp8,⟨kp8.at h7L.row (by simpa using h7L.ne),h7L.len,m8⟩⟩
end Go.Proofs.YtipjchbdogmccaaGreat
namespace Go.Rg
variable {P:Program}
theorem Zt {fn:Func} {R:Ending->World->Prop} {a:Act} {w:World} {p u:Tmp} {ty:TypeId} (g:Nat) (t:TypeId) (cs:Array Value) (fr:Nat×Nat) (d:TypeDesc) (hres:fn.results=#[.cell p ty,.tmp u]) (hp:a.tmps.getD p undef= .pointer (some ⟨g,0,none⟩))
 (hg:w.heap[g]? =some (.cells cs t fr)) (hu:P.underlying ty=some d) (hd:(match d with | .struct _ | .array _ _=>true | _=>false)=true) (hi:(P.info? ty).map (·.size)=some cs.size) (hdef:a.defers=[])
 (hR:R (.returned (.tuple #[.agg cs,a.tmps.getD u undef])) w):bodyPost P fn R .ret a w:=by
 refine bodyPost_ret (v:= .tuple #[.agg cs,a.tmps.getD u undef]) ?_ hdef hR
 rw [results_cell_tmp hres a.tmps P w,hp]
 simp [asAddr,run_loadVar_row w g t ty cs fr d hg hu hd hi,Result.andThen]
end Go.Rg
namespace Go.Proofs.YtipjchbdogmccaaGreat
open Go.RowKit Go.Rg Go.BigFrame
def lineR (L:Led) (a b c:Int):Value:=match lkO L.lines (a,b,c) with
 | some v=>.tuple #[.agg #[.int .u8 a,.int .u8 b,.int .u8 c,.int .i64 v.1,.int .i64 v.2],.bool true]
 | none=>.tuple #[.agg #[.int .u8 0,.int .u8 0,.int .u8 0,.int .i64 0,.int .i64 0],.bool false]
theorem Zou (p m:Nat) (L:Led) (a b c:Int) (w:World) (h:IsLed w p m L):
 Calls Tryz.prog 151 #[.pointer (some ⟨p,0,none⟩),.int .u8 a,.int .u8 b,.int .u8 c] w (Ret (lineR L a b c) w):=by
 have ct:=fun w (h:IsLed w p m L)=>Vl p m L w h
 have k1:=fun w (h:IsLed w p m L)=>Vb m L.lines (a,b,c) true w h.map
 simp only [Xm,U7,if_true,lk] at k1
 have e0:Ext w (w.alloc (.cells #[.int .u8 0,.int .u8 0,.int .u8 0,.int .i64 0,.int .i64 0] 151)):=Zc _ _
 have h0:=Zb w (.cells #[.int .u8 0,.int .u8 0,.int .u8 0,.int .i64 0,.int .i64 0] 151)
 generalize hW:w.alloc (.cells #[.int .u8 0,.int .u8 0,.int .u8 0,.int .i64 0,.int .i64 0] 151)=W at e0 h0
 have HW:=Lib.hid hW
 clear hW
 have hLW:=h.ext e0
 unfold lineR
 cases hl:lkO L.lines (a,b,c) with
 | none=>
   simp only [hl,Option.getD_none,Option.isSome_none] at k1 ⊢
   clear hl
   go_enter Tryz.func151,Tryz.ntmps151
   go_wp2_with fail
   rw [HW.out]
   refine (ct _ hLW).mono ?_
   rintro e w2 ⟨rfl,e2⟩
   have h2:=hLW.ext e2
   have c17:=h2.cell17
   have k2:=k1 w2 h2
   have t2:=e2.at h0
   go_wp2_with (refine Ze rfl rfl 151 _ _ rfl w.heap.size _ rfl rfl 151 _ (by first | exact t2 | exact (Zc _ _).at t2) (by kernel_rfl) (by rfl) (by rfl) ?_;intro w3 hb3 _ hs3)
   exact Zt w.heap.size 151 _ _ _ rfl rfl hs3 Tryz.underlying151 rfl (by kernel_rfl) rfl ⟨rfl,hb3 _ _ (Nat.le_refl _) (Xt e0 (Xt e2 (Zc _ _)))⟩
 | some v=>
   obtain ⟨vl,vd⟩:=v
   simp only [hl,Option.getD_some,Option.isSome_some] at k1 ⊢
   clear hl
   go_enter Tryz.func151,Tryz.ntmps151
   go_wp2_with fail
   rw [HW.out]
   refine (ct _ hLW).mono ?_
   rintro e w2 ⟨rfl,e2⟩
   have h2:=hLW.ext e2
   have c17:=h2.cell17
   have k2:=k1 w2 h2
   have t2:=e2.at h0
   go_wp2_with (refine Ze rfl rfl 151 _ _ rfl w.heap.size _ rfl rfl 151 _ (by first | exact t2 | exact (Zc _ _).at t2) (by kernel_rfl) (by rfl) (by rfl) ?_;intro w3 hb3 _ hs3)
   exact Zt w.heap.size 151 _ _ _ rfl rfl hs3 Tryz.underlying151 rfl (by kernel_rfl) rfl ⟨rfl,hb3 _ _ (Nat.le_refl _) (Xt e0 (Xt e2 (Zc _ _)))⟩
def Zao (L:Led) (a b c n:Int):Int×Led:=
 if n<1 then (1,L) else match lkO L.lines (a,b,c) with
 | none=>(7,L)
 | some v=>if v.2<n then (14,L) else (0,{ L with lines:=U8 L.lines (a,b,c) (-n) })
theorem Zo9 (p m:Nat) (L:Led) (a b c n:Int) (w:World) (h:IsLed w p m L) (hwf:WF L):
 Calls Tryz.prog 191 #[.pointer (some ⟨p,0,none⟩),.int .u8 a,.int .u8 b,.int .u8 c,.int .i64 n] w (Znq (.int .i64 (Zao L a b c n).1) [m] (fun w'=>IsLed w' p m (Zao L a b c n).2) w):=by
 have ct:=fun w (h:IsLed w p m L)=>Vl p m L w h
 have cl:=fun w (h:IsLed w p m L)=>Zou p m L a b c w h
 have b1:=hwf.lk (a,b,c)
 unfold Zao lineR lk at *
 by_cases hn:n<1
 ·rw [if_pos hn]
  cases hl:lkO L.lines (a,b,c) with
  | none=>
    simp only [hl] at cl
    clear hl b1
    go_enter Tryz.func191,Tryz.ntmps191
    go_wp2_with fail
    refine (cl _ h).mono ?_
    rintro e w2 ⟨rfl,e2⟩
    have h2:=h.ext e2
    go_wp2_with (go_at_call 102;refine (ct _ (by first | exact h2 | exact h2.ext (Zc _ _))).mono ?_;rintro e w3 ⟨rfl,e3⟩;have t3:=e3.at (Zb w2 _);have g4:=Za t3 (j:=4) rfl;have h3:=(h2.ext (Zc _ _)).ext e3)
    go_wp2
    go_ret
    exact ⟨rfl,Kx (Xt e2 (Xt (Zc _ _) e3)),h3⟩
  | some v=>
    obtain ⟨vl,vd⟩:=v
    simp only [hl] at cl
    clear hl b1
    go_enter Tryz.func191,Tryz.ntmps191
    go_wp2_with fail
    refine (cl _ h).mono ?_
    rintro e w2 ⟨rfl,e2⟩
    have h2:=h.ext e2
    go_wp2_with (go_at_call 102;refine (ct _ (by first | exact h2 | exact h2.ext (Zc _ _))).mono ?_;rintro e w3 ⟨rfl,e3⟩;have t3:=e3.at (Zb w2 _);have g4:=Za t3 (j:=4) rfl;have h3:=(h2.ext (Zc _ _)).ext e3)
    go_wp2
    go_ret
    exact ⟨rfl,Kx (Xt e2 (Xt (Zc _ _) e3)),h3⟩
 rw [if_neg hn]
 cases hl:lkO L.lines (a,b,c) with
 | none=>
   simp only [hl] at cl ⊢
   clear hl b1
   go_enter Tryz.func191,Tryz.ntmps191
   go_wp2_with fail
   refine (cl _ h).mono ?_
   rintro e w2 ⟨rfl,e2⟩
   have h2:=h.ext e2
   go_wp2_with (go_at_call 102;refine (ct _ (by first | exact h2 | exact h2.ext (Zc _ _))).mono ?_;rintro e w3 ⟨rfl,e3⟩;have t3:=e3.at (Zb w2 _);have g4:=Za t3 (j:=4) rfl;have h3:=(h2.ext (Zc _ _)).ext e3)
   go_wp2
   go_ret
   exact ⟨rfl,Kx (Xt e2 (Xt (Zc _ _) e3)),h3⟩
 | some v=>
   obtain ⟨vl,vd⟩:=v
   simp only [hl,Option.getD_some] at cl b1 ⊢
   by_cases hd:vd<n
   ·rw [if_pos hd]
    clear hl b1
    go_enter Tryz.func191,Tryz.ntmps191
    go_wp2_with fail
    refine (cl _ h).mono ?_
    rintro e w2 ⟨rfl,e2⟩
    have h2:=h.ext e2
    go_wp2_with (go_at_call 102;refine (ct _ (by first | exact h2 | exact h2.ext (Zc _ _))).mono ?_;rintro e w3 ⟨rfl,e3⟩;have t3:=e3.at (Zb w2 _);have g4:=Za t3 (j:=4) rfl;have h3:=(h2.ext (Zc _ _)).ext e3)
    go_wp2
    go_ret
    exact ⟨rfl,Kx (Xt e2 (Xt (Zc _ _) e3)),h3⟩
   rw [if_neg hd]
   have ca:=fun w (h:IsLed w p m L)=>Zda p m L a b c (-n) w h (by unfold lk;rw [hl];simp;omega) (by unfold lk;rw [hl];simp;omega) (by omega) (by omega)
   simp only [Xm] at ca
   have hdn:n<=vd:=by omega
   have hvd:vd<=1099511627776:=by omega
   clear hl b1
   go_enter Tryz.func191,Tryz.ntmps191
   go_wp2_with fail
   refine (cl _ h).mono ?_
   rintro e w2 ⟨rfl,e2⟩
   have h2:=h.ext e2
   go_wp2_with (go_at_call 102;refine (ct _ (by first | exact h2 | exact h2.ext (Zc _ _))).mono ?_;rintro e w3 ⟨rfl,e3⟩;have t3:=e3.at (Zb w2 _);have g4:=Za t3 (j:=4) rfl;have h3:=(h2.ext (Zc _ _)).ext e3)
   go_wp2_with fail
   refine (ca _ h3).mono ?_
   rintro e w4 ⟨rfl,k4,h4⟩
   go_wp2
   go_ret
   exact ⟨rfl,(Kx (Xt e2 (Xt (Zc _ _) e3))).trans k4,h4⟩
end Go.Proofs.YtipjchbdogmccaaGreat
