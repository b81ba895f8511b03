/- JournalsVoid: journals that are none; walked. -/
import Derived.Test.YtipjchbdogmccaaGreatJl
namespace Go.Proofs.YtipjchbdogmccaaGreat
open Go.RowKit Go.Rg Go.BigFrame
theorem Zrf (tmps:Array Value) (w:World):(results Tryz.f9 tmps).run Tryz.prog w= .ok (tmps.getD 4 undef) w:=by
 have hr:Tryz.f9.results=#[.tmp 4]:=rfl
 simp only [results,hr]
 simp
def jZ:Array Value:=(X0 (.pointer none) (fun _ _=>0) (fun _ _=>0) 0 (.slice none 0 0)).toArray
set_option maxRecDepth 100000 in
set_option maxHeartbeats 12800000 in
theorem jvoid_any (vc:Value) (pa cu at_:Int) (w:World):Calls Tryz.prog 9 #[.agg #[vc],.agg #[.int .u8 pa,.int .u8 cu,.int .i64 at_]] w (Ret (.bool true) w):=by
 obtain ⟨W,hW,e0,x0,x1,hs⟩:=Zom w #[vc] #[.int .u8 pa,.int .u8 cu,.int .i64 at_] 42 88
 subst hW
 refine (callsIn_wide (n:=0)).1 ?_
 refine callsIn_of_wp_marks Tryz.func9 rfl trivial ?_ rfl
 refine wpIn_wide.2 ?_
 simp only [Tryz.ntmps9,List.size_toArray,List.length_cons,List.length_nil,Nat.reduceAdd,Nat.reduceSub,Array.replicate_succ,Array.replicate_zero,List.push_toArray,List.append_toArray,List.nil_append,List.cons_append]
 go_wp2_with (first
  | (refine Zm rfl 99 rfl (.cells jZ 99) _ rfl (by kernel_rfl) ?_
     intro w2 e2 h2)
  | (refine Zm rfl 105 rfl (.cells #[.pointer none,.pointer none] 105) _ rfl (by kernel_rfl) ?_
     intro wq eq hq)
  | (refine Vt (len:=2) rfl (by kernel_rfl) (.cells #[.pointer none,.pointer (some ⟨((w.alloc (.cells #[vc] 42)).alloc (.cells #[.int .u8 pa,.int .u8 cu,.int .i64 at_] 88)).heap.size,0,none⟩)] 77) (.slice (some ⟨wq.heap.size,0,none⟩) 2 2) _ rfl (by kernel_rfl) ?_
     intro W0 e4 x4))
 rw [hs] at h2 x4
 have x2:=(Xt eq e4).at h2
 have x3:=e4.at hq
 have E20:=Xt e2 (Xt eq e4)
 have x0:=E20.at x0
 have x1:=E20.at x1
 have E0:=Xt e0 E20
 clear h2 hq e0 e2 eq e4 E20
 go_loopw [4,8,14,15,16,17,18,19,20,21,22,23,24,25,26,27,28,29,30,31,32,33,34,35,36,37,38,39,40,41,42,43,44,45,46,47,48,49,50,51,52,53,54,55,56,57,58,59,60,61,62,63,64,65,66,67,68,69,70,71,72,73,74,75,76,77,78,79,80] (fun _ i _ _ _ _ _ _ _ _ _ _ _ _ _ _ _ _ _ _ _ _ _ _ _ _ _ _ _ _ _ _ _ _ _ _ _ _ _ _ _ _ _ _ _ _ _ _ _ _ _ _ _ _ _ _ _ _ _ _ _ _ _ _ _ _ _ _ _ wr=>∃k:Nat,k<=2/\i= .int .i64 k/\Ext W0 wr) (fun _ i _ _ _ _ _ _ _ _ _ _ _ _ _ _ _ _ _ _ _ _ _ _ _ _ _ _ _ _ _ _ _ _ _ _ _ _ _ _ _ _ _ _ _ _ _ _ _ _ _ _ _ _ _ _ _ _ _ _ _ _ _ _ _ _ _ _ _ _=>2-(intOf i).toNat)
 case atStart=>exact ⟨0,by omega,rfl,Ext.refl _⟩
 obtain ⟨k,hk,rfl,er⟩:=hrel
 rcases (show k=0\/k=1\/k=2 by omega) with rfl | rfl | rfl
 ·have hno:∀W,Ext W0 W->NoJ W (.pointer none):=fun W k=>.inl rfl
  go_wp2_with fail
  refine Yo Zl [] (by kernel_rfl) (by kernel_rfl) ?_
  intro w1 hw1
  have EU:=fun u:ExtOf w1=>Xt er (Xt hw1 u.h)
  have l0:=fun u:ExtOf w1=>Za (j:=0) ((EU u).at x4) rfl
  have a0:=fun u:ExtOf w1=>Za (j:=0) ((EU u).at x1) rfl
  have a1:=fun u:ExtOf w1=>Za (j:=1) ((EU u).at x1) rfl
  have a2:=fun u:ExtOf w1=>Za (j:=2) ((EU u).at x1) rfl
  have ldc:∀wv,Cls w1 wv->(loadVar 42 ⟨w.heap.size,0,none⟩).run Tryz.prog wv= .ok (.agg #[vc]) wv:=by
   rintro _ ⟨u,rfl⟩
   exact run_loadVar_row u.to w.heap.size _ _ _ _ _ ((EU u).at x0) Tryz.underlying42 rfl (by kernel_rfl)
  have hdo:=fun u:ExtOf w1=>jdo_no u.to (.pointer none) vc (hno u.to (EU u))
  have hmn:=fun u:ExtOf w1=>Zpq u.to (.pointer none) (hno u.to (EU u))
  have hal:=fun u:ExtOf w1=>jall_no u.to (.pointer none) (hno u.to (EU u))
  have hac:=fun u:ExtOf w1=>jacc_no u.to (.pointer none) pa cu (hno u.to (EU u))
  have hst:=fun u:ExtOf w1=>Zl5 u.to (.pointer none) (hno u.to (EU u))
  have hso:=fun u:ExtOf w1=>Zl4 u.to (.pointer none) pa cu at_ (hno u.to (EU u))
  have htu:=fun u:ExtOf w1=>Zpk u.to (.pointer none) cu (hno u.to (EU u))
  have hsr:=fun u:ExtOf w1=>Zgx 0 0 _ _ 2 0 [] u.to (Zas _ _ _) (Zas _ _ _)
  have hfd:∀w:World,(Instr.field 47 (.agg #[.slice none 0 0,.slice none 0 0,.slice none 0 0,.int .u64 0]) 0).run Tryz.prog w= .ok (.slice none 0 0) w:=fun _=>by kernel_rfl
  clear hno EU
  simp only [Zj,List.append_eq,List.cons_append,List.nil_append,Rg.hsB,Nat.reduceAdd,↓reduceIte]
  repeat (first | go_big_quiet_step ((first | (go_at_call 41;exact Ret.cls (hdo _)) | (go_at_call 42;exact Ret.cls (hmn _)) | (go_at_call 33;exact Ret.cls (hal _)) | (go_at_call 35;exact Ret.cls (hac _)) | (go_at_call 38;exact Ret.cls (hst _)) | (go_at_call 37;exact Ret.cls (hso _)) | (go_at_call 34;exact Ret.cls (htu _)) | (go_at_call 40;exact Ret.cls (hsr _)))) | (go_big_quiet_want;(refine Z5 42 _ _ _ rfl rfl ldc ?_);go_big_quiet_on;simp only [Act.put,Rg.puB]))
  refine wpQuiet_nil ?_
  refine Vr (by kernel_rfl) ?_
  intro w8 e8 e8'
  try simp only [Act.put,Rg.puC,Rg.puB]
  clear l0 a0 a1 a2 ldc hdo hmn hal hac hst hso htu hsr hw1 hfd
  have E12:=Xt er e8
  go_wp2_with fail
  exact ⟨⟨1,by omega,by first | rfl | go_num,E12⟩,by simp [intOf]⟩
 ·have hno:∀W,Ext W0 W->NoJ W (.pointer (some ⟨w.heap.size+1+1,0,none⟩)):=fun W k=>.inr ⟨_,_,_,_,_,rfl,k.at x2⟩
  go_wp2_with fail
  refine Yo Zl [] (by kernel_rfl) (by kernel_rfl) ?_
  intro w1 hw1
  have EU:=fun u:ExtOf w1=>Xt er (Xt hw1 u.h)
  have l0:=fun u:ExtOf w1=>Za (j:=1) ((EU u).at x4) rfl
  have a0:=fun u:ExtOf w1=>Za (j:=0) ((EU u).at x1) rfl
  have a1:=fun u:ExtOf w1=>Za (j:=1) ((EU u).at x1) rfl
  have a2:=fun u:ExtOf w1=>Za (j:=2) ((EU u).at x1) rfl
  have ldc:∀wv,Cls w1 wv->(loadVar 42 ⟨w.heap.size,0,none⟩).run Tryz.prog wv= .ok (.agg #[vc]) wv:=by
   rintro _ ⟨u,rfl⟩
   exact run_loadVar_row u.to w.heap.size _ _ _ _ _ ((EU u).at x0) Tryz.underlying42 rfl (by kernel_rfl)
  have hdo:=fun u:ExtOf w1=>jdo_no u.to (.pointer (some ⟨w.heap.size+1+1,0,none⟩)) vc (hno u.to (EU u))
  have hmn:=fun u:ExtOf w1=>Zpq u.to (.pointer (some ⟨w.heap.size+1+1,0,none⟩)) (hno u.to (EU u))
  have hal:=fun u:ExtOf w1=>jall_no u.to (.pointer (some ⟨w.heap.size+1+1,0,none⟩)) (hno u.to (EU u))
  have hac:=fun u:ExtOf w1=>jacc_no u.to (.pointer (some ⟨w.heap.size+1+1,0,none⟩)) pa cu (hno u.to (EU u))
  have hst:=fun u:ExtOf w1=>Zl5 u.to (.pointer (some ⟨w.heap.size+1+1,0,none⟩)) (hno u.to (EU u))
  have hso:=fun u:ExtOf w1=>Zl4 u.to (.pointer (some ⟨w.heap.size+1+1,0,none⟩)) pa cu at_ (hno u.to (EU u))
  have htu:=fun u:ExtOf w1=>Zpk u.to (.pointer (some ⟨w.heap.size+1+1,0,none⟩)) cu (hno u.to (EU u))
  have hsr:=fun u:ExtOf w1=>Zgx 0 0 _ _ 2 0 [] u.to (Zas _ _ _) (Zas _ _ _)
  have hfd:∀w:World,(Instr.field 47 (.agg #[.slice none 0 0,.slice none 0 0,.slice none 0 0,.int .u64 0]) 0).run Tryz.prog w= .ok (.slice none 0 0) w:=fun _=>by kernel_rfl
  clear hno EU
  simp only [Zj,List.append_eq,List.cons_append,List.nil_append,Rg.hsB,Nat.reduceAdd,↓reduceIte]
  repeat (first | go_big_quiet_step ((first | (go_at_call 41;exact Ret.cls (hdo _)) | (go_at_call 42;exact Ret.cls (hmn _)) | (go_at_call 33;exact Ret.cls (hal _)) | (go_at_call 35;exact Ret.cls (hac _)) | (go_at_call 38;exact Ret.cls (hst _)) | (go_at_call 37;exact Ret.cls (hso _)) | (go_at_call 34;exact Ret.cls (htu _)) | (go_at_call 40;exact Ret.cls (hsr _)))) | (go_big_quiet_want;(refine Z5 42 _ _ _ rfl rfl ldc ?_);go_big_quiet_on;simp only [Act.put,Rg.puB]))
  refine wpQuiet_nil ?_
  refine Vr (by kernel_rfl) ?_
  intro w8 e8 e8'
  try simp only [Act.put,Rg.puC,Rg.puB]
  clear l0 a0 a1 a2 ldc hdo hmn hal hac hst hso htu hsr hw1 hfd
  have E12:=Xt er e8
  go_wp2_with fail
  exact ⟨⟨2,by omega,by first | rfl | go_num,E12⟩,by simp [intOf]⟩
 have hn0:=jnew_no none wr (fun W2 _=>Zrq W2)
 go_wp2_with fail
 refine hn0.mono ?_
 rintro e w5 ⟨rfl,e5⟩
 have z3:=(Xt er e5).at x3
 have hn1:=jnew_no (some ⟨w2.heap.size,0,none⟩) w5 (fun W2 k2=>Zo0 _ W2 (k2.at z3))
 clear hn0
 go_wp2_with fail
 refine hn1.mono ?_
 rintro e w6 ⟨rfl,e6⟩
 clear hn1
 go_wp2_with fail
 refine (Ur _).mono ?_
 rintro e w7 ⟨rfl,e7⟩
 go_wp2
 exact ⟨_,Zrf _ _,rfl,Xt E0 (Xt er (Xt e5 (Xt e6 e7)))⟩
end Go.Proofs.YtipjchbdogmccaaGreat
