/- QuotesVoid: of a machine that is not there nothing is quoted; walked. -/
import Derived.Test.YtipjchbdogmccaaGreatQu
set_option maxHeartbeats 12800000
set_option maxRecDepth 100000
namespace Go.Proofs.YtipjchbdogmccaaGreat
open Go.RowKit Go.Rg Go.BigFrame
theorem Zlo (most:Int):∀(f:Nat) (hi:Int),Ux (fun _=>(0,2)) most f 0 hi 0=(0,0)
 | 0,_=>rfl
 | f+1,hi=>by
   unfold Ux
   by_cases h:0<hi
   ·rw [if_pos h,if_neg (by simp),Zlo most f]
   rw [if_neg h]
theorem Zgm (pa:Option Addr) (fr to get give n:Int) (w:World) (hth:∀W,Ext w W->Calls Tryz.prog 52 #[.pointer pa] W (Ret (.bool false) W)):
 Calls Tryz.prog 45 #[.pointer pa,.int .u8 fr,.int .u8 to,.int .u8 get,.int .u8 give,.int .i64 n] w (Ret (.tuple #[.int .i64 0,.int .i64 2]) w):=by
 go_enter Tryz.func45,Tryz.ntmps45
 go_wp2_with fail
 refine (Zi7 pa w hth).mono ?_
 rintro e w1 ⟨rfl,e1⟩
 go_wp2_with (refine Jp (len:=1) rfl (by kernel_rfl) (.cells (X3 [swS fr to get give n 1099511627776]).toArray 30) (.slice (some ⟨w1.heap.size,0,none⟩) 1 1) _ rfl (by kernel_rfl) ?_
              intro w2 e2 h2)
 refine (Zj5 none _ w2 (fun W _=>Zeg W)).mono ?_
 rintro e w3 ⟨rfl,e3⟩
 have E3:Ext w w3:=Xt e1 (Xt e2 e3)
 have hz:=Zb w3 (.cells #[.int .i64 0,.int .i64 0,.slice none 0 0] 38)
 go_wp2_with (first
  | (refine Ze rfl rfl 38 _ _ rfl w3.heap.size _ rfl rfl 38 _ hz (by kernel_rfl) (by rfl) (by rfl) ?_
     intro w5 hb5 ho5 hs5
     have e5:Ext w3 w5:=hb5 _ _ (Nat.le_refl _) (Zc _ _)
     have x0:=Za (j:=0) hs5 rfl
     have x2:=Za (j:=2) hs5 rfl))
 clear x0 x2 hb5 ho5
 refine Z9 Zl [] (by kernel_rfl) (by kernel_rfl) ?_
 intro w1 hw1
 have x0:=fun u:ExtOf w1=>Za (j:=0) ((Xt hw1 u.h).at hs5) rfl
 simp only [Zk,Rg.hsB,Nat.reduceAdd,↓reduceIte]
 repeat (go_big_quiet_step (fail))
 refine wpQuiet_nil ?_
 clear x0
 refine Xc (by kernel_rfl) ?_
 intro w6 e6 e6'
 try simp only [Act.put,Rg.puC,Rg.puB]
 go_wp2_with fail
 go_ret2
 exact ⟨rfl,Xt E3 (Xt e5 e6)⟩
theorem Zlp (pa:Option Addr) (fr to get give most:Int) (w:World) (hth:∀W,Ext w W->Calls Tryz.prog 52 #[.pointer pa] W (Ret (.bool false) W)):
 Calls Tryz.prog 46 #[.pointer pa,.int .u8 fr,.int .u8 to,.int .u8 get,.int .u8 give,.int .i64 most] w (Ret (.tuple #[.int .i64 0,.int .i64 0]) w):=by
 have h:=Zoi (.pointer pa) (fun _=>(0,2)) fr to get give most w fun n W k _ _=>Zgm pa fr to get give n W (fun W' k'=>hth W' (Xt k k'))
 rw [Zlo] at h
 exact h
theorem Zn8 (pa:Option Addr) (v:Value) (w:World) (hth:∀W,Ext w W->Calls Tryz.prog 52 #[.pointer pa] W (Ret (.bool false) W)):
 Calls Tryz.prog 44 #[.pointer pa,.agg #[v]] w (Ret (.agg #[.int .i64 2,.int .i64 0,.slice none 0 0,.slice none 0 0,.slice none 0 0,.slice none 0 0]) w):=by
 have e0:=Zc w (.cells #[v] 42)
 have s0:=size_alloc w (.cells #[v] 42)
 have h0:=Zb w (.cells #[v] 42)
 generalize hW:w.alloc (.cells #[v] 42)=W at *
 have HW:=Lib.hid hW
 clear hW
 go_enter Tryz.func44,Tryz.ntmps44
 go_wp2_with (first
  | (refine Zu rfl 116 rfl (.cells #[.int .i64 0,.int .i64 0,.slice none 0 0,.slice none 0 0,.slice none 0 0,.slice none 0 0] 116) _ rfl (by go_simp) ?_
     rw [HW.out]
     intro w2 e2 h2
     rw [s0] at h2))
 have e02:=Xt e0 e2
 refine (Zp8 pa w2 (fun W' k=>hth W' (Xt e02 k))).mono ?_
 rintro e w3 ⟨rfl,e3⟩
 have hz3:=Zb w3 (.cells #[.slice none 0 0,.slice none 0 0,.slice none 0 0,.int .u64 0] 47)
 go_wp2_with (first
  | (refine Ze rfl rfl 47 _ _ rfl w3.heap.size _ rfl rfl 47 _ hz3 (by kernel_rfl) (by rfl) (by rfl) ?_
     intro w4 hb4 ho4 h4))
 have e4:Ext w3 w4:=hb4 _ _ (Nat.le_refl _) (Zc _ _)
 have E4:=Xt e02 (Xt e3 e4)
 clear hb4 ho4 hz3 h4
 refine (Zi7 pa w4 (fun W' k=>hth W' (Xt E4 k))).mono ?_
 rintro e w5 ⟨rfl,e5⟩
 have E5:=Xt E4 e5
 have h25:=(Xt e3 (Xt e4 e5)).at h2
 have ldc:=Zi9 (w:=w5) (Za (j:=0) ((Xt e2 (Xt e3 (Xt e4 e5))).at h0) rfl)
 have lt2:=Zg h25
 clear h0 h2 HW e0 s0
 go_wp2_with (refine Zd rfl 42 _ _ _ rfl rfl ldc ?_)
 refine (Zj5 none _ w5 (fun W _=>Zeg W)).mono ?_
 rintro e w6 ⟨rfl,e6⟩
 have h26:=e6.at h25
 have E6:=Xt E5 e6
 have hz6:=Zb w6 (.cells #[.int .i64 0,.int .i64 0,.slice none 0 0] 38)
 clear ldc h25
 go_wp2_with (first
  | (refine Ze rfl rfl 38 _ _ rfl w6.heap.size _ rfl rfl 38 _ hz6 (by kernel_rfl) (by rfl) (by rfl) ?_
     intro w7 hb7 ho7 h7
     have e7:Ext w6 w7:=hb7 _ _ (Nat.le_refl _) (Zc _ _)
     have y0:=Za (j:=0) h7 rfl
     have h27:=e7.at h26
     have ld7:=run_loadVar_row w7 w6.heap.size _ _ _ _ _ h7 Tryz.underlying38 rfl (by kernel_rfl))
  | (refine Zd rfl 38 _ _ _ rfl rfl ld7 ?_)
  | (refine Ze rfl rfl 116 _ _ rfl (w.heap.size+1) _ rfl rfl 116 _ h27 (by kernel_rfl) (by rfl) (by rfl) ?_
     intro w8 hb8 ho8 h8))
 have E8:Ext w w8:=hb8 _ _ (by omega) (Xt E6 e7)
 exact Yp (w.heap.size+1) 116 _ _ _ rfl rfl h8 Tryz.underlying116 rfl (by kernel_rfl) rfl ⟨rfl,E8⟩
theorem qvoid_any (vc:Value) (fr to get give n:Int) (w:World):Calls Tryz.prog 10 #[.agg #[vc],.agg #[.int .u8 fr,.int .u8 to,.int .u8 get,.int .u8 give,.int .i64 n]] w (Ret (.bool true) w):=by
 obtain ⟨W0,hW0,d0,h0,s0⟩:=Y8 w #[vc] 42
 obtain ⟨W1,hW1,d1,h1,s1⟩:=Y8 W0 #[.int .u8 fr,.int .u8 to,.int .u8 get,.int .u8 give,.int .i64 n] 110
 obtain ⟨W2,hW2,d2,h2,s2⟩:=Y8 W1 #[.pointer none,.pointer none] 105
 obtain ⟨W,hW3,d3,h3,s3⟩:=Y8 W2 #[.pointer none,.pointer (some ⟨W1.heap.size,0,none⟩)] 33
 replace h2:=d3.at h2
 replace h1:=(Xt d2 d3).at h1
 replace h0:=(Xt d1 (Xt d2 d3)).at h0
 have E0:Ext w W:=Xt d0 (Xt d1 (Xt d2 d3))
 have th0:∀W2,Ext W W2->Calls Tryz.prog 52 #[.pointer none] W2 (Ret (.bool false) W2):=fun W2 _=>Zeg W2
 have th1:∀W2,Ext W W2->Calls Tryz.prog 52 #[.pointer (some ⟨W1.heap.size,0,none⟩)] W2 (Ret (.bool false) W2):=fun W2 kk=>Zoj _ W2 (kk.at h2)
 clear d0 d1 d2 d3 h2 s0 s1 s2 s3
 go_enter Tryz.func10,Tryz.ntmps10
 go_wp2_with (first | (rw [hW0]) | (rw [hW1]) | (rw [hW2]) | (rw [hW3]))
 clear hW0 hW1 hW2 hW3
 go_loopw [7,8,9,10,11,12,14,15,16,17,18,19,20,21,22,23,24,25,26,27,28,29,30,31,32,33,34,35,36,37,38,39,40,41,42,43,44,45,46,47,48,49,50,51,52,53,54,55,56,57,58,59,60,61,62,63,64,65,66,67,68,69,70,71,72,73,74,75,76,77,78,79,80,81,82,83,84,85,86,87,88,89,90,91,92,93,94,95,96,97,98,99,100,101,102,103,104] (fun iv _ _ _ _ _ _ _ _ _ _ _ _ _ _ _ _ _ _ _ _ _ _ _ _ _ _ _ _ _ _ _ _ _ _ _ _ _ _ _ _ _ _ _ _ _ _ _ _ _ _ _ _ _ _ _ _ _ _ _ _ _ _ _ _ _ _ _ _ _ _ _ _ _ _ _ _ _ _ _ _ _ _ _ _ _ _ _ _ _ _ _ _ _ _ _ _ wr=>∃k:Nat,k<=2/\iv= .int .i64 k/\Ext W wr) (fun iv _ _ _ _ _ _ _ _ _ _ _ _ _ _ _ _ _ _ _ _ _ _ _ _ _ _ _ _ _ _ _ _ _ _ _ _ _ _ _ _ _ _ _ _ _ _ _ _ _ _ _ _ _ _ _ _ _ _ _ _ _ _ _ _ _ _ _ _ _ _ _ _ _ _ _ _ _ _ _ _ _ _ _ _ _ _ _ _ _ _ _ _ _ _ _ _ _=>2-(intOf iv).toNat)
 case atStart=>exact ⟨0,by omega,rfl,Ext.refl _⟩
 obtain ⟨k,hk,rfl,er⟩:=hrel
 rcases (show k=0\/k=1\/k=2 by omega) with rfl | rfl | rfl
 ·
  have hof:=fun W' (kk:Ext W W')=>Zn8 (none) vc W' (fun W2 k2=>th0 W2 (Xt kk k2))
  have hde:=fun W' (kk:Ext W W')=>Zgm (none) fr to get give n W' (fun W2 k2=>th0 W2 (Xt kk k2))
  have hmu:=fun W' (kk:Ext W W')=>Zlp (none) fr to get give n W' (fun W2 k2=>th0 W2 (Xt kk k2))
  go_wp2_with fail
  refine Zh Zl 7 [6] (by kernel_rfl) (by kernel_rfl) ?_
  intro w1 hw1
  have x0:=fun u:ExtOf w1=>Za (j:=0) ((Xt er (Xt hw1 u.h)).at h3) rfl
  have ldc:=fun wq (hq:Cls w1 wq)=>run_loadVar_row wq w.heap.size _ _ _ _ _ ((Xt er (Xt hw1 (Zgo hq))).at h0) Tryz.underlying42 rfl (by kernel_rfl)
  have hfu:=fun u:ExtOf w1=>hof u.to (Xt er (Xt hw1 u.h))
  simp only [Zk,Rg.hsB,Nat.reduceBEq,Nat.reduceAdd,↓reduceIte]
  repeat (first | go_big_quiet_step ((go_at_call 44;exact Ret.cls (hfu _))) | (go_big_quiet_want;(refine Z0 42 _ _ _ rfl rfl ldc ?_);go_big_quiet_on;simp only [Act.put,Rg.puB]))
  refine wpQuiet_nil ?_
  clear x0 ldc hfu hof
  refine Ub 6 _ (.cells #[.int .i64 0,.int .i64 0,.slice none 0 0,.slice none 0 0,.slice none 0 0,.slice none 0 0] 116) (fun a w=>by kernel_rfl) rfl (by kernel_rfl) (by decide) (by rfl) ?_
  intro R w4 e4 _ hR _ hRr
  refine Zj (by kernel_rfl) ?_
  intro w5 e5 e5'
  simp only [Act.put,Rg.puC,Rg.puB]
  have rp5:=(e5').at hRr
  go_wp2_with (first
   | (refine Ze rfl rfl 116 _ _ rfl R _ rfl rfl 116 _ rp5 (by kernel_rfl) (by rfl) (by rfl) ?_
      intro w6 hb6 ho6 h6))
  have E6:Ext wr w6:=hb6 _ _ hR e5
  clear hb6 ho6 rp5 hRr e4 e5 e5'
  have E6':=Xt er E6
  refine Z9 Zl [] (by kernel_rfl) (by kernel_rfl) ?_
  intro w1 hw1
  have x0:=fun u:ExtOf w1=>Za (j:=0) ((Xt E6' (Xt hw1 u.h)).at h3) rfl
  have a0:=fun u:ExtOf w1=>Za (j:=0) ((Xt E6' (Xt hw1 u.h)).at h1) rfl
  have a1:=fun u:ExtOf w1=>Za (j:=1) ((Xt E6' (Xt hw1 u.h)).at h1) rfl
  have a2:=fun u:ExtOf w1=>Za (j:=2) ((Xt E6' (Xt hw1 u.h)).at h1) rfl
  have a3:=fun u:ExtOf w1=>Za (j:=3) ((Xt E6' (Xt hw1 u.h)).at h1) rfl
  have a4:=fun u:ExtOf w1=>Za (j:=4) ((Xt E6' (Xt hw1 u.h)).at h1) rfl
  have hdu:=fun u:ExtOf w1=>hde u.to (Xt E6' (Xt hw1 u.h))
  simp only [Zk,Rg.hsB,Nat.reduceAdd,↓reduceIte]
  repeat (go_big_quiet_step ((go_at_call 45;exact Ret.cls (hdu _))))
  refine wpQuiet_nil ?_
  clear x0 a0 a1 a2 a3 a4 hdu hde
  refine Xc (by kernel_rfl) ?_
  intro w7 e7 e7'
  try simp only [Act.put,Rg.puC,Rg.puB]
  have E7':=Xt E6' e7
  go_wp2_with fail
  refine Z9 Zl [] (by kernel_rfl) (by kernel_rfl) ?_
  intro w1 hw1
  have x0:=fun u:ExtOf w1=>Za (j:=0) ((Xt E7' (Xt hw1 u.h)).at h3) rfl
  have a0:=fun u:ExtOf w1=>Za (j:=0) ((Xt E7' (Xt hw1 u.h)).at h1) rfl
  have a1:=fun u:ExtOf w1=>Za (j:=1) ((Xt E7' (Xt hw1 u.h)).at h1) rfl
  have a2:=fun u:ExtOf w1=>Za (j:=2) ((Xt E7' (Xt hw1 u.h)).at h1) rfl
  have a3:=fun u:ExtOf w1=>Za (j:=3) ((Xt E7' (Xt hw1 u.h)).at h1) rfl
  have a4:=fun u:ExtOf w1=>Za (j:=4) ((Xt E7' (Xt hw1 u.h)).at h1) rfl
  have hmuu:=fun u:ExtOf w1=>hmu u.to (Xt E7' (Xt hw1 u.h))
  simp only [Zk,Rg.hsB,Nat.reduceAdd,↓reduceIte]
  repeat (go_big_quiet_step ((go_at_call 46;exact Ret.cls (hmuu _))))
  refine wpQuiet_nil ?_
  clear x0 a0 a1 a2 a3 a4 hmuu hmu
  refine Xc (by kernel_rfl) ?_
  intro w8 e8 e8'
  try simp only [Act.put,Rg.puC,Rg.puB]
  have h68:=(Xt e7 e8).at h6
  have c0:=Za (j:=0) h68 rfl
  have c1:=Za (j:=1) h68 rfl
  have c2:=Za (j:=2) h68 rfl
  have c3:=Za (j:=3) h68 rfl
  have c4:=Za (j:=4) h68 rfl
  have c5:=Za (j:=5) h68 rfl
  go_wp2_with fail
  exact ⟨⟨1,by omega,by first | rfl | go_num,Xt E7' e8⟩,by simp [intOf]⟩
 ·
  have hof:=fun W' (kk:Ext W W')=>Zn8 (some ⟨W1.heap.size,0,none⟩) vc W' (fun W2 k2=>th1 W2 (Xt kk k2))
  have hde:=fun W' (kk:Ext W W')=>Zgm (some ⟨W1.heap.size,0,none⟩) fr to get give n W' (fun W2 k2=>th1 W2 (Xt kk k2))
  have hmu:=fun W' (kk:Ext W W')=>Zlp (some ⟨W1.heap.size,0,none⟩) fr to get give n W' (fun W2 k2=>th1 W2 (Xt kk k2))
  go_wp2_with fail
  refine Zh Zl 7 [6] (by kernel_rfl) (by kernel_rfl) ?_
  intro w1 hw1
  have x0:=fun u:ExtOf w1=>Za (j:=1) ((Xt er (Xt hw1 u.h)).at h3) rfl
  have ldc:=fun wq (hq:Cls w1 wq)=>run_loadVar_row wq w.heap.size _ _ _ _ _ ((Xt er (Xt hw1 (Zgo hq))).at h0) Tryz.underlying42 rfl (by kernel_rfl)
  have hfu:=fun u:ExtOf w1=>hof u.to (Xt er (Xt hw1 u.h))
  simp only [Zk,Rg.hsB,Nat.reduceBEq,Nat.reduceAdd,↓reduceIte]
  repeat (first | go_big_quiet_step ((go_at_call 44;exact Ret.cls (hfu _))) | (go_big_quiet_want;(refine Z0 42 _ _ _ rfl rfl ldc ?_);go_big_quiet_on;simp only [Act.put,Rg.puB]))
  refine wpQuiet_nil ?_
  clear x0 ldc hfu hof
  refine Ub 6 _ (.cells #[.int .i64 0,.int .i64 0,.slice none 0 0,.slice none 0 0,.slice none 0 0,.slice none 0 0] 116) (fun a w=>by kernel_rfl) rfl (by kernel_rfl) (by decide) (by rfl) ?_
  intro R w4 e4 _ hR _ hRr
  refine Zj (by kernel_rfl) ?_
  intro w5 e5 e5'
  simp only [Act.put,Rg.puC,Rg.puB]
  have rp5:=(e5').at hRr
  go_wp2_with (first
   | (refine Ze rfl rfl 116 _ _ rfl R _ rfl rfl 116 _ rp5 (by kernel_rfl) (by rfl) (by rfl) ?_
      intro w6 hb6 ho6 h6))
  have E6:Ext wr w6:=hb6 _ _ hR e5
  clear hb6 ho6 rp5 hRr e4 e5 e5'
  have E6':=Xt er E6
  refine Z9 Zl [] (by kernel_rfl) (by kernel_rfl) ?_
  intro w1 hw1
  have x0:=fun u:ExtOf w1=>Za (j:=1) ((Xt E6' (Xt hw1 u.h)).at h3) rfl
  have a0:=fun u:ExtOf w1=>Za (j:=0) ((Xt E6' (Xt hw1 u.h)).at h1) rfl
  have a1:=fun u:ExtOf w1=>Za (j:=1) ((Xt E6' (Xt hw1 u.h)).at h1) rfl
  have a2:=fun u:ExtOf w1=>Za (j:=2) ((Xt E6' (Xt hw1 u.h)).at h1) rfl
  have a3:=fun u:ExtOf w1=>Za (j:=3) ((Xt E6' (Xt hw1 u.h)).at h1) rfl
  have a4:=fun u:ExtOf w1=>Za (j:=4) ((Xt E6' (Xt hw1 u.h)).at h1) rfl
  have hdu:=fun u:ExtOf w1=>hde u.to (Xt E6' (Xt hw1 u.h))
  simp only [Zk,Rg.hsB,Nat.reduceAdd,↓reduceIte]
  repeat (go_big_quiet_step ((go_at_call 45;exact Ret.cls (hdu _))))
  refine wpQuiet_nil ?_
  clear x0 a0 a1 a2 a3 a4 hdu hde
  refine Xc (by kernel_rfl) ?_
  intro w7 e7 e7'
  try simp only [Act.put,Rg.puC,Rg.puB]
  have E7':=Xt E6' e7
  go_wp2_with fail
  refine Z9 Zl [] (by kernel_rfl) (by kernel_rfl) ?_
  intro w1 hw1
  have x0:=fun u:ExtOf w1=>Za (j:=1) ((Xt E7' (Xt hw1 u.h)).at h3) rfl
  have a0:=fun u:ExtOf w1=>Za (j:=0) ((Xt E7' (Xt hw1 u.h)).at h1) rfl
  have a1:=fun u:ExtOf w1=>Za (j:=1) ((Xt E7' (Xt hw1 u.h)).at h1) rfl
  have a2:=fun u:ExtOf w1=>Za (j:=2) ((Xt E7' (Xt hw1 u.h)).at h1) rfl
  have a3:=fun u:ExtOf w1=>Za (j:=3) ((Xt E7' (Xt hw1 u.h)).at h1) rfl
  have a4:=fun u:ExtOf w1=>Za (j:=4) ((Xt E7' (Xt hw1 u.h)).at h1) rfl
  have hmuu:=fun u:ExtOf w1=>hmu u.to (Xt E7' (Xt hw1 u.h))
  simp only [Zk,Rg.hsB,Nat.reduceAdd,↓reduceIte]
  repeat (go_big_quiet_step ((go_at_call 46;exact Ret.cls (hmuu _))))
  refine wpQuiet_nil ?_
  clear x0 a0 a1 a2 a3 a4 hmuu hmu
  refine Xc (by kernel_rfl) ?_
  intro w8 e8 e8'
  try simp only [Act.put,Rg.puC,Rg.puB]
  have h68:=(Xt e7 e8).at h6
  have c0:=Za (j:=0) h68 rfl
  have c1:=Za (j:=1) h68 rfl
  have c2:=Za (j:=2) h68 rfl
  have c3:=Za (j:=3) h68 rfl
  have c4:=Za (j:=4) h68 rfl
  have c5:=Za (j:=5) h68 rfl
  go_wp2_with fail
  exact ⟨⟨2,by omega,by first | rfl | go_num,Xt E7' e8⟩,by simp [intOf]⟩
 go_wp2_with fail
 refine (Vg _).mono ?_
 rintro e w5 ⟨rfl,e5⟩
 go_wp2_with fail
 go_ret
 exact ⟨rfl,Xt E0 (Xt er e5)⟩
end Go.Proofs.YtipjchbdogmccaaGreat
