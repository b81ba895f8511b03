/- Numbers: rates and exact products: what each function of the packages rats and exacts returns. Numbers, further: May, Inverse, Add. -/
import Derived.Test.YtipjchbdogmccaaGreatBase
import Derived.Test.YtipjchbdogmccaaGreatShelf
import Derived.WalkMore
import Derived.ScopeJumps
set_option maxHeartbeats 800000
set_option maxRecDepth 100000
namespace Go.Proofs.YtipjchbdogmccaaGreat
open Go.RowKit Go.Rg Go.BigFrame
theorem Zo3 (a b:Int) (ha:0<=a) (hb:0<=b):Int.gcd b (a%b)=Int.gcd a b:=by
 obtain ⟨m,rfl⟩:=Int.eq_ofNat_of_zero_le ha
 obtain ⟨n,rfl⟩:=Int.eq_ofNat_of_zero_le hb
 rw [<-Int.natCast_emod]
 show Nat.gcd n (m%n)=Nat.gcd m n
 rw [Nat.gcd_comm m n,Nat.gcd_comm n (m%n)]
 exact (Nat.gcd_rec n m).symm
def Zhl (m n:Int) (g:Nat):Prop:=Int.gcd m n=g
theorem Zhl.out {m n:Int} {g:Nat} (h:Zhl m n g):Int.gcd m n=g:=h
def DivJ (a b:Int) (w:World) (a':Act) (w':World):Prop:=
 ∃(m n:Int) (u5 u6 u7 u8 u9 u10 u11:Value),a'={ tmps:=#[.int .i64 m,.int .i64 n,undef,undef,.int .i64 0,u5,u6,u7,u8,u9,u10,u11],defers:=[] }/\
  0<=m/\0<=n/\m<=9223372036854775807/\n<=9223372036854775807/\Zhl m n (Int.gcd a b)/\Ext w w'
def divN (a':Act) (_:World):Nat:=(intOf (a'.tmps.getD 1 undef)).toNat
theorem Zc3 (m n:Int) (w:World) (hm:0<=m) (hn:0<=n) (hm2:m<=9223372036854775807) (hn2:n<=9223372036854775807):
 Calls Tryz.prog 319 #[.int .i64 m,.int .i64 n] w (Ret (.int .i64 (Int.gcd m n)) w):=by
 go_enter Tryz.func319,Tryz.ntmps319
 go_wp2
 refine wp_scope_jumps 0 (DivJ m n w) divN rfl ?_ ?_
 focus
  have HG:Zhl m n (Int.gcd m n):=rfl
  have hE:=Ext.refl w
  go_wp2
  go_step3
 rotate_left
 focus rintro a' w' ⟨m,n,u5,u6,u7,u8,u9,u10,u11,rfl,hm,hn,hm2,hn2,HG,hE⟩
 all_goals
  by_cases hz:n=0
  ·subst hz
   go_wp2
   simp only [Exit.jump]
   go_ret
   have HV:m=(Int.gcd m 0:Int):=by rw [Int.gcd_zero_right,Int.natAbs_of_nonneg hm]
   exact ⟨congrArg Ending.returned (congrArg (Value.int .i64) (HV.trans (congrArg Nat.cast HG.out))),hE⟩
  have hz':(n==0)=false:=by simpa using hz
  have hn0:0<n:=by omega
  have hg2:=Zo3 m n hm hn
  have hl:=Int.emod_lt_of_pos m hn0
  have hp:=Int.emod_nonneg m hz
  have HG2:=Lib.hid hg2
  clear hg2
  go_wp2
  refine Zh Zl 5 [] (by kernel_rfl) (by kernel_rfl) ?_
  intro w1 hw1
  simp only [Zk,Rg.hsB,Nat.reduceAdd,↓reduceIte]
  repeat (go_big_quiet_step (fail))
  refine wpQuiet_nil ?_
  refine Zj (by kernel_rfl) ?_
  intro w2 e2 e2'
  simp only [Rg.puB]
  go_wp2
  go_step3
  have hle:m%n<=9223372036854775807:=by omega
  have hG3:Zhl n (m%n) _:=HG2.out.trans HG.out
  first
   | exact ⟨rfl,_,_,_,_,_,_,_,_,_,rfl,hn,hp,hn2,hle,hG3,Xt hE e2⟩
   | (refine ⟨rfl,⟨_,_,_,_,_,_,_,_,_,rfl,hn,hp,hn2,hle,hG3,Xt hE e2⟩,?_⟩;simp [divN,intOf];omega)
def Xp (n d:Int):Int×Int:=if n<1\/d<1 then (0,0) else (n / Int.gcd n d,d / Int.gcd n d)
def rat (r:Int×Int):Value:= .agg #[.int .i64 r.1,.int .i64 r.2]
theorem Zbo (n d:Int) (w:World) (hn2:n<=9223372036854775807) (hd2:d<=9223372036854775807):
 Calls Tryz.prog 300 #[.int .i64 n,.int .i64 d] w (Ret (rat (Xp n d)) w):=by
 have e0:Ext w (w.alloc (.cells #[.int .i64 0,.int .i64 0] 27)):=Zc _ _
 have h0:=Zb w (.cells #[.int .i64 0,.int .i64 0] 27)
 by_cases hn:n<1
 focus have hl:Xp n d=(0,0):=by unfold Xp;rw [if_pos (Or.inl hn)]
 rotate_left
 focus
  by_cases hd:d<1
  focus have hl:Xp n d=(0,0):=by unfold Xp;rw [if_pos (Or.inr hd)]
  rotate_left
  ·have hl:Xp n d=(n / Int.gcd n d,d / Int.gcd n d):=by unfold Xp;rw [if_neg (by omega)]
   rw [hl]
   have hg0:0<Int.gcd n d:=Int.gcd_pos_of_ne_zero_left d (by omega)
   have hgn:Int.gcd n d<=n:=Int.le_of_dvd (by omega) (Int.gcd_dvd_left ..)
   have hc:=Zc3 n d (w.alloc (.cells #[.int .i64 0,.int .i64 0] 27)) (by omega) (by omega) hn2 hd2
   generalize Int.gcd n d=g at hg0 hgn hc ⊢
   have hg1:(1:Int)<=g:=by omega
   have hn0:0<=n:=by omega
   have hd0:0<=d:=by omega
   go_enter Tryz.func300,Tryz.ntmps300
   go_wp2_with (go_at_call 319;refine hc.mono ?_;rintro e w' ⟨rfl,he'⟩)
   refine Zh Zl 7 [] (by kernel_rfl) (by kernel_rfl) ?_
   intro w1 hw1
   simp only [Zk,Rg.hsB,Nat.reduceAdd,↓reduceIte]
   repeat (go_big_quiet_step (fail))
   refine wpQuiet_nil ?_
   refine Zj (by kernel_rfl) ?_
   intro w2 e2 e2'
   simp only [Rg.puB]
   have h2:=e2.at (he'.at h0)
   refine Ze rfl rfl 27 _ _ rfl w.heap.size _ rfl rfl 27 _ h2 (by kernel_rfl) (by rfl) (by rfl) ?_
   intro w3 hb3 _ h3
   go_wp2
   exact Yp w.heap.size 27 _ _ _ rfl rfl h3 Tryz.underlying27 rfl (by kernel_rfl) rfl ⟨rfl,hb3 _ _ (Nat.le_refl _) (Xt e0 (Xt he' e2))⟩
 all_goals
  rw [hl]
  go_enter Tryz.func300,Tryz.ntmps300
  go_wp2
  exact Yp w.heap.size 27 _ _ _ rfl rfl h0 Tryz.underlying27 rfl (by kernel_rfl) rfl ⟨rfl,e0⟩
theorem Zgk (n d:Int) (w:World):
 Calls Tryz.prog 301 #[rat (n,d)] w (Ret (.bool (decide (1099511627776<max n d))) w):=by
 have e0:Ext w (w.alloc (.cells #[.int .i64 n,.int .i64 d] 27)):=Zc _ _
 simp only [rat]
 go_enter Tryz.func301,Tryz.ntmps301
 go_wp2
 go_ret
 exact ⟨rfl,e0⟩
theorem add_any (a:Int) (w:World) (ha1: -9223372036854775808<=a) (ha2:a<=9223372036854775807):
 Calls Tryz.prog 303 #[.int .i64 a,.int .i64 1] w (Ret (.tuple #[.int .i64 (if a=9223372036854775807 then 0 else a+1),.int .i64 (if a=9223372036854775807 then 10 else 0)]) w):=by
 by_cases h:a=9223372036854775807
 focus
  subst h
  have hw:wrap64 9223372036854775808<=9223372036854775807:=by unfold wrap64;omega
  rw [if_pos rfl,if_pos rfl]
 rotate_left
 focus
  have h':a<=9223372036854775806:=by omega
  rw [if_neg h,if_neg h]
  clear h ha2
 all_goals
  go_enter Tryz.func303,Tryz.ntmps303
  go_wp2
  go_ret2
  exact ⟨rfl,Ext.refl _⟩
theorem Zl8 (a b c d:Int) (w:World):(Op.equalIn 10000 27 (.agg #[.int .i64 a,.int .i64 b]) (.agg #[.int .i64 c,.int .i64 d])).run Tryz.prog w= .ok (a==c&&b==d) w:=by
 have hS:Tryz.prog.underlying 27=some (.struct (Tryz.prog.fieldsOf 27)):=by kernel_rfl
 have hp:Tryz.prog.stoodInHeld 27=false:=by kernel_rfl
 rw [show (10000:Nat)=9999+1 from rfl,run_equalIn_agg w 9999 27 _ _ hS hp]
 simp only [Program.fieldsOf,Tryz.underlying27]
 go_simp
 by_cases h1:a=c<;>by_cases h2:b=d<;>simp [h1,h2]
theorem Zh1 (a b c d:Int) (w:World):(binOp .neq 27 (.agg #[.int .i64 a,.int .i64 b]) (.agg #[.int .i64 c,.int .i64 d])).run Tryz.prog w= .ok (.bool (!(a==c&&b==d))) w:=by
 rw [run_neq_struct,Zl8];rfl
theorem Zh7 (a b c d:Int) (w:World):(binOp .eql 27 (.agg #[.int .i64 a,.int .i64 b]) (.agg #[.int .i64 c,.int .i64 d])).run Tryz.prog w= .ok (.bool (a==c&&b==d)) w:=by
 rw [run_eql_struct,Zl8];rfl
def Xl (n d:Int):Bool:=decide (1<=n/\1<=d/\Int.gcd n d=1/\n<=1099511627776/\d<=1099511627776)
theorem Zf9 (w:World):Calls Tryz.prog 264 #[rat (0,0)] w (Ret (.bool false) w):=by
 have e0:Ext w (w.alloc (.cells #[.int .i64 0,.int .i64 0] 27)):=Zc _ _
 simp only [rat]
 go_enter Tryz.func264,Tryz.ntmps264
 go_wp2
 refine Zh Zl 17 [] (by kernel_rfl) (by kernel_rfl) ?_
 intro w1 hw1
 have c0:=fun p:ExtOf w1=>Za (j:=0) ((Xt hw1 p.h).at (Zb _ _)) rfl
 have c1:=fun p:ExtOf w1=>Za (j:=1) ((Xt hw1 p.h).at (Zb _ _)) rfl
 simp only [Zk,Rg.hsB,Nat.reduceAdd,↓reduceIte]
 repeat (go_big_quiet_step (fail))
 refine wpQuiet_nil ?_
 refine Zj (by kernel_rfl) ?_
 intro w2 e2 e2'
 simp only [Rg.puB]
 go_wp2
 go_ret
 exact ⟨rfl,Xt e0 e2⟩
theorem Zf8 (n d:Int) (w:World) (hn2:n<=9223372036854775807) (hd2:d<=9223372036854775807) (h0:n≠0\/d≠0) (hne:Xp n d≠(n,d)):Calls Tryz.prog 264 #[rat (n,d)] w (Ret (.bool false) w):=by
 have e0:Ext w (w.alloc (.cells #[.int .i64 n,.int .i64 d] 27)):=Zc _ _
 have hl:=fun w=>Zbo n d w hn2 hd2
 generalize Xp n d=l at hl hne
 obtain ⟨ln,ld⟩:=l
 simp only [rat] at hl ⊢
 have hb0:(n==0&&d==0)=false:=by
  rcases h0 with h | h<;>simp [h]
 have hb1:(n==ln&&d==ld)=false:=by
  by_cases h1:n=ln
  ·by_cases h2:d=ld
   ·exact absurd (by rw [h1,h2]) hne
   simp [h2]
  simp [h1]
 have q0:∀w,(binOp .neq 27 (.agg #[.int .i64 n,.int .i64 d]) (.agg #[.int .i64 0,.int .i64 0])).run Tryz.prog w= .ok (.bool true) w:=fun w=>by rw [Zh1,hb0];rfl
 have q1:∀w,(binOp .eql 27 (.agg #[.int .i64 n,.int .i64 d]) (.agg #[.int .i64 ln,.int .i64 ld])).run Tryz.prog w= .ok (.bool false) w:=fun w=>by rw [Zh7,hb1]
 clear hb0 hb1 hne h0
 go_enter Tryz.func264,Tryz.ntmps264
 go_wp2
 refine Zh Zl 17 [] (by kernel_rfl) (by kernel_rfl) ?_
 intro w1 hw1
 have c0:=fun p:ExtOf w1=>Za (j:=0) ((Xt hw1 p.h).at (Zb _ _)) rfl
 have c1:=fun p:ExtOf w1=>Za (j:=1) ((Xt hw1 p.h).at (Zb _ _)) rfl
 simp only [Zk,Rg.hsB,Nat.reduceAdd,↓reduceIte]
 repeat (go_big_quiet_step ((go_at_call 300;exact Ret.cls (hl _))))
 refine wpQuiet_nil ?_
 refine Zj (by kernel_rfl) ?_
 intro w2 e2 e2'
 simp only [Rg.puB]
 go_wp2
 go_ret
 exact ⟨rfl,Xt e0 e2⟩
theorem Zf7 (n d:Int) (w:World) (hn2:n<=9223372036854775807) (hd2:d<=9223372036854775807) (h0:n≠0\/d≠0) (hne:Xp n d=(n,d)):Calls Tryz.prog 264 #[rat (n,d)] w (Ret (.bool (!decide (1099511627776<max n d))) w):=by
 have e0:Ext w (w.alloc (.cells #[.int .i64 n,.int .i64 d] 27)):=Zc _ _
 have hl:=fun w=>Zbo n d w hn2 hd2
 have hgr:=fun w=>Zgk n d w
 rw [hne] at hl
 clear hne
 simp only [rat] at hl hgr ⊢
 have hb0:(n==0&&d==0)=false:=by
  rcases h0 with h | h<;>simp [h]
 have q0:∀w,(binOp .neq 27 (.agg #[.int .i64 n,.int .i64 d]) (.agg #[.int .i64 0,.int .i64 0])).run Tryz.prog w= .ok (.bool true) w:=fun w=>by rw [Zh1,hb0];rfl
 have q1:∀w,(binOp .eql 27 (.agg #[.int .i64 n,.int .i64 d]) (.agg #[.int .i64 n,.int .i64 d])).run Tryz.prog w= .ok (.bool true) w:=fun w=>by rw [Zh7];simp
 clear hb0 h0
 generalize decide (1099511627776<max n d)=g at hgr ⊢
 go_enter Tryz.func264,Tryz.ntmps264
 go_wp2
 refine Zh Zl 17 [] (by kernel_rfl) (by kernel_rfl) ?_
 intro w1 hw1
 have c0:=fun p:ExtOf w1=>Za (j:=0) ((Xt hw1 p.h).at (Zb _ _)) rfl
 have c1:=fun p:ExtOf w1=>Za (j:=1) ((Xt hw1 p.h).at (Zb _ _)) rfl
 simp only [Zk,Rg.hsB,Nat.reduceAdd,↓reduceIte]
 repeat (go_big_quiet_step (first | (go_at_call 300;exact Ret.cls (hl _)) | (go_at_call 301;exact Ret.cls (hgr _))))
 refine wpQuiet_nil ?_
 refine Zj (by kernel_rfl) ?_
 intro w2 e2 e2'
 simp only [Rg.puB]
 go_wp2
 go_ret
 exact ⟨rfl,Xt e0 e2⟩
theorem Zjd (n d:Int) (h:n≠0\/d≠0):Xp n d=(n,d)↔1<=n/\1<=d/\Int.gcd n d=1:=by
 unfold Xp
 by_cases hs:n<1\/d<1
 ·rw [if_pos hs]
  constructor
  ·intro e
   simp only [Prod.mk.injEq] at e
   omega
  omega
 rw [if_neg hs]
 have hg0:0<Int.gcd n d:=Int.gcd_pos_of_ne_zero_left d (by omega)
 constructor
 ·intro e
  simp only [Prod.mk.injEq] at e
  refine ⟨by omega,by omega,?_⟩
  have h1:=e.1
  by_cases hg:(2:Int)<=Int.gcd n d
  ·have hq:n=n / (Int.gcd n d:Int)*Int.gcd n d:=by rw [Int.ediv_mul_cancel (Int.gcd_dvd_left ..)]
   rw [h1] at hq
   have:n*2<=n*Int.gcd n d:=Int.mul_le_mul_of_nonneg_left hg (by omega)
   omega
  omega
 rintro ⟨_,_,hg⟩
 simp [hg]
theorem Za4 (n d:Int) (w:World) (hn2:n<=9223372036854775807) (hd2:d<=9223372036854775807):Calls Tryz.prog 264 #[rat (n,d)] w (Ret (.bool (Xl n d)) w):=by
 by_cases h0:n≠0\/d≠0
 ·have hs:=Zjd n d h0
  by_cases hl:Xp n d=(n,d)
  ·have hm:Xl n d= !decide (1099511627776<max n d):=by
    obtain ⟨a,b,c⟩:=hs.1 hl
    unfold Xl
    rw [Bool.eq_iff_iff]
    simp only [decide_eq_true_eq,Bool.not_eq_true',decide_eq_false_iff_not]
    omega
   rw [hm]
   exact Zf7 n d w hn2 hd2 h0 hl
  have hm:Xl n d=false:=by
   unfold Xl
   rw [decide_eq_false_iff_not]
   exact fun ⟨a,b,c,_⟩=>hl (hs.2 ⟨a,b,c⟩)
  rw [hm]
  exact Zf8 n d w hn2 hd2 h0 hl
 have h1:n=0:=by omega
 have h2:d=0:=by omega
 subst h1 h2
 exact Zf9 w
def Zjm (n d:Int):Int×Int:=if Xl n d then (d,n) else (0,0)
theorem Zhb (n d:Int) (w:World) (hn2:n<=9223372036854775807) (hd2:d<=9223372036854775807):Calls Tryz.prog 299 #[rat (n,d)] w (Ret (rat (Zjm n d)) w):=by
 have e0:Ext w ((w.alloc (.cells #[.int .i64 n,.int .i64 d] 27)).alloc (.cells #[.int .i64 0,.int .i64 0] 27)):=Xt (Zc _ _) (Zc _ _)
 have h0:=Zb w (.cells #[.int .i64 n,.int .i64 d] 27)
 have h1:=Zb (w.alloc (.cells #[.int .i64 n,.int .i64 d] 27)) (.cells #[.int .i64 0,.int .i64 0] 27)
 have h0':=(Zc (w.alloc (.cells #[.int .i64 n,.int .i64 d] 27)) (.cells #[.int .i64 0,.int .i64 0] 27)).at h0
 rw [size_alloc] at h1
 have hm:=fun w=>Za4 n d w hn2 hd2
 simp only [rat] at hm ⊢
 generalize hW:(w.alloc (.cells #[.int .i64 n,.int .i64 d] 27)).alloc (.cells #[.int .i64 0,.int .i64 0] 27)=W at e0 h0' h1
 by_cases hb:Xl n d=true
 focus
  have hr:Zjm n d=(d,n):=by unfold Zjm;rw [if_pos hb]
  rw [hr]
  rw [hb] at hm
  clear hb hr
 rotate_left
 focus
  have hr:Zjm n d=(0,0):=by unfold Zjm;rw [if_neg hb]
  have hb':Xl n d=false:=by simpa using hb
  rw [hr]
  rw [hb'] at hm
  clear hb hr hb'
 all_goals
  have HW:=Lib.hid hW
  clear hW
  go_enter Tryz.func299,Tryz.ntmps299
  go_wp2_with fail
  rw [HW.out]
  refine (hm _).mono ?_
  rintro e w' ⟨rfl,he'⟩
  have c0:=Za (he'.at h0') (j:=0) rfl
  have c1:=Za (he'.at h0') (j:=1) rfl
  have d0:=Za (he'.at h1) (j:=0) rfl
  have d1:=Za (he'.at h1) (j:=1) rfl
  have f0:=frozen_of_row w' (w.heap.size+1) 0 _ _ (he'.at h1)
  have f1:=frozen_of_row w' (w.heap.size+1) 1 _ _ (he'.at h1)
  go_wp2
  exact Yp (w.heap.size+1) 27 _ _ _ rfl rfl (heap_setCell_same _ _ _ _ _ _ (heap_setCell_same _ _ _ _ _ _ (he'.at h1))) Tryz.underlying27 rfl (by kernel_rfl) rfl
   ⟨rfl,((Xt e0 he').setCell (p:=⟨w.heap.size+1,0,none⟩) (Nat.le_succ _) _).setCell (p:=⟨w.heap.size+1,1,none⟩) (Nat.le_succ _) _⟩
end Go.Proofs.YtipjchbdogmccaaGreat
