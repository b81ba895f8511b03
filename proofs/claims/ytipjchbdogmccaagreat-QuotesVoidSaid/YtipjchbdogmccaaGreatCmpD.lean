/- Compare of rates, the draws counted: cmp.Compare, cmp.Or, rats.Compare, the order of the best offers. Rates once more, the draws counted: divisor, least, great, May. The best offers, plainly: sorted by rate, then by number. -/
import Derived.Test.YtipjchbdogmccaaGreatNum
import Derived.Test.YtipjchbdogmccaaGreatRgD
import Derived.Test.YtipjchbdogmccaaGreatBk
import Derived.Test.YtipjchbdogmccaaGreatSortW
import Derived.Test.YtipjchbdogmccaaGreatDiv
import Derived.Shelf.SlSortCmp.WholeK
set_option maxHeartbeats 1600000
set_option maxRecDepth 100000
namespace Go.Proofs.YtipjchbdogmccaaGreat.D
open Go.RowKit Go.RgD Go.BigFrame
theorem Zl:Y2 Tryz.prog:=⟨165,2,Tryz.f165,Tryz.func165,by kernel_rfl,by kernel_rfl⟩
def Ret (v:Value) (w:World) (e:Ending) (w':World):Prop:=e= .returned v/\Ext w w'
theorem Ret.cls {v:Value} {w1:World} {p:ExtOf w1} {f:FuncId} {args:Array Value} {P:Program} (h:Calls P f args p.to (Ret v p.to)):
 Calls P f args p.to fun e w''=>e= .returned v/\∃q:ExtOf w1,w''=q.to:=
 h.mono fun _ _ ⟨h1,h2⟩=>⟨h1,⟨_,Xt p.h h2⟩,rfl⟩
def DivJ (a b:Int) (w:World) (a':Act) (w':World):Prop:=
 ∃(m n:Int) (u5 u6 u7 u8 u9 u10 u11:Value),a'={ tmps:=#[.int .i64 m,.int .i64 n,undef,undef,.int .i64 0,u5,u6,u7,u8,u9,u10,u11],defers:=[] }/\
  0<=m/\0<=n/\m<=9223372036854775807/\n<=9223372036854775807/\Zhl m n (Int.gcd a b)/\Ext w w'
def divN (a':Act) (_:World):Nat:=(intOf (a'.tmps.getD 1 undef)).toNat
theorem Zc3 (m n:Int) (w:World) (hm:0<=m) (hn:0<=n) (hm2:m<=9223372036854775807) (hn2:n<=9223372036854775807):
 Calls Tryz.prog 319 #[.int .i64 m,.int .i64 n] w (Ret (.int .i64 (Int.gcd m n)) w):=by
 go_enter Tryz.func319,Tryz.ntmps319
 go_wp2
 refine wp_scope_jumps 0 (DivJ m n w) divN rfl ?_ ?_
 focus
  have HG:Zhl m n (Int.gcd m n):=rfl
  have hE:=Ext.refl w
  go_wp2
  go_step3
 rotate_left
 focus rintro a' w' ⟨m,n,u5,u6,u7,u8,u9,u10,u11,rfl,hm,hn,hm2,hn2,HG,hE⟩
 all_goals
  by_cases hz:n=0
  ·subst hz
   go_wp2
   simp only [Exit.jump]
   go_ret
   have HV:m=(Int.gcd m 0:Int):=by rw [Int.gcd_zero_right,Int.natAbs_of_nonneg hm]
   exact ⟨congrArg Ending.returned (congrArg (Value.int .i64) (HV.trans (congrArg Nat.cast HG.out))),hE⟩
  have hz':(n==0)=false:=by simpa using hz
  have hn0:0<n:=by omega
  have hg2:=Zo3 m n hm hn
  have hl:=Int.emod_lt_of_pos m hn0
  have hp:=Int.emod_nonneg m hz
  have HG2:=Lib.hid hg2
  clear hg2
  go_wp2
  refine Zh Zl 5 [] (by kernel_rfl) (by kernel_rfl) ?_
  intro w1 hw1
  simp only [Zk,Rg.hsB,Nat.reduceAdd,↓reduceIte]
  repeat (go_big_quiet_step (fail))
  refine wpQuiet_nil ?_
  refine Zj (by kernel_rfl) ?_
  intro w2 e2 e2'
  simp only [Rg.puB]
  go_wp2
  go_step3
  have hle:m%n<=9223372036854775807:=by omega
  have hG3:Zhl n (m%n) _:=HG2.out.trans HG.out
  first
   | exact ⟨rfl,_,_,_,_,_,_,_,_,_,rfl,hn,hp,hn2,hle,hG3,Xt hE e2⟩
   | (refine ⟨rfl,⟨_,_,_,_,_,_,_,_,_,rfl,hn,hp,hn2,hle,hG3,Xt hE e2⟩,?_⟩;simp [divN,intOf];omega)
theorem Zbo (n d:Int) (w:World) (hn2:n<=9223372036854775807) (hd2:d<=9223372036854775807):
 Calls Tryz.prog 300 #[.int .i64 n,.int .i64 d] w (Ret (rat (Xp n d)) w):=by
 have e0:Ext w (w.alloc (.cells #[.int .i64 0,.int .i64 0] 27)):=Zc _ _
 have h0:=Zb w (.cells #[.int .i64 0,.int .i64 0] 27)
 by_cases hn:n<1
 focus have hl:Xp n d=(0,0):=by unfold Xp;rw [if_pos (Or.inl hn)]
 rotate_left
 focus
  by_cases hd:d<1
  focus have hl:Xp n d=(0,0):=by unfold Xp;rw [if_pos (Or.inr hd)]
  rotate_left
  ·have hl:Xp n d=(n / Int.gcd n d,d / Int.gcd n d):=by unfold Xp;rw [if_neg (by omega)]
   rw [hl]
   have hg0:0<Int.gcd n d:=Int.gcd_pos_of_ne_zero_left d (by omega)
   have hgn:Int.gcd n d<=n:=Int.le_of_dvd (by omega) (Int.gcd_dvd_left ..)
   have hc:=Zc3 n d (w.alloc (.cells #[.int .i64 0,.int .i64 0] 27)) (by omega) (by omega) hn2 hd2
   generalize Int.gcd n d=g at hg0 hgn hc ⊢
   have hg1:(1:Int)<=g:=by omega
   have hn0:0<=n:=by omega
   have hd0:0<=d:=by omega
   go_enter Tryz.func300,Tryz.ntmps300
   go_wp2_with (go_at_call 319;refine hc.mono ?_;rintro e w' ⟨rfl,he'⟩)
   refine Zh Zl 7 [] (by kernel_rfl) (by kernel_rfl) ?_
   intro w1 hw1
   simp only [Zk,Rg.hsB,Nat.reduceAdd,↓reduceIte]
   repeat (go_big_quiet_step (fail))
   refine wpQuiet_nil ?_
   refine Zj (by kernel_rfl) ?_
   intro w2 e2 e2'
   simp only [Rg.puB]
   have h2:=e2.at (he'.at h0)
   refine Ze rfl rfl 27 _ _ rfl w.heap.size _ rfl rfl 27 _ h2 (by kernel_rfl) (by rfl) (by rfl) ?_
   intro w3 hb3 _ h3
   go_wp2
   exact Yp w.heap.size 27 _ _ _ rfl rfl h3 Tryz.underlying27 rfl (by kernel_rfl) rfl ⟨rfl,hb3 _ _ (Nat.le_refl _) (Xt e0 (Xt he' e2))⟩
 all_goals
  rw [hl]
  go_enter Tryz.func300,Tryz.ntmps300
  go_wp2
  exact Yp w.heap.size 27 _ _ _ rfl rfl h0 Tryz.underlying27 rfl (by kernel_rfl) rfl ⟨rfl,e0⟩
theorem Zgk (n d:Int) (w:World):
 Calls Tryz.prog 301 #[rat (n,d)] w (Ret (.bool (decide (1099511627776<max n d))) w):=by
 have e0:Ext w (w.alloc (.cells #[.int .i64 n,.int .i64 d] 27)):=Zc _ _
 simp only [rat]
 go_enter Tryz.func301,Tryz.ntmps301
 go_wp2
 go_ret
 exact ⟨rfl,e0⟩
theorem Zf9 (w:World):Calls Tryz.prog 264 #[rat (0,0)] w (Ret (.bool false) w):=by
 have e0:Ext w (w.alloc (.cells #[.int .i64 0,.int .i64 0] 27)):=Zc _ _
 simp only [rat]
 go_enter Tryz.func264,Tryz.ntmps264
 go_wp2
 refine Zh Zl 17 [] (by kernel_rfl) (by kernel_rfl) ?_
 intro w1 hw1
 have c0:=fun p:ExtOf w1=>Za (j:=0) ((Xt hw1 p.h).at (Zb _ _)) rfl
 have c1:=fun p:ExtOf w1=>Za (j:=1) ((Xt hw1 p.h).at (Zb _ _)) rfl
 simp only [Zk,Rg.hsB,Nat.reduceAdd,↓reduceIte]
 repeat (go_big_quiet_step (fail))
 refine wpQuiet_nil ?_
 refine Zj (by kernel_rfl) ?_
 intro w2 e2 e2'
 simp only [Rg.puB]
 go_wp2
 go_ret
 exact ⟨rfl,Xt e0 e2⟩
theorem Zf8 (n d:Int) (w:World) (hn2:n<=9223372036854775807) (hd2:d<=9223372036854775807) (h0:n≠0\/d≠0) (hne:Xp n d≠(n,d)):Calls Tryz.prog 264 #[rat (n,d)] w (Ret (.bool false) w):=by
 have e0:Ext w (w.alloc (.cells #[.int .i64 n,.int .i64 d] 27)):=Zc _ _
 have hl:=fun w=>Zbo n d w hn2 hd2
 generalize Xp n d=l at hl hne
 obtain ⟨ln,ld⟩:=l
 simp only [rat] at hl ⊢
 have hb0:(n==0&&d==0)=false:=by
  rcases h0 with h | h<;>simp [h]
 have hb1:(n==ln&&d==ld)=false:=by
  by_cases h1:n=ln
  ·by_cases h2:d=ld
   ·exact absurd (by rw [h1,h2]) hne
   simp [h2]
  simp [h1]
 have q0:∀w,(binOp .neq 27 (.agg #[.int .i64 n,.int .i64 d]) (.agg #[.int .i64 0,.int .i64 0])).run Tryz.prog w= .ok (.bool true) w:=fun w=>by rw [Zh1,hb0];rfl
 have q1:∀w,(binOp .eql 27 (.agg #[.int .i64 n,.int .i64 d]) (.agg #[.int .i64 ln,.int .i64 ld])).run Tryz.prog w= .ok (.bool false) w:=fun w=>by rw [Zh7,hb1]
 clear hb0 hb1 hne h0
 go_enter Tryz.func264,Tryz.ntmps264
 go_wp2
 refine Zh Zl 17 [] (by kernel_rfl) (by kernel_rfl) ?_
 intro w1 hw1
 have c0:=fun p:ExtOf w1=>Za (j:=0) ((Xt hw1 p.h).at (Zb _ _)) rfl
 have c1:=fun p:ExtOf w1=>Za (j:=1) ((Xt hw1 p.h).at (Zb _ _)) rfl
 simp only [Zk,Rg.hsB,Nat.reduceAdd,↓reduceIte]
 repeat (go_big_quiet_step ((go_at_call 300;exact Ret.cls (hl _))))
 refine wpQuiet_nil ?_
 refine Zj (by kernel_rfl) ?_
 intro w2 e2 e2'
 simp only [Rg.puB]
 go_wp2
 go_ret
 exact ⟨rfl,Xt e0 e2⟩
theorem Zf7 (n d:Int) (w:World) (hn2:n<=9223372036854775807) (hd2:d<=9223372036854775807) (h0:n≠0\/d≠0) (hne:Xp n d=(n,d)):Calls Tryz.prog 264 #[rat (n,d)] w (Ret (.bool (!decide (1099511627776<max n d))) w):=by
 have e0:Ext w (w.alloc (.cells #[.int .i64 n,.int .i64 d] 27)):=Zc _ _
 have hl:=fun w=>Zbo n d w hn2 hd2
 have hgr:=fun w=>Zgk n d w
 rw [hne] at hl
 clear hne
 simp only [rat] at hl hgr ⊢
 have hb0:(n==0&&d==0)=false:=by
  rcases h0 with h | h<;>simp [h]
 have q0:∀w,(binOp .neq 27 (.agg #[.int .i64 n,.int .i64 d]) (.agg #[.int .i64 0,.int .i64 0])).run Tryz.prog w= .ok (.bool true) w:=fun w=>by rw [Zh1,hb0];rfl
 have q1:∀w,(binOp .eql 27 (.agg #[.int .i64 n,.int .i64 d]) (.agg #[.int .i64 n,.int .i64 d])).run Tryz.prog w= .ok (.bool true) w:=fun w=>by rw [Zh7];simp
 clear hb0 h0
 generalize decide (1099511627776<max n d)=g at hgr ⊢
 go_enter Tryz.func264,Tryz.ntmps264
 go_wp2
 refine Zh Zl 17 [] (by kernel_rfl) (by kernel_rfl) ?_
 intro w1 hw1
 have c0:=fun p:ExtOf w1=>Za (j:=0) ((Xt hw1 p.h).at (Zb _ _)) rfl
 have c1:=fun p:ExtOf w1=>Za (j:=1) ((Xt hw1 p.h).at (Zb _ _)) rfl
 simp only [Zk,Rg.hsB,Nat.reduceAdd,↓reduceIte]
 repeat (go_big_quiet_step (first | (go_at_call 300;exact Ret.cls (hl _)) | (go_at_call 301;exact Ret.cls (hgr _))))
 refine wpQuiet_nil ?_
 refine Zj (by kernel_rfl) ?_
 intro w2 e2 e2'
 simp only [Rg.puB]
 go_wp2
 go_ret
 exact ⟨rfl,Xt e0 e2⟩
theorem Za4 (n d:Int) (w:World) (hn2:n<=9223372036854775807) (hd2:d<=9223372036854775807):Calls Tryz.prog 264 #[rat (n,d)] w (Ret (.bool (Xl n d)) w):=by
 by_cases h0:n≠0\/d≠0
 ·have hs:=Zjd n d h0
  by_cases hl:Xp n d=(n,d)
  ·have hm:Xl n d= !decide (1099511627776<max n d):=by
    obtain ⟨a,b,c⟩:=hs.1 hl
    unfold Xl
    rw [Bool.eq_iff_iff]
    simp only [decide_eq_true_eq,Bool.not_eq_true',decide_eq_false_iff_not]
    omega
   rw [hm]
   exact Zf7 n d w hn2 hd2 h0 hl
  have hm:Xl n d=false:=by
   unfold Xl
   rw [decide_eq_false_iff_not]
   exact fun ⟨a,b,c,_⟩=>hl (hs.2 ⟨a,b,c⟩)
  rw [hm]
  exact Zf8 n d w hn2 hd2 h0 hl
 have h1:n=0:=by omega
 have h2:d=0:=by omega
 subst h1 h2
 exact Zf9 w
end Go.Proofs.YtipjchbdogmccaaGreat.D
namespace Go.Proofs.YtipjchbdogmccaaGreat
def Zff (n d m e:Int):Int:=if Xl n d&&Xl m e then Vo (n*e) (m*d) else 0
def Zr2 (x y:Off):Int:=orI (Zff x.num x.den y.num y.den) (Vo x.seq y.seq)
def ltO (x y:Off):Bool:=decide (Zr2 x y<0)
def X0 (l:List Off) (sell buy:Int):List Off:=Jb ltO (l.filter fun o=>o.sell==sell&&o.buy==buy)
def X1 (o:Off):Prop:=Xl o.num o.den=true
theorem Zed {o:Off} (h:X1 o):0<o.num/\0<o.den:=by
 unfold X1 Xl at h
 rw [decide_eq_true_eq] at h
 omega
theorem Zoo {x y:Off} (hx:X1 x) (hy:X1 y):ltO x y=true↔x.num*y.den<y.num*x.den\/(x.num*y.den=y.num*x.den/\x.seq<y.seq):=by
 unfold ltO Zr2 Zff
 unfold X1 at hx hy
 rw [hx,hy,decide_eq_true_eq,Zhz]
 simp only [Bool.and_self,↓reduceIte]
 rw [Zas,Zdp,Zas]
theorem Jh {x y:Off} (hx:X1 x) (hy:X1 y):ltO x y=false↔y.num*x.den<=x.num*y.den/\(x.num*y.den=y.num*x.den->y.seq<=x.seq):=by
 rw [<-Bool.not_eq_true,Zoo hx hy]
 omega
theorem Zls (x y:Off) (hx:X1 x) (hy:X1 y) (h:ltO x y=true):ltO y x=false:=by
 rw [Zoo hx hy] at h
 rw [Jh hy hx]
 omega
theorem Zej (x y z:Off) (hx:X1 x) (hy:X1 y) (hz:X1 z) (h1:ltO x y=false) (h2:ltO y z=false):ltO x z=false:=by
 rw [Jh hx hy] at h1
 rw [Jh hy hz] at h2
 rw [Jh hx hz]
 obtain ⟨_,px⟩:=Zed hx
 obtain ⟨_,py⟩:=Zed hy
 obtain ⟨_,pz⟩:=Zed hz
 refine ⟨Zec px py pz h1.1 h2.1,fun e=> ?_⟩
 have a:=Zec (n1:=z.num) (n2:=x.num) (n3:=y.num) pz px py (by omega) h1.1
 have b:=Zec (n1:=y.num) (n2:=z.num) (n3:=x.num) py pz px h2.1 (by omega)
 have c1:=h1.2 (by omega)
 have c2:=h2.2 (by omega)
 omega
theorem Zqz (x:Off) (hx:X1 x):ltO x x=false:=by
 rw [Jh hx hx];omega
theorem ltO_trans (x y z:Off) (hx:X1 x) (hy:X1 y) (hz:X1 z) (h1:ltO x y=true) (h2:ltO y z=true):ltO x z=true:=by
 rw [<-Bool.not_eq_false]
 intro h
 have:=Zej _ _ _ hy hx hz (Zls _ _ hx hy h1) h
 rw [h2] at this
 cases this
theorem ltO_total {x y:Off} (hx:X1 x) (hy:X1 y) (h1:ltO x y=false) (h2:ltO y x=false):x.seq=y.seq:=by
 rw [Jh hx hy] at h1
 rw [Jh hy hx] at h2
 omega
theorem Zeo (l:List Off) (sell buy:Int):(X0 l sell buy).Perm (l.filter fun o=>o.sell==sell&&o.buy==buy):=X4 _ _
theorem Zlq {l:List Off} {sell buy:Int} {o:Off} (h:o∈X0 l sell buy):o∈l/\o.sell=sell/\o.buy=buy:=by
 have:=(Zeo l sell buy).subset h
 rw [List.mem_filter] at this
 simpa using this
end Go.Proofs.YtipjchbdogmccaaGreat
namespace Go.Proofs.YtipjchbdogmccaaGreat.D
open Go.RowKit Go.RgD Go.BigFrame
theorem Zha (x:Int) (w:World):Calls Tryz.prog 253 #[.int .u64 x] w (fun e w'=>e= .returned (.bool false)/\w'=w):=by
 go_enter Tryz.func253,Tryz.ntmps253
 go_wp2
 go_ret
 exact ⟨rfl,rfl⟩
theorem Zbb (x y:Int) (w:World):Calls Tryz.prog 261 #[.int .u64 x,.int .u64 y] w (fun e w'=>e= .returned (.int .i64 (Vo x y))/\w'=w):=by
 have hx:=Zha x
 have hy:=Zha y
 unfold Vo
 by_cases h1:x<y
 focus
  have h1':decide (x<y)=true:=by simpa using h1
  rw [if_pos h1]
 rotate_left
 focus
  have h1':decide (x<y)=false:=by simpa using h1
  rw [if_neg h1]
  by_cases h2:y<x
  focus
   have h2':decide (y<x)=true:=by simpa using h2
   rw [if_pos h2]
  rotate_left
  focus
   have h2':decide (y<x)=false:=by simpa using h2
   rw [if_neg h2]
 all_goals
  go_enter Tryz.func261,Tryz.ntmps261
  go_wp2_with fail
  refine (hx _).mono ?_
  rintro e w' ⟨rfl,rfl⟩
  go_wp2_with fail
  refine (hy _).mono ?_
  rintro e w' ⟨rfl,rfl⟩
  go_wp2
  go_ret
  exact ⟨rfl,rfl⟩
theorem Zh0 (a b:Int) (g cap:Nat) (w:World) (c0:w.cell? ⟨g,0,none⟩=some (.int .i64 a)) (c1:w.cell? ⟨g,1,none⟩=some (.int .i64 b)):
 Calls Tryz.prog 157 #[.slice (some ⟨g,0,none⟩) 2 cap] w (fun e w'=>e= .returned (.int .i64 (orI a b))/\w'=w):=by
 obtain ⟨r,hr⟩:∃r,r=orI a b:=⟨_,rfl⟩
 rw [<-hr]
 have HR:=Lib.hid hr
 clear hr
 go_enter Tryz.func157,Tryz.ntmps157
 go_wp2
 go_loopw [8] (fun i wr=>∃k:Nat,k<=2/\i= .int .i64 k/\wr=w/\(1<=k->a=0)/\(2<=k->b=0)) (fun i _=>2-(intOf i).toNat)
 case atStart=>exact ⟨0,by omega,rfl,rfl,by omega,by omega⟩
 obtain ⟨k,hk,rfl,rfl,ha,hb⟩:=hrel
 by_cases h2:k=2
 focus
  subst h2
  rw [show ((2:Nat):Int)=2 from rfl]
  have ha:=ha (by omega)
  have hb:=hb (by omega)
  subst ha hb
  have HO:=Lib.hid (show orI 0 0=0 by unfold orI;rw [if_pos rfl])
 rotate_left
 focus
  by_cases h1:k=1
  focus
   subst h1
   rw [show ((1:Nat):Int)=1 from rfl]
   have ha:=ha (by omega)
   subst ha
   by_cases q:b=0
   ·subst q
    go_wp2
    exact ⟨⟨2,by omega,by go_num,by first | exact ⟨rfl,by omega,by omega⟩ | simp⟩,by simp [intOf]⟩
   have q':(b==0)=false:=by simpa using q
   have HO:=Lib.hid (show orI 0 b=b by unfold orI;rw [if_pos rfl])
  rotate_left
  focus
   have h0:k=0:=by omega
   subst h0
   rw [show ((0:Nat):Int)=0 from rfl]
   by_cases q:a=0
   ·subst q
    go_wp2
    exact ⟨⟨1,by omega,by go_num,by first | exact ⟨rfl,by omega,by omega⟩ | simp⟩,by simp [intOf]⟩
   have q':(a==0)=false:=by simpa using q
   have HO:=Lib.hid (show orI a b=a by unfold orI;rw [if_neg q])
 all_goals
  go_wp2
  go_ret
  exact ⟨by first | (rw [HR.out,HO.out];rfl) | rw [HR.out,HO.out],rfl⟩
theorem Zdi (x y hi lo:Int) (w:World) (hx:0<=x) (hx2:x<W64) (hy:0<=y) (hy2:y<W64) (h:x*y=hi*W64+lo) (hl:0<=lo) (hl2:lo<W64):
 Calls Tryz.prog 296 #[.int .u64 x,.int .u64 y] w (Ret (.tuple #[.int .u64 hi,.int .u64 lo]) w):=by
 obtain ⟨m,rfl⟩:=Int.eq_ofNat_of_zero_le hx
 obtain ⟨n,rfl⟩:=Int.eq_ofNat_of_zero_le hy
 rw [Vd] at *
 refine (Tryz.bits_Mul64 m n (by omega) (by omega) w).mono ?_
 rintro e w' ⟨rfl,rfl⟩
 have e1:((m*n / 18446744073709551616:Nat):Int)=hi:=by
  rw [Int.natCast_ediv,Int.natCast_mul,h]
  omega
 have e2:((m*n%18446744073709551616:Nat):Int)=lo:=by
  rw [Int.natCast_emod,Int.natCast_mul,h]
  omega
 rw [e1,e2]
 exact ⟨rfl,Ext.refl _⟩
theorem cmp_two {a b c d:Int} (hb:0<=b) (hb2:b<W64) (hd:0<=d) (hd2:d<W64):orI (Vo a c) (Vo b d)=Vo (a*W64+b) (c*W64+d):=by
 rw [Vd] at *
 unfold orI Vo
 repeat' split
 all_goals omega
theorem Zew (n d m q:Int) (w:World) (b1:n<=9223372036854775807) (b2:d<=9223372036854775807) (b3:m<=9223372036854775807) (b4:q<=9223372036854775807):
 Calls Tryz.prog 260 #[rat (n,d),rat (m,q)] w (Ret (.int .i64 (Zff n d m q)) w):=by
 have e0:=Zc w (.cells #[.int .i64 n,.int .i64 d] 27)
 have h0:=Zb w (.cells #[.int .i64 n,.int .i64 d] 27)
 have s0:=size_alloc w (.cells #[.int .i64 n,.int .i64 d] 27)
 have e1:=Zc (w.alloc (.cells #[.int .i64 n,.int .i64 d] 27)) (.cells #[.int .i64 m,.int .i64 q] 27)
 have h1:=Zb (w.alloc (.cells #[.int .i64 n,.int .i64 d] 27)) (.cells #[.int .i64 m,.int .i64 q] 27)
 have h0:=e1.at h0
 rw [s0] at h1
 have E1:=Xt e0 e1
 have m1:=fun w=>Za4 n d w b1 b2
 have m2:=fun w=>Za4 m q w b3 b4
 simp only [rat] at m1 m2 ⊢
 have a0:=Za (j:=0) h0 rfl
 have a1:=Za (j:=1) h0 rfl
 have c0:=Za (j:=0) h1 rfl
 have c1:=Za (j:=1) h1 rfl
 clear e0 e1 s0
 cases q1:Xl n d with
 | false=>
   have hr:Zff n d m q=0:=by unfold Zff;rw [q1];rfl
   rw [hr]
   rw [q1] at m1
   go_enter Tryz.func260,Tryz.ntmps260
   go_wp2_with fail
   refine (m1 _).mono ?_
   rintro e w1 ⟨rfl,k1⟩
   go_wp2_with fail
   go_ret
   exact ⟨rfl,Xt E1 k1⟩
 | true=>
   rw [q1] at m1
   cases q2:Xl m q with
   | false=>
     have hr:Zff n d m q=0:=by unfold Zff;rw [q1,q2];rfl
     rw [hr]
     rw [q2] at m2
     go_enter Tryz.func260,Tryz.ntmps260
     go_wp2_with fail
     refine (m1 _).mono ?_
     rintro e w1 ⟨rfl,k1⟩
     have c0:=Za (j:=0) (k1.at h1) rfl
     have c1:=Za (j:=1) (k1.at h1) rfl
     go_wp2_with fail
     refine (m2 _).mono ?_
     rintro e w2 ⟨rfl,k2⟩
     go_wp2_with fail
     go_ret
     exact ⟨rfl,Xt E1 (Xt k1 k2)⟩
   | true=>
     rw [q2] at m2
     have hr:Zff n d m q=Vo (n*q) (m*d):=by unfold Zff;rw [q1,q2];rfl
     rw [hr]
     unfold Xl at q1 q2
     rw [decide_eq_true_eq] at q1 q2
     have p1:n*q=n*q / W64*W64+n*q%W64:=by rw [Int.mul_comm (n*q / W64)];exact (Int.mul_ediv_add_emod _ _).symm
     have p2:m*d=m*d / W64*W64+m*d%W64:=by rw [Int.mul_comm (m*d / W64)];exact (Int.mul_ediv_add_emod _ _).symm
     have l1:0<=n*q%W64:=Int.emod_nonneg _ (by rw [Vd];decide)
     have l2:n*q%W64<W64:=Int.emod_lt_of_pos _ (by rw [Vd];decide)
     have l3:0<=m*d%W64:=Int.emod_nonneg _ (by rw [Vd];decide)
     have l4:m*d%W64<W64:=Int.emod_lt_of_pos _ (by rw [Vd];decide)
     have u1:=fun w=>Zdi n q _ _ w (by omega) (by rw [Vd];omega) (by omega) (by rw [Vd];omega) p1 l1 l2
     have u2:=fun w=>Zdi m d _ _ w (by omega) (by rw [Vd];omega) (by omega) (by rw [Vd];omega) p2 l3 l4
     have ht:=cmp_two (a:=n*q / W64) (c:=m*d / W64) l1 l2 l3 l4
     rw [<-p1,<-p2] at ht
     rw [<-ht]
     clear ht p1 p2 l1 l2 l3 l4 hr
     generalize n*q / W64=A at *
     generalize n*q%W64=B at *
     generalize m*d / W64=C at *
     generalize m*d%W64=D at *
     have hc1:=Zbb A C
     have hc2:=Zbb B D
     generalize Vo A C=x at *
     generalize Vo B D=y at *
     go_enter Tryz.func260,Tryz.ntmps260
     go_wp2_with fail
     refine (m1 _).mono ?_
     rintro e w1 ⟨rfl,k1⟩
     have h0:=k1.at h0
     have h1:=k1.at h1
     clear a0 a1 c0 c1
     have c0:=Za (j:=0) h1 rfl
     have c1:=Za (j:=1) h1 rfl
     go_wp2_with fail
     refine (m2 _).mono ?_
     rintro e w2 ⟨rfl,k2⟩
     have h0:=k2.at h0
     have h1:=k2.at h1
     clear c0 c1
     have a0:=Za (j:=0) h0 rfl
     have a1:=Za (j:=1) h0 rfl
     have c0:=Za (j:=0) h1 rfl
     have c1:=Za (j:=1) h1 rfl
     go_wp2_with fail
     refine (u1 _).mono ?_
     rintro e w3 ⟨rfl,k3⟩
     have h0:=k3.at h0
     have h1:=k3.at h1
     clear a0 a1 c0 c1
     have a0:=Za (j:=0) h0 rfl
     have a1:=Za (j:=1) h0 rfl
     have c0:=Za (j:=0) h1 rfl
     have c1:=Za (j:=1) h1 rfl
     go_wp2_with fail
     refine (u2 _).mono ?_
     rintro e w4 ⟨rfl,k4⟩
     clear a0 a1 c0 c1
     have E4:=Xt E1 (Xt k1 (Xt k2 (Xt k3 k4)))
     go_wp2_with fail
     refine (hc1 _).mono ?_
     rintro e w5 ⟨rfl,rfl⟩
     go_wp2_with fail
     refine (hc2 _).mono ?_
     rintro e w6 ⟨rfl,rfl⟩
     go_wp2_with fail
     refine (Zh0 x y _ _ _ (Za (j:=0) (Zb _ _) rfl) (Za (j:=1) (Zb _ _) rfl)).mono ?_
     rintro e w7 ⟨rfl,rfl⟩
     go_wp2
     go_ret
     exact ⟨rfl,Xt E4 (Zc _ _)⟩
theorem Zc9 (o x:Off) (w:World) (b1:o.num<=9223372036854775807) (b2:o.den<=9223372036854775807) (b3:x.num<=9223372036854775807) (b4:x.den<=9223372036854775807):
 Calls Tryz.prog 224 #[o.agg,x.agg] w (Ret (.int .i64 (Zr2 o x)) w):=by
 have hr:=fun w=>Zew o.num o.den x.num x.den w b1 b2 b3 b4
 have hq:∀w,Calls Tryz.prog 261 #[.int .u64 o.seq,.int .u64 x.seq] w (Ret (.int .i64 (Vo o.seq x.seq)) w):=fun w=>(Zbb o.seq x.seq w).mono (by rintro e w' ⟨rfl,rfl⟩;exact ⟨rfl,Ext.refl _⟩)
 unfold Zr2
 obtain ⟨o0,o1,o2,o3,o4,o5,o6⟩:=o
 obtain ⟨x0,x1,x2,x3,x4,x5,x6⟩:=x
 simp only [rat,Off.agg] at *
 generalize Zff o5 o6 x5 x6=rv at *
 generalize Vo o0 x0=sv at *
 have e0:=Zc w (.cells #[.int .u64 o0,.int .u8 o1,.int .u8 o2,.int .u8 o3,.int .i64 o4,.int .i64 o5,.int .i64 o6] 339)
 have h0:=Zb w (.cells #[.int .u64 o0,.int .u8 o1,.int .u8 o2,.int .u8 o3,.int .i64 o4,.int .i64 o5,.int .i64 o6] 339)
 have s0:=size_alloc w (.cells #[.int .u64 o0,.int .u8 o1,.int .u8 o2,.int .u8 o3,.int .i64 o4,.int .i64 o5,.int .i64 o6] 339)
 generalize hW:w.alloc (.cells #[.int .u64 o0,.int .u8 o1,.int .u8 o2,.int .u8 o3,.int .i64 o4,.int .i64 o5,.int .i64 o6] 339)=W at *
 have e1:=Zc W (.cells #[.int .u64 x0,.int .u8 x1,.int .u8 x2,.int .u8 x3,.int .i64 x4,.int .i64 x5,.int .i64 x6] 339)
 have h1:=Zb W (.cells #[.int .u64 x0,.int .u8 x1,.int .u8 x2,.int .u8 x3,.int .i64 x4,.int .i64 x5,.int .i64 x6] 339)
 have h0:=e1.at h0
 rw [s0] at h1
 have E1:=Xt e0 e1
 have HW:=Lib.hid hW
 clear hW
 go_enter Tryz.func224,Tryz.ntmps224
 go_wp2
 rw [HW.out]
 refine Zh Zl 10 [] (by kernel_rfl) (by kernel_rfl) ?_
 intro w1 hw1
 have q0:∀u:ExtOf w1,u.to.heap[w.heap.size]? =_:=fun u=>(Xt hw1 u.h).at h0
 have q1:∀u:ExtOf w1,u.to.heap[w.heap.size+1]? =_:=fun u=>(Xt hw1 u.h).at h1
 have d0:=fun u:ExtOf w1=>Za (j:=0) (q0 u) rfl
 have d5:=fun u:ExtOf w1=>Za (j:=5) (q0 u) rfl
 have d6:=fun u:ExtOf w1=>Za (j:=6) (q0 u) rfl
 have f0:=fun u:ExtOf w1=>Za (j:=0) (q1 u) rfl
 have f5:=fun u:ExtOf w1=>Za (j:=5) (q1 u) rfl
 have f6:=fun u:ExtOf w1=>Za (j:=6) (q1 u) rfl
 clear q0 q1
 simp only [Zk,Rg.hsB,Nat.reduceAdd,↓reduceIte]
 repeat (go_big_quiet_step (first | (go_at_call 260;exact Ret.cls (hr _)) | (go_at_call 261;exact Ret.cls (hq _))))
 refine wpQuiet_nil ?_
 refine Zj (by kernel_rfl) ?_
 intro w2 e2 e2'
 simp only [Rg.puB]
 clear d0 d5 d6 f0 f5 f6
 go_wp2_with fail
 refine (Zh0 rv sv _ _ _ (Za (j:=0) (Zb _ _) rfl) (Za (j:=1) (Zb _ _) rfl)).mono ?_
 rintro e w7 ⟨rfl,rfl⟩
 go_wp2
 go_ret
 exact ⟨rfl,Xt E1 (Xt e2 (Zc _ _))⟩
open Go.Shelf in
theorem cmpLays (l:List Off) [Inhabited {o:Off // o∈l}] (hb:∀o∈l,o.num<=9223372036854775807/\o.den<=9223372036854775807) (blk size:Nat) (w:World):
 CmpLays Tryz.prog 224 #[] (fun x:{o // o∈l}=>x.1.cells) 7 (fun x y=>Zr2 x.1 y.1) blk 0 size w:=
 fun _ _ _ _ x y=>(Zc9 x.1 y.1 _ (hb _ x.2).1 (hb _ x.2).2 (hb _ y.2).1 (hb _ y.2).2).mono fun _ _ ⟨h1,h2⟩=>⟨h1,h2.grows⟩
end Go.Proofs.YtipjchbdogmccaaGreat.D
