/- The walks of goes and fits. The walk of fills.least: the least of four bounds. The walk of May. -/
import Derived.Test.YtipjchbdogmccaaGreatWf
import Derived.Test.YtipjchbdogmccaaGreatTrade
set_option maxHeartbeats 1600000
set_option maxRecDepth 100000
namespace Go.Proofs.YtipjchbdogmccaaGreat
open Go.RowKit Go.Rg Go.BigFrame
def Zjq (L:Led) (o:Off) (to:Int):Int:=if to=o.owner then 1099511627776 else Zd0 (ofR L o.sell) o.owner to
def Ug (L:Led) (o:Off) (taker most:Int):Int:=min (min most (Zd0 (ofR L o.buy) taker o.owner)) 1099511627776
def Za9 (L:Led) (o:Off) (taker most:Int):Int:=Zba (Ug L o taker most) o.num o.den
theorem goes_any (p m:Nat) (L:Led) (b:Value) (o:Off) (taker to want most:Int) (w:World) (h:IsLed w p m L) (hwf:WF L) (hb:∃x,b= .pointer x):
 Calls Tryz.prog 229 #[Vv (.pointer (some ⟨p,0,none⟩)) b o taker to want most] w (Ret (.int .i64 (Zjq L o to)) w):=by
 obtain ⟨bx,rfl⟩:=hb
 obtain ⟨seq,own,sell,buy,left,num,den⟩:=o
 unfold Vv Uc Zjq
 simp only
 have e0:=Zc w (.cells #[.pointer (some ⟨p,0,none⟩),.pointer bx,.int .u64 seq,.int .u8 own,.int .u8 sell,.int .u8 buy,.int .i64 left,.int .i64 num,.int .i64 den,.int .u8 taker,.int .u8 to,.int .i64 want,.int .i64 most] 344)
 by_cases hto:to=own
 ·rw [if_pos hto]
  have hto':(to==own)=true:=by simpa using hto
  clear hto
  go_enter Tryz.func229,Tryz.ntmps229
  go_wp2
  go_ret
  exact ⟨rfl,e0⟩
 rw [if_neg hto]
 have hto':(to==own)=false:=by simpa using hto
 clear hto
 go_enter Tryz.func229,Tryz.ntmps229
 go_wp2_with fail
 refine (Zld p m L own to sell _ (h.ext e0) hwf).mono ?_
 rintro e w2 ⟨rfl,e2⟩
 go_wp2
 go_ret
 exact ⟨rfl,Xt e0 e2⟩
theorem tfits_any (p m:Nat) (L:Led) (b:Value) (o:Off) (taker to want most:Int) (w:World) (h:IsLed w p m L) (hwf:WF L) (hb:∃x,b= .pointer x) (hn:o.num<=9223372036854775807) (hd:o.den<=9223372036854775807):
 Calls Tryz.prog 230 #[Vv (.pointer (some ⟨p,0,none⟩)) b o taker to want most] w (Ret (.int .i64 (Za9 L o taker most)) w):=by
 obtain ⟨bx,rfl⟩:=hb
 obtain ⟨seq,own,sell,buy,left,num,den⟩:=o
 unfold Vv Uc Za9 Ug
 simp only at hn hd ⊢
 have e0:=Zc w (.cells #[.pointer (some ⟨p,0,none⟩),.pointer bx,.int .u64 seq,.int .u8 own,.int .u8 sell,.int .u8 buy,.int .i64 left,.int .i64 num,.int .i64 den,.int .u8 taker,.int .u8 to,.int .i64 want,.int .i64 most] 344)
 have h0:=Zb w (.cells #[.pointer (some ⟨p,0,none⟩),.pointer bx,.int .u64 seq,.int .u8 own,.int .u8 sell,.int .u8 buy,.int .i64 left,.int .i64 num,.int .i64 den,.int .u8 taker,.int .u8 to,.int .i64 want,.int .i64 most] 344)
 have hm:=fun wq hL=>Zld p m L taker own buy wq hL hwf
 generalize Zd0 (ofR L buy) taker own=mo at *
 have hfit:=fun wq=>fits_any (min (min most mo) 1099511627776) num den wq (by omega) hn hd
 have hfitg:∀g':Int,g'=min (min most mo) 1099511627776->∀wq,Calls Tryz.prog 263 #[.int .i64 g',rat (num,den)] wq (Ret (.int .i64 (Zba (min (min most mo) 1099511627776) num den)) wq):=by
  intro g' hg'
  rw [hg'];exact hfit
 clear hfit
 generalize Zba (min (min most mo) 1099511627776) num den=fv at *
 go_enter Tryz.func230,Tryz.ntmps230
 go_wp2
 refine Zh Zl 14 [] (by kernel_rfl) (by kernel_rfl) ?_
 intro w1 hw1
 have hh:∀u:ExtOf w1,u.to.heap[w.heap.size]? =_:=fun u=>(Xt hw1 u.h).at h0
 have d0:=fun u:ExtOf w1=>Za (j:=0) (hh u) rfl
 have d3:=fun u:ExtOf w1=>Za (j:=3) (hh u) rfl
 have d5:=fun u:ExtOf w1=>Za (j:=5) (hh u) rfl
 have d9:=fun u:ExtOf w1=>Za (j:=9) (hh u) rfl
 have d12:=fun u:ExtOf w1=>Za (j:=12) (hh u) rfl
 have hLq:∀u:ExtOf w1,IsLed u.to p m L:=fun u=>(h.ext e0).ext (Xt hw1 u.h)
 clear hh
 simp only [Zk,Rg.hsB,Nat.reduceAdd,↓reduceIte]
 repeat (go_big_quiet_step ((go_at_call 262;exact Ret.cls (hm _ (hLq _)))))
 refine wpQuiet_nil ?_
 refine Zj (by kernel_rfl) ?_
 intro w4 e4 e4'
 simp only [Rg.puB]
 have h4:=e4.at h0
 have g7:=Za (j:=7) h4 rfl
 have g8:=Za (j:=8) h4 rfl
 go_wp2_with fail
 all_goals
  refine (hfitg _ (by omega) w4).mono ?_
  rintro e w5 ⟨rfl,e5⟩
  go_wp2
  go_ret
  exact ⟨rfl,Xt e0 (Xt e4 e5)⟩
def Zdu (x0 x1 x2 x3:Int):Nat->Int
 | 0=>1099511627776
 | 1=>min 1099511627776 x0
 | 2=>min (min 1099511627776 x0) x1
 | 3=>min (min (min 1099511627776 x0) x1) x2
 | _=>min (min (min (min 1099511627776 x0) x1) x2) x3
def Zb6 (tv:Value):Array Value:=#[.func (.func 227) #[tv] #[],.func (.func 228) #[tv] #[],.func (.func 229) #[tv] #[],.func (.func 230) #[tv] #[]]
theorem Zro (g:Nat) (tv:Value) (x0 x1 x2 x3:Int) (w:World) (hrow:w.heap[g]? =some (.cells (Zb6 tv) 348 (0,0)))
 (h0:∀w',Ext w w'->Calls Tryz.prog 227 #[tv] w' (Ret (.int .i64 x0) w')) (h1:∀w',Ext w w'->Calls Tryz.prog 228 #[tv] w' (Ret (.int .i64 x1) w'))
 (h2:∀w',Ext w w'->Calls Tryz.prog 229 #[tv] w' (Ret (.int .i64 x2) w')) (h3:∀w',Ext w w'->Calls Tryz.prog 230 #[tv] w' (Ret (.int .i64 x3) w')):
 Calls Tryz.prog 226 #[.slice (some ⟨g,0,none⟩) 4 4] w (Ret (.int .i64 (max (Zdu x0 x1 x2 x3 4) 0)) w):=by
 unfold Zb6 at hrow
 go_enter Tryz.func226,Tryz.ntmps226
 go_wp2
 go_loopw [3,8] (fun v i wr=>∃k:Nat,k<=4/\i= .int .i64 k/\v= .int .i64 (Zdu x0 x1 x2 x3 k)/\Ext w wr) (fun _ i _=>4-(intOf i).toNat)
 case atStart=>exact ⟨0,by omega,rfl,rfl,Ext.refl _⟩
 obtain ⟨k,hk,rfl,rfl,er⟩:=hrel
 have hrr:=er.at hrow
 rcases (show k=0\/k=1\/k=2\/k=3\/k=4 by omega) with rfl | rfl | rfl | rfl | rfl
 ·have d0:=Za (j:=0) hrr rfl
  generalize ha:Zdu x0 x1 x2 x3 0=ac at *
  have hn:Zdu x0 x1 x2 x3 1=min ac x0:=by rw [<-ha];rfl
  have HN:=Lib.hid hn
  clear ha hn
  go_wp2_with fail
  refine (h0 _ er).mono ?_
  rintro e w5 ⟨rfl,e5⟩
  go_wp2
  exact ⟨⟨1,by omega,by first | rfl | go_num,by rw [HN.out],Xt er e5⟩,by simp [intOf]⟩
 ·have d0:=Za (j:=1) hrr rfl
  generalize ha:Zdu x0 x1 x2 x3 1=ac at *
  have hn:Zdu x0 x1 x2 x3 2=min ac x1:=by rw [<-ha];rfl
  have HN:=Lib.hid hn
  clear ha hn
  go_wp2_with fail
  refine (h1 _ er).mono ?_
  rintro e w5 ⟨rfl,e5⟩
  go_wp2
  exact ⟨⟨2,by omega,by first | rfl | go_num,by rw [HN.out],Xt er e5⟩,by simp [intOf]⟩
 ·have d0:=Za (j:=2) hrr rfl
  generalize ha:Zdu x0 x1 x2 x3 2=ac at *
  have hn:Zdu x0 x1 x2 x3 3=min ac x2:=by rw [<-ha];rfl
  have HN:=Lib.hid hn
  clear ha hn
  go_wp2_with fail
  refine (h2 _ er).mono ?_
  rintro e w5 ⟨rfl,e5⟩
  go_wp2
  exact ⟨⟨3,by omega,by first | rfl | go_num,by rw [HN.out],Xt er e5⟩,by simp [intOf]⟩
 ·have d0:=Za (j:=3) hrr rfl
  generalize ha:Zdu x0 x1 x2 x3 3=ac at *
  have hn:Zdu x0 x1 x2 x3 4=min ac x3:=by rw [<-ha];rfl
  have HN:=Lib.hid hn
  clear ha hn
  go_wp2_with fail
  refine (h3 _ er).mono ?_
  rintro e w5 ⟨rfl,e5⟩
  go_wp2
  exact ⟨⟨4,by omega,by first | rfl | go_num,by rw [HN.out],Xt er e5⟩,by simp [intOf]⟩
 generalize Zdu x0 x1 x2 x3 4=ac at *
 go_wp2
 go_ret
 exact ⟨rfl,er⟩
theorem may_gen (l b:Option Addr) (o:Off) (ok:Bool) (x0 x1 x2 x3:Int) (seq taker to want most:Int) (w:World)
 (ht:∀w',Ext w w'->Calls Tryz.prog 225 #[.agg #[.pointer l,.pointer b],.int .u64 seq,.int .u8 taker,.int .u8 to,.int .i64 want,.int .i64 most] w'
   (Ret (.tuple #[Vv (.pointer l) (.pointer b) o taker to want most,.bool ok]) w'))
 (h0:ok=true->∀w',Ext w w'->Calls Tryz.prog 227 #[Vv (.pointer l) (.pointer b) o taker to want most] w' (Ret (.int .i64 x0) w'))
 (h1:ok=true->∀w',Ext w w'->Calls Tryz.prog 228 #[Vv (.pointer l) (.pointer b) o taker to want most] w' (Ret (.int .i64 x1) w'))
 (h2:ok=true->∀w',Ext w w'->Calls Tryz.prog 229 #[Vv (.pointer l) (.pointer b) o taker to want most] w' (Ret (.int .i64 x2) w'))
 (h3:ok=true->∀w',Ext w w'->Calls Tryz.prog 230 #[Vv (.pointer l) (.pointer b) o taker to want most] w' (Ret (.int .i64 x3) w')):
 Calls Tryz.prog 178 #[.agg #[.pointer l,.pointer b],.int .u64 seq,.int .u8 taker,.int .u8 to,.int .i64 want,.int .i64 most] w
  (Ret (.int .i64 (if ok then max (Zdu x0 x1 x2 x3 4) 0 else 0)) w):=by
 have e0:=Zc w (.cells #[.pointer l,.pointer b] 103)
 have hh0:=Zb w (.cells #[.pointer l,.pointer b] 103)
 have ld29:=run_loadVar_row (P:=Tryz.prog) _ w.heap.size _ 103 _ _ _ hh0 Tryz.underlying103 rfl (by kernel_rfl)
 obtain ⟨tv,htv⟩:∃tv,tv=Vv (.pointer l) (.pointer b) o taker to want most:=⟨_,rfl⟩
 rw [<-htv] at ht h0 h1 h2 h3
 obtain ⟨r,hr⟩:∃r,r=(if ok then max (Zdu x0 x1 x2 x3 4) 0 else 0):=⟨_,rfl⟩
 rw [<-hr]
 have hrowt:=htv
 unfold Vv Uc at hrowt
 have HR:=Lib.hid hr
 clear hr
 go_enter Tryz.func178,Tryz.ntmps178
 go_wp2_with (refine Zd rfl 103 _ _ _ rfl rfl ld29 ?_)
 refine (ht _ e0).mono ?_
 rintro e w2 ⟨rfl,e2⟩
 have hz2:=Zb w2 (.cells #[.pointer none,.pointer none,.int .u64 0,.int .u8 0,.int .u8 0,.int .u8 0,.int .i64 0,.int .i64 0,.int .i64 0,.int .u8 0,.int .u8 0,.int .i64 0,.int .i64 0] 344)
 have ez2:=Zc w2 (.cells #[.pointer none,.pointer none,.int .u64 0,.int .u8 0,.int .u8 0,.int .u8 0,.int .i64 0,.int .i64 0,.int .i64 0,.int .u8 0,.int .u8 0,.int .i64 0,.int .i64 0] 344)
 have E2:=Xt e0 e2
 cases ok with
 | false=>
   clear h0 h1 h2 h3 htv
   subst hrowt
   go_wp2_with (refine Ze rfl rfl 344 _ _ rfl w2.heap.size _ rfl rfl 344 _ hz2 (by kernel_rfl) (by rfl) (by rfl) ?_;intro w3 hb3 ho3 hs3;have e3:Ext w2 w3:=hb3 _ _ (Nat.le_refl _) ez2)
   go_ret
   exact ⟨by rw [HR.out];rfl,Xt E2 e3⟩
 | true=>
   have g0:=h0 rfl
   have g1:=h1 rfl
   have g2:=h2 rfl
   have g3:=h3 rfl
   clear h0 h1 h2 h3 htv ht
   subst hrowt
   go_wp2_with (first
    | (refine Zd rfl 344 _ _ _ rfl rfl ld70 ?_)
    | (refine Ze rfl rfl 344 _ _ rfl w2.heap.size _ rfl rfl 344 _ hz2 (by kernel_rfl) (by rfl) (by rfl) ?_;intro w3 hb3 ho3 hs3;have e3:Ext w2 w3:=hb3 _ _ (Nat.le_refl _) ez2
       have ld70:=run_loadVar_row (P:=Tryz.prog) w3 w2.heap.size _ 344 _ _ _ hs3 Tryz.underlying344 rfl (by kernel_rfl)))
   have E3:=Xt E2 e3
   have hg:=Zb w3 (.cells (Zb6 (.agg #[.pointer l,.pointer b,.int .u64 o.seq,.int .u8 o.owner,.int .u8 o.sell,.int .u8 o.buy,.int .i64 o.left,.int .i64 o.num,.int .i64 o.den,.int .u8 taker,.int .u8 to,.int .i64 want,.int .i64 most])) 348)
   have eg:=Zc w3 (.cells (Zb6 (.agg #[.pointer l,.pointer b,.int .u64 o.seq,.int .u8 o.owner,.int .u8 o.sell,.int .u8 o.buy,.int .i64 o.left,.int .i64 o.num,.int .i64 o.den,.int .u8 taker,.int .u8 to,.int .i64 want,.int .i64 most])) 348)
   have E4:=Xt E3 eg
   refine (Zro w3.heap.size _ x0 x1 x2 x3 _ hg (fun w' k=>g0 w' (Xt E4 k)) (fun w' k=>g1 w' (Xt E4 k)) (fun w' k=>g2 w' (Xt E4 k)) (fun w' k=>g3 w' (Xt E4 k))).mono ?_
   rintro e w5 ⟨rfl,e5⟩
   go_wp2
   go_ret
   exact ⟨by rw [HR.out];rfl,Xt E4 e5⟩
end Go.Proofs.YtipjchbdogmccaaGreat
