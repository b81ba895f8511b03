/- Quotes: how much is to be had for so much, by halving, of whatever machine; walked. Quotes: what so much costs, and how much is to be had for so much; walked. Quotes of swaps, plain: what a swap costs is the least by which it goes; what is to be had for so much is the most. -/
import Derived.Test.YtipjchbdogmccaaGreatBatch
import Derived.Test.YtipjchbdogmccaaGreatMv
import Derived.Test.YtipjchbdogmccaaGreatQlP
set_option maxHeartbeats 6400000
set_option maxRecDepth 100000
namespace Go.Proofs.YtipjchbdogmccaaGreat
open Go.RowKit Go.Rg Go.BigFrame
def swS (fr to get give n mx:Int):Stp:=⟨4,fr,to,get,give,n,mx,0,0,0⟩
def Yh (L:Led) (B:Bk) (fr to get give n:Int):Int×Int:=
 if (Z4 L B fr to get give n 1099511627776).1≠0 then (0,(Z4 L B fr to get give n 1099511627776).1) else (Y1 (Z4 L B fr to get give n 1099511627776).2.2.2,0)
theorem step_sw (fr to get give n mx:Int) (L:Led) (B:Bk):Xd (swS fr to get give n mx) L B=
 ((Y1 (Z4 L B fr to get give n mx).2.2.2,((Z4 L B fr to get give n mx).2.2.2.length:Int)),(Z4 L B fr to get give n mx).1,(Z4 L B fr to get give n mx).2.1,(Z4 L B fr to get give n mx).2.2.1):=by
 have h1:¬(swS fr to get give n mx).kd=1:=fun h=>absurd (show (4:Int)=1 from h) (by decide)
 have h2:¬(swS fr to get give n mx).kd=2:=fun h=>absurd (show (4:Int)=2 from h) (by decide)
 have h3:¬(swS fr to get give n mx).kd=3:=fun h=>absurd (show (4:Int)=3 from h) (by decide)
 unfold Xd
 rw [if_neg h1,if_neg h2,if_neg h3,if_pos (show (swS fr to get give n mx).kd=4 from rfl)]
 rfl
def swG (L:Led) (B:Bk) (fr to get give n mx:Int):List Gt:=
 if (Z4 L B fr to get give n mx).1≠0 then [] else [(Y1 (Z4 L B fr to get give n mx).2.2.2,((Z4 L B fr to get give n mx).2.2.2.length:Int))]
theorem Zc8 (fr to get give n mx:Int) (L:Led) (B:Bk):(Z6 [swS fr to get give n mx] L B).1=((Z4 L B fr to get give n mx).1,0,swG L B fr to get give n mx):=by
 rw [apply_one,step_sw]
 unfold swG
 simp only
 by_cases h:(Z4 L B fr to get give n mx).1=0
 ·rw [if_neg (by simpa using h),if_neg (by simpa using h),h]
 rw [if_pos h,if_pos h]
theorem U1 (q p m pb:Nat) (g:Option Nat) (L:Led) (B:Bk) (fr to get give n:Int) (w:World) (h:IsM w q p m pb g L B) (hn:n<=9223372036854775807):
 Calls Tryz.prog 45 #[.pointer (some ⟨q,0,none⟩),.int .u8 fr,.int .u8 to,.int .u8 get,.int .u8 give,.int .i64 n] w (Ret (.tuple #[.int .i64 (Yh L B fr to get give n).1,.int .i64 (Yh L B fr to get give n).2]) w):=by
 have hin:∀s∈[swS fr to get give n 1099511627776],Zfl s:=fun s hs=>by
  rw [List.mem_singleton.1 hs]
  exact Jw _ ⟨hn,show (1099511627776:Int)<=_ by decide,show (0:Int)<=_ by decide,show (0:Int)<=_ by decide⟩
 have HIN:=Lib.hid hin
 clear hin
 have hap:=Zc8 fr to get give n 1099511627776 L B
 have hdr:Yh L B fr to get give n=if (Z4 L B fr to get give n 1099511627776).1≠0 then (0,(Z4 L B fr to get give n 1099511627776).1) else (Y1 (Z4 L B fr to get give n 1099511627776).2.2.2,0):=rfl
 have hsg:swG L B fr to get give n 1099511627776=if (Z4 L B fr to get give n 1099511627776).1≠0 then [] else [(Y1 (Z4 L B fr to get give n 1099511627776).2.2.2,((Z4 L B fr to get give n 1099511627776).2.2.2.length:Int))]:=rfl
 generalize Yh L B fr to get give n=dr at *
 generalize swG L B fr to get give n 1099511627776=sg at *
 generalize (Z4 L B fr to get give n 1099511627776)=sw at *
 have HA:=Lib.hid hap
 have HD:=Lib.hid hdr
 have HG:=Lib.hid hsg
 clear hap hdr hsg
 go_enter Tryz.func45,Tryz.ntmps45
 go_wp2_with fail
 refine (Zf6 q p m pb g L B w h).mono ?_
 rintro e w1 ⟨q1,p1,m1,pb1,g1,rfl,e1,hM1,hq1⟩
 go_wp2_with (refine Jp (len:=1) rfl (by kernel_rfl) (.cells (X3 [swS fr to get give n 1099511627776]).toArray 30) (.slice (some ⟨w1.heap.size,0,none⟩) 1 1) _ rfl (by kernel_rfl) ?_
              intro w2 e2 h2)
 refine (Zbs q1 p1 m1 pb1 g1 L B [swS fr to get give n 1099511627776] _ w2 (hM1.ext e2) (Zch (base:=0) h2 rfl (show 1<=maxLen by decide) (Nat.zero_le _)).arg (fun s hs=>HIN.out s hs)).mono ?_
 rintro e w3 ⟨v3,p3,m3,pb3,g3,rfl,f3,sg3,hM3⟩
 rw [HA.out] at sg3 ⊢
 simp only at sg3 ⊢
 have E3:Ext w w3:=FrA.ext0 (Xt e1 e2) f3 (fun x (hx:x=q1)=>by omega)
 obtain ⟨A3,c3,rfl,b1,b2,b3,b4⟩:=sg3
 have hz:=Zb w3 (.cells #[.int .i64 0,.int .i64 0,.slice none 0 0] 38)
 clear hM1 h2 hM3 f3 HIN HA h
 by_cases hs:sw.1=0
 ·have hg:=HG.out
  have hd:=HD.out
  rw [if_neg (by simpa using hs)] at hg hd
  subst hg
  rcases b4 with b4 | ⟨ga,rfl,hga,hgl,hgc⟩
  ·simp at b4
  have hg0:=hgc 0 _ rfl
  generalize Y1 sw.2.2.2=gv at *
  rw [hs]
  rw [show [(gv,((sw.2.2.2).length:Int))].length=1 from rfl]
  clear hgc HG HD b3
  go_wp2_with (first
   | (refine Ze rfl rfl 38 _ _ rfl w3.heap.size _ rfl rfl 38 _ hz (by kernel_rfl) (by rfl) (by rfl) ?_
      intro w5 hb5 ho5 hs5
      have e5:Ext w3 w5:=hb5 _ _ (Nat.le_refl _) (Zc _ _)
      have x0:=Za (j:=0) hs5 rfl
      have x2:=Za (j:=2) hs5 rfl
      have xg:=(Zf (a:=⟨ga,0,none⟩) (e5.block hgl)).trans hg0))
  go_ret2
  exact ⟨rfl,Xt E3 e5⟩
 have hg:=HG.out
 have hd:=HD.out
 rw [if_pos hs] at hg hd
 subst hg
 have hs2:(sw.1 !=0)=true:=by simpa [bne] using hs
 clear HG HD b3 b4
 go_wp2_with (first
  | (refine Ze rfl rfl 38 _ _ rfl w3.heap.size _ rfl rfl 38 _ hz (by kernel_rfl) (by rfl) (by rfl) ?_
     intro w5 hb5 ho5 hs5
     have e5:Ext w3 w5:=hb5 _ _ (Nat.le_refl _) (Zc _ _)
     have x0:=Za (j:=0) hs5 rfl
     have x2:=Za (j:=2) hs5 rfl))
 clear x0 x2 hb5 ho5
 refine Z9 Zl [] (by kernel_rfl) (by kernel_rfl) ?_
 intro w1 hw1
 have x0:=fun u:ExtOf w1=>Za (j:=0) ((Xt hw1 u.h).at hs5) rfl
 simp only [Zk,Rg.hsB,Nat.reduceAdd,↓reduceIte]
 repeat (go_big_quiet_step (fail))
 refine wpQuiet_nil ?_
 clear x0
 refine Xc (by kernel_rfl) ?_
 intro w6 e6 e6'
 try simp only [Act.put,Rg.puC,Rg.puB]
 go_wp2_with fail
 go_ret2
 rw [hd]
 exact ⟨rfl,Xt E3 (Xt e5 e6)⟩
def Ux (cost:Int->Int×Int) (most:Int):Nat->Int->Int->Int->Int×Int
 | 0,low,_,given=>(low,given)
 | f+1,low,high,given=>
   if low<high then
    (if (cost (low+(high-low+1) / 2)).2=0/\(cost (low+(high-low+1) / 2)).1<=most then Ux cost most f (low+(high-low+1) / 2) high (cost (low+(high-low+1) / 2)).1
    else Ux cost most f low (low+(high-low+1) / 2-1) given)
   else (low,given)
def Uw (L:Led) (B:Bk) (fr to get give most:Int):Int×Int:=Ux (Yh L B fr to get give) most 64 0 1099511627776 0
structure SwOk (L:Led) (B:Bk):Prop where
 wf:WF L
 ok:OkB B
 sn:Jm B
theorem Zar (L:Led) (B:Bk) (fr to get give n:Int):(Yh L B fr to get give n).2=(Z4 L B fr to get give n 1099511627776).1:=by
 unfold Yh
 by_cases h:(Z4 L B fr to get give n 1099511627776).1=0
 ·rw [if_neg (by simpa using h)];exact h.symm
 rw [if_pos h]
theorem Zdo {L:Led} {B:Bk} {fr to get give n:Int} (h:(Yh L B fr to get give n).2=0):(Yh L B fr to get give n).1=Y1 (Z4 L B fr to get give n 1099511627776).2.2.2:=by
 rw [Zar] at h
 unfold Yh
 rw [if_neg (by simpa using h)]
theorem dear_zero {L:Led} {B:Bk} {fr to get give n:Int} (h:(Yh L B fr to get give n).2≠0):(Yh L B fr to get give n).1=0:=by
 rw [Zar] at h
 unfold Yh
 rw [if_pos h]
theorem Zfd {L:Led} {B:Bk} (hs:SwOk L B) {fr to get give n:Int} (h:(Yh L B fr to get give n).2=0):
 1<=n/\n<=1099511627776/\1<=(Yh L B fr to get give n).1/\(Yh L B fr to get give n).1<=1099511627776:=by
 rw [Zdo h]
 rw [Zar] at h
 obtain ⟨k1,_,k3,k4,k5,k6,k7,_⟩:=Zil hs.wf hs.ok hs.sn h
 simp only [Bool.and_eq_true,Yn,decide_eq_true_eq] at k7
 refine ⟨k6,by omega,?_,k4⟩
 obtain ⟨g1,g2⟩:=Zj2 k1
 rw [Zl2 g1 (by omega)]
 generalize (Z4 L B fr to get give n 1099511627776).2.2.2=l at *
 cases l with
 | nil=>simp [gotS,X2] at k3;omega
 | cons f l=>
   obtain ⟨o,L1,B1,hst,hch⟩:=k1
   have h3:=Zgq hch
   have h4:=hst.fill.fair.h1
   unfold gvS at h3 ⊢
   rw [List.map_cons,X2]
   omega
theorem Zmb {L:Led} {B:Bk} (hs:SwOk L B) {fr to get give n:Int} (h1:2<=n) (h:(Yh L B fr to get give n).2=0):
 (Yh L B fr to get give (n-1)).2=0/\(Yh L B fr to get give (n-1)).1<=(Yh L B fr to get give n).1:=by
 have h0:=h
 rw [Zar] at h0
 obtain ⟨d1,d2⟩:=swap_less hs.wf hs.ok hs.sn h1 h0
 have d3:(Yh L B fr to get give (n-1)).2=0:=by rw [Zar];exact d1
 exact ⟨d3,by rw [Zdo d3,Zdo h];exact d2⟩
theorem Zpn {L:Led} {B:Bk} (hs:SwOk L B) {fr to get give:Int}:∀(d:Nat) {n:Int},(d:Int)+1<=n->(Yh L B fr to get give n).2=0->
 (Yh L B fr to get give (n-d)).2=0/\(Yh L B fr to get give (n-d)).1<=(Yh L B fr to get give n).1
 | 0,n,_,h=>by simp [h]
 | d+1,n,hd,h=>by
   obtain ⟨h1,h2⟩:=Zpn hs d (n:=n) (by omega) h
   obtain ⟨h3,h4⟩:=Zmb hs (n:=n-d) (by omega) h1
   rw [show n-((d+1:Nat):Int)=n-d-1 by omega]
   exact ⟨h3,by omega⟩
theorem dear_mono {L:Led} {B:Bk} (hs:SwOk L B) {fr to get give k n:Int} (h1:1<=k) (h2:k<=n) (h:(Yh L B fr to get give n).2=0):
 (Yh L B fr to get give k).2=0/\(Yh L B fr to get give k).1<=(Yh L B fr to get give n).1:=by
 have:=Zpn hs (n-k).toNat (n:=n) (by omega) h
 rwa [show n-((n-k).toNat:Int)=k by omega] at this
theorem Zmn {L:Led} {B:Bk} {fr to get give n mx:Int} (h:(Yh L B fr to get give n).2=0) (h1:1<=mx) (h2:mx<=1099511627776):
 ((Yh L B fr to get give n).1<=mx->(Z4 L B fr to get give n mx).1=0/\Y1 (Z4 L B fr to get give n mx).2.2.2=(Yh L B fr to get give n).1)/\
 (mx<(Yh L B fr to get give n).1->(Z4 L B fr to get give n mx).1=12):=by
 have hc:=Zdo h
 have h0:=h
 rw [Zar] at h0
 rw [hc]
 clear hc h
 unfold Z4 at h0 ⊢
 by_cases c1:(Ys fr&&Ys to&&Xy get&&Xy give&& !(get==give)&&Yn n&&Yn 1099511627776)=false
 ·rw [if_pos c1] at h0;simp at h0
 have c1t:(Ys fr&&Ys to&&Xy get&&Xy give&& !(get==give)&&Yn n&&Yn 1099511627776)=true:=by rwa [Bool.not_eq_false] at c1
 have c1':¬(Ys fr&&Ys to&&Xy get&&Xy give&& !(get==give)&&Yn n&&Yn mx)=false:=by
  rw [Bool.not_eq_false]
  simp only [Bool.and_eq_true,Yn,decide_eq_true_eq] at c1t ⊢
  exact ⟨c1t.1,h1,h2⟩
 rw [if_neg c1] at h0 ⊢
 rw [if_neg c1']
 by_cases c2:(Yr L fr&&Yr L to)=false
 ·rw [if_pos c2] at h0;simp at h0
 rw [if_neg c2] at h0 ⊢
 rw [if_neg c2]
 by_cases c3:(Yd fr to get give 65 L B n []).1≠0
 ·rw [if_pos c3] at h0;exact absurd h0 c3
 rw [if_neg c3] at h0 ⊢
 rw [if_neg c3]
 by_cases c4:1099511627776<Y1 (Yd fr to get give 65 L B n []).2.2.2.2
 ·rw [if_pos c4] at h0;simp at h0
 rw [if_neg c4]
 constructor
 ·intro hle
  simp only at hle ⊢
  rw [if_neg (by omega)]
  exact ⟨rfl,rfl⟩
 intro hlt
 simp only at hlt
 rw [if_pos hlt]
def HadF (L:Led) (B:Bk) (fr to get give most n:Int):Prop:=(Yh L B fr to get give n).2=0/\(Yh L B fr to get give n).1<=most
theorem had_low {L:Led} {B:Bk} (hs:SwOk L B) {fr to get give most k n:Int} (h1:1<=k) (h2:k<=n) (h:HadF L B fr to get give most n):HadF L B fr to get give most k:=by
 obtain ⟨d1,d2⟩:=dear_mono hs h1 h2 h.1
 have:=h.2
 exact ⟨d1,by omega⟩
structure MuchOk (L:Led) (B:Bk) (fr to get give most:Int) (r:Int×Int):Prop where
 lo:0<=r.1
 hi:r.1<=1099511627776
 none:r.1=0->r.2=0
 had:1<=r.1->HadF L B fr to get give most r.1/\r.2=(Yh L B fr to get give r.1).1
 more:¬HadF L B fr to get give most (r.1+1)
theorem Zf5 {L:Led} {B:Bk} (hs:SwOk L B) {fr to get give most:Int}:∀(f:Nat) (low high given:Int),0<=low->low<=high->high<=1099511627776->high-low<2 ^ f->(low=0->given=0)->
 (1<=low->HadF L B fr to get give most low/\given=(Yh L B fr to get give low).1)->¬HadF L B fr to get give most (high+1)->MuchOk L B fr to get give most (Ux (Yh L B fr to get give) most f low high given)
 | 0,low,high,given,h1,h2,h3,h4,h5,h6,h7=>by
   unfold Ux
   have:low=high:=by simp at h4;omega
   subst this
   exact ⟨h1,h3,h5,h6,h7⟩
 | f+1,low,high,given,h1,h2,h3,h4,h5,h6,h7=>by
   unfold Ux
   by_cases hl:low<high
   ·rw [if_pos hl]
    have hp:(2:Int) ^ (f+1)=2 ^ f*2:=by rw [Int.pow_succ]
    have hm1:high-(low+(high-low+1) / 2)<2 ^ f:=by
     rw [hp] at h4
     generalize (2:Int) ^ f=P at *
     omega
    have hm2:low+(high-low+1) / 2-1-low<2 ^ f:=by
     rw [hp] at h4
     generalize (2:Int) ^ f=P at *
     omega
    by_cases hc:(Yh L B fr to get give (low+(high-low+1) / 2)).2=0/\(Yh L B fr to get give (low+(high-low+1) / 2)).1<=most
    ·rw [if_pos hc]
     exact Zf5 hs f _ _ _ (by omega) (by omega) h3 hm1 (fun h=>by omega) (fun _=>⟨hc,rfl⟩) h7
    rw [if_neg hc]
    exact Zf5 hs f _ _ _ h1 (by omega) (by omega) hm2 h5 h6 (by rw [show low+(high-low+1) / 2-1+1=low+(high-low+1) / 2 by omega];exact hc)
   rw [if_neg hl]
   have:low=high:=by omega
   subst this
   exact ⟨h1,h3,h5,h6,h7⟩
theorem Zmv {L:Led} {B:Bk} (hs:SwOk L B) (fr to get give most:Int):MuchOk L B fr to get give most (Uw L B fr to get give most):=by
 refine Zf5 hs 64 0 1099511627776 0 (by decide) (by decide) (by decide) (by decide) (fun _=>rfl) (fun h=>absurd h (by decide)) (fun h=> ?_)
 have:=(Zfd hs h.1).2.1
 omega
theorem much_part {L:Led} {B:Bk} (hs:SwOk L B) {fr to get give most:Int} (h:1<=(Uw L B fr to get give most).1):
 (Uw L B fr to get give ((Uw L B fr to get give most).2-1)).1<(Uw L B fr to get give most).1/\(Uw L B fr to get give ((Uw L B fr to get give most).2-1)).2<(Uw L B fr to get give most).2:=by
 have m1:=Zmv hs fr to get give most
 obtain ⟨a1,a2⟩:=m1.had h
 have m2:=Zmv hs fr to get give ((Uw L B fr to get give most).2-1)
 generalize Uw L B fr to get give ((Uw L B fr to get give most).2-1)=r at *
 generalize Uw L B fr to get give most=s at *
 have hp:=Zfd hs a1.1
 constructor
 ·by_cases hlt:r.1<s.1
  ·exact hlt
  exfalso
  obtain ⟨b1,b2⟩:=m2.had (by omega)
  have:=(had_low hs h (by omega) b1).2
  omega
 by_cases h0:r.1=0
 ·rw [m2.none h0];omega
 have:=m2.lo
 obtain ⟨b1,b2⟩:=m2.had (by omega)
 have:=b1.2
 omega
theorem Zoi (pv:Value) (cost:Int->Int×Int) (fr to get give most:Int) (w:World) (hcost:∀n W,Ext w W->1<=n->n<=1099511627776->Calls Tryz.prog 45 #[pv,.int .u8 fr,.int .u8 to,.int .u8 get,.int .u8 give,.int .i64 n] W (Ret (.tuple #[.int .i64 (cost n).1,.int .i64 (cost n).2]) W)):
 Calls Tryz.prog 46 #[pv,.int .u8 fr,.int .u8 to,.int .u8 get,.int .u8 give,.int .i64 most] w (Ret (.tuple #[.int .i64 (Ux cost most 64 0 1099511627776 0).1,.int .i64 (Ux cost most 64 0 1099511627776 0).2]) w):=by
 generalize hr:Ux cost most 64 0 1099511627776 0=r
 have HR:=Lib.hid hr
 clear hr
 go_enter Tryz.func46,Tryz.ntmps46
 go_wp2
 go_loopw [13,14,15,16,17,18,19,20,21,22,23,24,25,26,27,28,29,30,31,32,33,34,35,36,37,38,39,40,41,42,43,44,45,46,47] (fun gv lv hv _ _ _ _ _ _ _ _ _ _ _ _ _ _ _ _ _ _ _ _ _ _ _ _ _ _ _ _ _ _ _ _ wr=>∃(f:Nat) (lo hi gi:Int),gv= .int .i64 gi/\lv= .int .i64 lo/\hv= .int .i64 hi/\Ext w wr/\0<=lo/\lo<=hi/\hi<=1099511627776/\hi-lo<2 ^ f/\Ux cost most f lo hi gi=r) (fun _ lv hv _ _ _ _ _ _ _ _ _ _ _ _ _ _ _ _ _ _ _ _ _ _ _ _ _ _ _ _ _ _ _ _ _=>(intOf hv-intOf lv).toNat)
 case atStart=>exact ⟨64,0,1099511627776,0,rfl,rfl,rfl,Ext.refl _,by decide,by decide,by decide,by decide,HR.out⟩
 obtain ⟨f,lo,hi,gi,rfl,rfl,rfl,er,h1,h2,h3,h4,h5⟩:=hrel
 by_cases hl:lo<hi
 focus
  cases f
  ·simp at h4;omega
  focus
   rename_i f
   have hp:(2:Int) ^ (f+1)=2 ^ f*2:=by rw [Int.pow_succ]
   have hm1:hi-(lo+(hi-lo+1) / 2)<2 ^ f:=by
    rw [hp] at h4
    generalize (2:Int) ^ f=P at *
    omega
   have hm2:lo+(hi-lo+1) / 2-1-lo<2 ^ f:=by
    rw [hp] at h4
    generalize (2:Int) ^ f=P at *
    omega
   unfold Ux at h5
   rw [if_pos hl] at h5
   have HM1:=Lib.hid hm1
   have HM2:=Lib.hid hm2
   have H5:=Lib.hid h5
   clear hm1 hm2 h4 hp h5
   go_wp2_with fail
   refine (hcost (lo+(hi-lo+1) / 2) wr er (by omega) (by omega)).mono ?_
   rintro e w2 ⟨rfl,e2⟩
   have k1:lo<lo+(hi-lo+1) / 2:=by omega
   have k2:lo+(hi-lo+1) / 2<=hi:=by omega
   have E2:=Xt er e2
   generalize hm:lo+(hi-lo+1) / 2=mid at *
   clear hm
   generalize cost mid=cv at *
   obtain ⟨c,ce⟩:=cv
   simp only at H5
   by_cases hE:ce=0
   focus
    subst hE
    by_cases hC:c<=most
    ·have h6:=H5.out
     rw [if_pos ⟨rfl,hC⟩] at h6
     clear H5 HM2
     go_wp2_with fail
     exact ⟨⟨f,mid,hi,c,rfl,rfl,rfl,E2,by omega,k2,h3,HM1.out,h6⟩,by simp [intOf];omega⟩
    focus
     have h6:=H5.out
     rw [if_neg (fun h=>hC h.2)] at h6
     have hC2:most<c:=by omega
   rotate_left
   focus
    have h6:=H5.out
    rw [if_neg (fun h=>hE h.1)] at h6
    have hE2:(ce==0)=false:=by simpa using hE
 rotate_left 2
 ·have he:lo=hi:=by omega
  subst he
  have h6:r=(lo,gi):=by
   cases f
   rotate_left
   focus
    rename_i f
    unfold Ux at h5
    rw [if_neg hl] at h5
   all_goals exact h5.symm
  subst h6
  clear h5 h4 HR
  go_wp2_with fail
  go_ret2
  exact ⟨rfl,er⟩
 all_goals
  clear H5 HM1
  go_wp2_with fail
  exact ⟨⟨f,lo,mid-1,gi,rfl,rfl,by go_num,E2,h1,by omega,by omega,HM2.out,h6⟩,by simp [intOf];omega⟩
theorem Ze0 (q p m pb:Nat) (g:Option Nat) (L:Led) (B:Bk) (fr to get give most:Int) (w:World) (h:IsM w q p m pb g L B):
 Calls Tryz.prog 46 #[.pointer (some ⟨q,0,none⟩),.int .u8 fr,.int .u8 to,.int .u8 get,.int .u8 give,.int .i64 most] w (Ret (.tuple #[.int .i64 (Uw L B fr to get give most).1,.int .i64 (Uw L B fr to get give most).2]) w):=
 Zoi _ (Yh L B fr to get give) fr to get give most w fun n W k _ h2=>U1 q p m pb g L B fr to get give n W (h.ext k) (by omega)
end Go.Proofs.YtipjchbdogmccaaGreat
