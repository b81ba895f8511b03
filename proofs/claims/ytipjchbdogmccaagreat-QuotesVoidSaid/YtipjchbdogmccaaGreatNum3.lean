/- Numbers, further: exact products by a denominator; rates floored and raised. Numbers, further: floored and raised. -/
import Derived.Test.YtipjchbdogmccaaGreatNum
import Derived.Test.YtipjchbdogmccaaGreatDiv
set_option maxHeartbeats 1600000
set_option maxRecDepth 100000
namespace Go.Proofs.YtipjchbdogmccaaGreat
open Go.RowKit Go.Rg Go.BigFrame
def byR (a num den:Int):Int×Int×Int:=
 if a<0\/num<0\/den<1 then (0,0,1) else if 9223372036854775807<a*num / den then (0,0,10) else (a*num / den,a*num%den,0)
def by3 (r:Int×Int×Int):Value:= .tuple #[.int .i64 r.1,.int .u64 r.2.1,.int .i64 r.2.2]
theorem Zr9 (a num den:Int) (w:World) (h:a<0\/num<0\/den<1):Calls Tryz.prog 302 #[.int .i64 a,.int .i64 num,.int .i64 den] w (Ret (by3 (byR a num den)) w):=by
 have hr:byR a num den=(0,0,1):=by unfold byR;rw [if_pos h]
 rw [hr]
 unfold by3
 by_cases h1:a<0
 rotate_left
 focus
  by_cases h2:num<0
  rotate_left
  focus have h3:den<1:=by omega
 all_goals
  go_enter Tryz.func302,Tryz.ntmps302
  go_wp2
  go_ret3
  exact ⟨rfl,Ext.refl _⟩
theorem Zpr (a num den:Int) (w:World) (h1:0<=a) (h2:0<=num) (h3:1<=den) (b1:a<=9223372036854775807) (b2:num<=9223372036854775807) (b3:den<=9223372036854775807):
 Calls Tryz.prog 302 #[.int .i64 a,.int .i64 num,.int .i64 den] w (Ret (by3 (byR a num den)) w):=by
 obtain ⟨hi,lo,hm,hh,hl,hl2⟩:∃hi lo:Int,a*num=hi*W64+lo/\0<=hi/\0<=lo/\lo<W64:=by
  refine ⟨a*num / W64,a*num%W64,?_,?_,?_,?_⟩
  ·rw [Int.mul_comm (a*num / W64)];exact (Int.mul_ediv_add_emod ..).symm
  ·exact Int.ediv_nonneg (Int.mul_nonneg h1 h2) (by rw [Vd];omega)
  ·exact Int.emod_nonneg _ (by rw [Vd];omega)
  exact Int.emod_lt_of_pos _ (by rw [Vd];omega)
 have c1:=fun w=>Zdi a num hi lo w h1 (by rw [Vd];omega) h2 (by rw [Vd];omega) hm hl hl2
 by_cases hov:den<=hi
 ·have hr:byR a num den=(0,0,10):=by
   unfold byR
   rw [if_neg (by omega),if_pos]
   have:den*W64<=a*num:=by
    rw [hm]
    have:=Int.mul_le_mul_of_nonneg_right hov (show (0:Int)<=W64 by rw [Vd];omega)
    omega
   have h4:W64<=a*num / den:=(Int.le_ediv_iff_mul_le (by omega)).2 (by rw [Int.mul_comm];exact this)
   rw [Vd] at h4
   omega
  rw [hr]
  unfold by3
  clear hr hm hl hl2
  go_enter Tryz.func302,Tryz.ntmps302
  go_wp2_with (go_at_call 296;refine (c1 _).mono ?_;rintro e w' ⟨rfl,he'⟩)
  go_ret3
  exact ⟨rfl,by assumption⟩
 obtain ⟨q,r,hq,hr0,hr1,hq1,hq2⟩:∃q r:Int,a*num=q*den+r/\0<=r/\r<den/\a*num / den=q/\a*num%den=r:=
  ⟨a*num / den,a*num%den,by rw [Int.mul_comm (a*num / den)];exact (Int.mul_ediv_add_emod ..).symm,Int.emod_nonneg _ (by omega),Int.emod_lt_of_pos _ (by omega),rfl,rfl⟩
 have hq0:0<=q:=by rw [<-hq1];exact Int.ediv_nonneg (Int.mul_nonneg h1 h2) (by omega)
 have c2:=fun w=>div64_any hi lo den q r w hh (by omega) (by rw [Vd];omega) hl hl2 (by rw [<-hm,hq]) hr0 hr1
 have hr:byR a num den=if 9223372036854775807<q then (0,0,10) else (q,r,0):=by
  unfold byR
  rw [if_neg (by omega),hq1,hq2]
 rw [hr]
 clear hr hm hl hl2 hq hq1 hq2
 unfold by3
 have hov':hi<den:=by omega
 clear hov
 by_cases hbig:9223372036854775807<q
 focus rw [if_pos hbig]
 rotate_left
 focus
  rw [if_neg hbig]
  have hbig':q<=9223372036854775807:=by omega
  clear hbig
 all_goals
  go_enter Tryz.func302,Tryz.ntmps302
  go_wp2_with first | (go_at_call 296;refine (c1 _).mono ?_;rintro e w' ⟨rfl,he'⟩) | (go_at_call 320;refine (c2 _).mono ?_;rintro e w'' ⟨rfl,he''⟩)
  go_ret3
  exact ⟨rfl,Xt (by assumption) (by assumption)⟩
theorem Znl (a num den:Int):0<=(byR a num den).1/\(byR a num den).1<=9223372036854775807/\0<=(byR a num den).2.1/\((byR a num den).2.2=0\/(byR a num den).2.2=1\/(byR a num den).2.2=10):=by
 unfold byR
 split
 ·simp
 rename_i h
 split
 ·simp
 rename_i h2
 refine ⟨?_,by simpa using Int.not_lt.1 h2,?_,Or.inl rfl⟩
 ·exact Int.ediv_nonneg (Int.mul_nonneg (by omega) (by omega)) (by omega)
 exact Int.emod_nonneg _ (by omega)
def J9 (a num den:Int):Int×Int:=((byR a num den).1,(byR a num den).2.2)
def Znp (a:Int):Int×Int:=if a=9223372036854775807 then (0,10) else (a+1,0)
def upR (a num den:Int):Int×Int:=if (byR a num den).2.2=0/\0<(byR a num den).2.1 then Znp (byR a num den).1 else J9 a num den
def two (r:Int×Int):Value:= .tuple #[.int .i64 r.1,.int .i64 r.2]
theorem by_any (a num den:Int) (w:World) (b1:a<=9223372036854775807) (b2:num<=9223372036854775807) (b3:den<=9223372036854775807):
 Calls Tryz.prog 302 #[.int .i64 a,.int .i64 num,.int .i64 den] w (Ret (by3 (byR a num den)) w):=by
 by_cases h:a<0\/num<0\/den<1
 ·exact Zr9 a num den w h
 exact Zpr a num den w (by omega) (by omega) (by omega) b1 b2 b3
theorem Zru (a num den:Int) (w:World) (b1:a<=9223372036854775807) (b2:num<=9223372036854775807) (b3:den<=9223372036854775807):
 Calls Tryz.prog 318 #[.int .i64 a,.int .i64 num,.int .i64 den] w (Ret (two (J9 a num den)) w):=by
 have c:=fun w=>by_any a num den w b1 b2 b3
 unfold J9 two by3 at *
 generalize byR a num den=r at c
 obtain ⟨q,l,e⟩:=r
 go_enter Tryz.func318,Tryz.ntmps318
 go_wp2_with (go_at_call 302;refine (c _).mono ?_;rintro e w' ⟨rfl,he'⟩)
 go_ret2
 exact ⟨rfl,by assumption⟩
theorem exup_any (a num den:Int) (w:World) (b1:a<=9223372036854775807) (b2:num<=9223372036854775807) (b3:den<=9223372036854775807):
 Calls Tryz.prog 265 #[.int .i64 a,.int .i64 num,.int .i64 den] w (Ret (two (upR a num den)) w):=by
 have c:=fun w=>by_any a num den w b1 b2 b3
 have hb:=Znl a num den
 unfold upR J9 two by3 at *
 generalize byR a num den=r at c hb
 obtain ⟨q,l,e⟩:=r
 simp only at hb c ⊢
 obtain ⟨hq0,hq1,hl,he⟩:=hb
 by_cases h:e=0/\0<l
 ·rw [if_pos h]
  obtain ⟨rfl,h0⟩:=h
  clear he
  have c2:=fun w=>add_any q w (by omega) hq1
  have hr:(.tuple #[.int .i64 (if q=9223372036854775807 then 0 else q+1),.int .i64 (if q=9223372036854775807 then 10 else 0)]:Value)= .tuple #[.int .i64 (Znp q).1,.int .i64 (Znp q).2]:=by
   unfold Znp
   by_cases h:q=9223372036854775807
   ·simp [h]
   simp [h]
  rw [hr] at c2
  clear hr
  generalize Znp q=s at c2
  obtain ⟨s1,s2⟩:=s
  go_enter Tryz.func265,Tryz.ntmps265
  go_wp2_with first | (go_at_call 302;refine (c _).mono ?_;rintro e w' ⟨rfl,he'⟩) | (go_at_call 303;refine (c2 _).mono ?_;rintro e w'' ⟨rfl,he''⟩)
  go_ret2
  exact ⟨rfl,Xt (by assumption) (by assumption)⟩
 rw [if_neg h]
 by_cases he0:e=0
 focus
  subst he0
  have h0:l=0:=by omega
  subst h0
 rotate_left
 focus have hb:(e==0)=false:=by simpa using he0
 all_goals
  clear he h
  go_enter Tryz.func265,Tryz.ntmps265
  go_wp2_with (go_at_call 302;refine (c _).mono ?_;rintro e w' ⟨rfl,he'⟩)
  go_ret2
  exact ⟨rfl,by assumption⟩
def Zqm (a num den:Int):Int×Int:=if Xl num den then J9 a num den else (0,1)
def J4 (a num den:Int):Int×Int:=if Xl num den then upR a num den else (0,1)
theorem rdown_any (a num den:Int) (w:World) (b1:a<=9223372036854775807) (b2:num<=9223372036854775807) (b3:den<=9223372036854775807):
 Calls Tryz.prog 298 #[.int .i64 a,rat (num,den)] w (Ret (two (Zqm a num den)) w):=by
 have c:=fun w=>Zru a num den w b1 b2 b3
 unfold Zqm two at *
 have e0:Ext w (w.alloc (.cells #[.int .i64 num,.int .i64 den] 27)):=Zc _ _
 have h0:=Zb w (.cells #[.int .i64 num,.int .i64 den] 27)
 have hm:=fun w=>Za4 num den w b2 b3
 simp only [rat] at hm ⊢
 generalize hW:w.alloc (.cells #[.int .i64 num,.int .i64 den] 27)=W at e0 h0
 have HW:=Lib.hid hW
 clear hW
 have c0:=Za h0 (j:=0) rfl
 have c1:=Za h0 (j:=1) rfl
 by_cases hb:Xl num den=true
 ·rw [if_pos hb]
  rw [hb] at hm
  clear hb
  generalize J9 a num den=r at c
  obtain ⟨q,e⟩:=r
  go_enter Tryz.func298,Tryz.ntmps298
  go_wp2_with fail
  rw [HW.out]
  refine (hm _).mono ?_
  rintro e w' ⟨rfl,he'⟩
  have c0':=Za (he'.at h0) (j:=0) rfl
  have c1':=Za (he'.at h0) (j:=1) rfl
  go_wp2_with (go_at_call 318;refine (c _).mono ?_;rintro e w'' ⟨rfl,he''⟩)
  go_ret2
  exact ⟨rfl,Xt e0 (Xt he' (by assumption))⟩
 rw [if_neg hb]
 have hb':Xl num den=false:=by simpa using hb
 rw [hb'] at hm
 clear hb hb' c
 go_enter Tryz.func298,Tryz.ntmps298
 go_wp2_with fail
 rw [HW.out]
 refine (hm _).mono ?_
 rintro e w' ⟨rfl,he'⟩
 go_wp2
 go_ret2
 exact ⟨rfl,Xt e0 he'⟩
theorem rup_any (a num den:Int) (w:World) (b1:a<=9223372036854775807) (b2:num<=9223372036854775807) (b3:den<=9223372036854775807):
 Calls Tryz.prog 231 #[.int .i64 a,rat (num,den)] w (Ret (two (J4 a num den)) w):=by
 have c:=fun w=>exup_any a num den w b1 b2 b3
 unfold J4 two at *
 have e0:Ext w (w.alloc (.cells #[.int .i64 num,.int .i64 den] 27)):=Zc _ _
 have h0:=Zb w (.cells #[.int .i64 num,.int .i64 den] 27)
 have hm:=fun w=>Za4 num den w b2 b3
 simp only [rat] at hm ⊢
 generalize hW:w.alloc (.cells #[.int .i64 num,.int .i64 den] 27)=W at e0 h0
 have HW:=Lib.hid hW
 clear hW
 have c0:=Za h0 (j:=0) rfl
 have c1:=Za h0 (j:=1) rfl
 by_cases hb:Xl num den=true
 ·rw [if_pos hb]
  rw [hb] at hm
  clear hb
  generalize upR a num den=r at c
  obtain ⟨q,e⟩:=r
  go_enter Tryz.func231,Tryz.ntmps231
  go_wp2_with fail
  rw [HW.out]
  refine (hm _).mono ?_
  rintro e w' ⟨rfl,he'⟩
  have c0':=Za (he'.at h0) (j:=0) rfl
  have c1':=Za (he'.at h0) (j:=1) rfl
  go_wp2_with (go_at_call 265;refine (c _).mono ?_;rintro e w'' ⟨rfl,he''⟩)
  go_ret2
  exact ⟨rfl,Xt e0 (Xt he' (by assumption))⟩
 rw [if_neg hb]
 have hb':Xl num den=false:=by simpa using hb
 rw [hb'] at hm
 clear hb hb' c
 go_enter Tryz.func231,Tryz.ntmps231
 go_wp2_with fail
 rw [HW.out]
 refine (hm _).mono ?_
 rintro e w' ⟨rfl,he'⟩
 go_wp2
 go_ret2
 exact ⟨rfl,Xt e0 he'⟩
def MA:Int:=1099511627776
def Zba (n num den:Int):Int:=if n<0\/Xl num den=false then 0 else if (J9 n den num).2=0 then min (J9 n den num).1 MA else MA
theorem mayR_inv {n d:Int} (h:Xl n d=true):Xl d n=true:=by
 unfold Xl at *
 simp only [decide_eq_true_eq] at *
 rw [Int.gcd_comm]
 omega
theorem downR_bd (a num den:Int):0<=(J9 a num den).1/\(J9 a num den).1<=9223372036854775807:=⟨(Znl a num den).1,(Znl a num den).2.1⟩
theorem fits_any (n num den:Int) (w:World) (b1:n<=9223372036854775807) (b2:num<=9223372036854775807) (b3:den<=9223372036854775807):
 Calls Tryz.prog 263 #[.int .i64 n,rat (num,den)] w (Ret (.int .i64 (Zba n num den)) w):=by
 have ci:=fun w=>Zhb num den w b2 b3
 unfold Zba at *
 have e0:Ext w (w.alloc (.cells #[.int .i64 num,.int .i64 den] 27)):=Zc _ _
 have h0:=Zb w (.cells #[.int .i64 num,.int .i64 den] 27)
 have hm:=fun w=>Za4 num den w b2 b3
 simp only [rat] at hm ⊢
 generalize hW:w.alloc (.cells #[.int .i64 num,.int .i64 den] 27)=W at e0 h0
 have HW:=Lib.hid hW
 clear hW
 have c0:=Za h0 (j:=0) rfl
 have c1:=Za h0 (j:=1) rfl
 by_cases hn:n<0
 ·rw [if_pos (Or.inl hn)]
  clear ci hm
  go_enter Tryz.func263,Tryz.ntmps263
  go_wp2
  rw [HW.out]
  go_ret
  exact ⟨rfl,e0⟩
 by_cases hb:Xl num den=true
 ·have hb2:Xl den num=true:=mayR_inv hb
  rw [if_neg (by simp [hn,hb])]
  have hi:Zjm num den=(den,num):=by unfold Zjm;rw [if_pos hb]
  rw [hi] at ci
  rw [hb] at hm
  have cd:=fun w=>rdown_any n den num w b1 b3 b2
  have hbd:=downR_bd n den num
  unfold Zqm two at cd
  rw [if_pos hb2] at cd
  simp only [rat] at cd ci
  clear hb hb2 hi
  generalize J9 n den num=r at cd hbd
  obtain ⟨q,e⟩:=r
  simp only at hbd cd ⊢
  obtain ⟨hq0,hq1⟩:=hbd
  by_cases he:e=0
  focus
   subst he
   rw [if_pos rfl]
  rotate_left
  focus
   rw [if_neg he]
   have hbe:(e==0)=false:=by simpa using he
   have hbe2:(e !=0)=true:=by simpa using he
  all_goals
   go_enter Tryz.func263,Tryz.ntmps263
   go_wp2_with fail
   rw [HW.out]
   refine (hm _).mono ?_
   rintro e w' ⟨rfl,he'⟩
   have c0':=Za (he'.at h0) (j:=0) rfl
   have c1':=Za (he'.at h0) (j:=1) rfl
   go_wp2_with fail
   refine (ci _).mono ?_
   rintro e w2 ⟨rfl,he2⟩
   go_wp2_with fail
   refine (cd _).mono ?_
   rintro e w3 ⟨rfl,he3⟩
   go_wp2
   go_ret
   exact ⟨rfl,Xt e0 (Xt he' (Xt he2 he3))⟩
 have hb':Xl num den=false:=by simpa using hb
 rw [if_pos (Or.inr hb')]
 rw [hb'] at hm
 clear hb hb' ci
 go_enter Tryz.func263,Tryz.ntmps263
 go_wp2_with fail
 rw [HW.out]
 refine (hm _).mono ?_
 rintro e w' ⟨rfl,he'⟩
 go_wp2
 go_ret
 exact ⟨rfl,Xt e0 he'⟩
end Go.Proofs.YtipjchbdogmccaaGreat
