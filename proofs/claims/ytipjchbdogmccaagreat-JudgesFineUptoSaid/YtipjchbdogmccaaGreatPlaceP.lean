/- What may be filled may be done; one more may not: the plain law. Places, plainly: fill by fill. -/
import Derived.Test.YtipjchbdogmccaaGreatDo
import Derived.Test.YtipjchbdogmccaaGreatPlace1
namespace Go.Proofs.YtipjchbdogmccaaGreat
theorem Zj8 {a num den:Int} (ha:0<=a) (hn:0<=num) (hd:1<=den) (hq:a*num / den<=9223372036854775807):byR a num den=(a*num / den,a*num%den,0):=by
 unfold byR
 rw [if_neg (by omega),if_neg (by omega)]
theorem byR_over {a num den:Int} (ha:0<=a) (hn:0<=num) (hd:1<=den) (hq:¬a*num / den<=9223372036854775807):byR a num den=(0,0,10):=by
 unfold byR
 rw [if_neg (by omega),if_pos (by omega)]
theorem Zh6 {g num den:Int} (hm:Xq num den=true) (h0:0<=g):Zbl g num den=min (g*den / num) 1099511627776:=by
 have hb:=hm
 unfold Xq at hb
 rw [decide_eq_true_eq] at hb
 unfold Zbl Zak MA
 rw [if_neg (by rw [hm];simp;omega)]
 by_cases hq:g*den / num<=9223372036854775807
 ·rw [Zj8 h0 (by omega) (by omega) hq]
  simp only [↓reduceIte]
 rw [byR_over h0 (by omega) (by omega) hq]
 simp only
 rw [if_neg (by decide)]
 omega
theorem Zfn {g num den:Int} (h0:g<0):Zbl g num den=0:=by
 unfold Zbl
 rw [if_pos (Or.inl h0)]
theorem up_le {g n num den:Int} (hm:Xq num den=true) (hn:0<=n) (hg:g<=1099511627776) (h:n*num<=g*den):(Zah n num den).1<=g:=by
 have hb:=hm
 unfold Xq at hb
 rw [decide_eq_true_eq] at hb
 have hd0:(0:Int)<den:=by omega
 have hq:n*num / den<=g:=by
  have:=Int.ediv_le_ediv hd0 h
  rw [Int.mul_ediv_cancel _ (by omega)] at this
  exact this
 unfold Zah
 rw [if_pos hm]
 unfold upR Zak
 rw [Zj8 hn (by omega) (by omega) (by omega)]
 simp only
 split
 ·rename_i hr
  have hlt:n*num / den<g:=by
   rcases Int.lt_or_eq_of_le hq with hl | he
   ·exact hl
   have hdm:=Int.emod_add_mul_ediv (n*num) den
   rw [he,Int.mul_comm den g] at hdm
   omega
  unfold Znh
  rw [if_neg (by omega)]
  simp only
  omega
 exact hq
theorem Zlv {g n num den:Int} (hm:Xq num den=true) (h0:0<=g) (h:n<=Zbl g num den):n*num<=g*den:=by
 have hb:=hm
 unfold Xq at hb
 rw [decide_eq_true_eq] at hb
 rw [Zh6 hm h0] at h
 have h1:n<=g*den / num:=by omega
 exact Int.le_trans (Int.mul_le_mul_of_nonneg_right h1 (by omega)) (Int.ediv_mul_le _ (by omega))
theorem Zpd (g num den:Int):0<=Zbl g num den:=by
 by_cases h0:g<0
 ·rw [Zfn h0];exact Int.le_refl _
 by_cases hm:Xq num den=true
 ·have hb:=hm
  unfold Xq at hb
  rw [decide_eq_true_eq] at hb
  rw [Zh6 hm (by omega)]
  have:0<=g*den / num:=Int.ediv_nonneg (Int.mul_nonneg (by omega) (by omega)) (by omega)
  omega
 unfold Zbl
 rw [if_pos (Or.inr (by simpa using hm))]
 exact Int.le_refl _
theorem fits_mono {g g' num den:Int} (hm:Xq num den=true) (h:g<=g'):Zbl g num den<=Zbl g' num den:=by
 have hb:=hm
 unfold Xq at hb
 rw [decide_eq_true_eq] at hb
 by_cases h0:g<0
 ·rw [Zfn h0];exact Zpd _ _ _
 rw [Zh6 hm (by omega),Zh6 hm (by omega)]
 have:g*den / num<=g' * den / num:=Int.ediv_le_ediv (by omega) (Int.mul_le_mul_of_nonneg_right h (by omega))
 omega
theorem Zfw (a b c d:Int):Zd0 a b c d 4=min (min (min (min 1099511627776 a) b) c) d:=rfl
theorem Zoh {L:Led} {B:Bk} {seq taker to want most:Int} (h:Ym B.offs seq=none):Y0 L B seq taker to want most=0:=by
 unfold Y0;rw [h]
theorem Ze9 {L:Led} {B:Bk} {seq taker to want most:Int} {o:Off} (h:Ym B.offs seq=some o):
 Y0 L B seq taker to want most=if okT (some o) (Yz L) taker to want most then max (Zd0 want o.left (Zjv L o to) (Zbk L o taker most) 4) 0 else 0:=by
 unfold Y0;rw [h]
theorem Zml (L:Led) (B:Bk) (seq taker to want most:Int):0<=Y0 L B seq taker to want most/\Y0 L B seq taker to want most<=max want 0/\Y0 L B seq taker to want most<=1099511627776:=by
 cases hf:Ym B.offs seq with
 | none=>rw [Zoh hf];omega
 | some o=>
   rw [Ze9 hf,Zfw]
   split<;>omega
theorem Zfa {L:Led} {B:Bk} {seq taker to want most:Int} (hB:OkB B) (h1:1<=Y0 L B seq taker to want most):
 ∃given,(doR L B seq taker to (Y0 L B seq taker to want most)).1=(seq,taker,to,Y0 L B seq taker to want most,given)/\(doR L B seq taker to (Y0 L B seq taker to want most)).2.1=0/\given<=most:=by
 cases hf:Ym B.offs seq with
 | none=>rw [Zoh hf] at h1;omega
 | some o=>
   have hoo:=hB o (Vm hf).1
   obtain ⟨r1,r2,hm⟩:=Zbw hoo
   have hs:=Ze9 (L:=L) (taker:=taker) (to:=to) (want:=want) (most:=most) hf
   generalize hn:Y0 L B seq taker to want most=n at *
   by_cases hok:okT (some o) (Yz L) taker to want most=true
   ·rw [if_pos hok,Zfw] at hs
    have hfit:n<=Zbk L o taker most:=by omega
    have hg0:0<=Uv L o taker most:=by
     by_cases h0:Uv L o taker most<0
     ·have:Zbk L o taker most=0:=by unfold Zbk;exact Zfn h0
      omega
     omega
    have hok2:okT (some o) (Yz L) taker to n 1099511627776=true:=by
     unfold okT at hok ⊢
     simp only [Bool.and_eq_true,decide_eq_true_eq] at hok ⊢
     exact ⟨⟨hok.1.1,by omega⟩,by omega⟩
    have hmore:Zbk L o taker most<=Zbk L o taker 1099511627776:=by
     unfold Zbk
     exact fits_mono hm (by unfold Uv;omega)
    have hmay2:¬(n<1\/Y0 L B seq taker to n 1099511627776<n):=by
     rw [Ze9 hf,if_pos hok2,Zfw]
     omega
    unfold doR
    rw [if_neg hmay2,hf]
    refine ⟨_,rfl,rfl,?_⟩
    simp only [Option.getD_some]
    have hle:=up_le (g:=Uv L o taker most) (n:=n) hm (by omega) (by unfold Uv;omega) (Zlv hm hg0 hfit)
    have:Uv L o taker most<=most:=by unfold Uv;omega
    omega
   rw [if_neg hok] at hs
   omega
abbrev Fl:=Int×Int×Int×Int×Int
theorem Zg8 (L:Led) (B:Bk) (o:Off):∀l,(U9 L B o l).2=0\/(0<(U9 L B o l).2/\(U9 L B o l).2=Y0 L B (U9 L B o l).1 o.owner o.owner 1099511627776 o.left)
 | []=>.inl rfl
 | y::l=>by
   unfold U9
   split
   ·exact .inl rfl
   split
   ·rename_i h;exact .inr ⟨h,rfl⟩
   exact Zg8 L B o l
def Yd (o:Off):Nat->Led->Bk->Int->List Fl->Int×Led×Bk×Int×List Fl
 | 0,L,B,left,all=>(0,L,B,left,all)
 | f+1,L,B,left,all=>
   if left<=0 then (0,L,B,left,all)
   else if (Vh L B { o with left:=left }).2=0 then (0,L,B,left,all)
   else if all.length=64 then (13,L,B,left,all)
   else Yd o f (doR L B (Vh L B { o with left:=left }).1 o.owner o.owner (Vh L B { o with left:=left }).2).2.2.1 (doR L B (Vh L B { o with left:=left }).1 o.owner o.owner (Vh L B { o with left:=left }).2).2.2.2
    (left-(doR L B (Vh L B { o with left:=left }).1 o.owner o.owner (Vh L B { o with left:=left }).2).1.2.2.2.2) (all++[(doR L B (Vh L B { o with left:=left }).1 o.owner o.owner (Vh L B { o with left:=left }).2).1])
theorem Zqh {n num den:Int} (hn:0<=n):0<=(Zah n num den).1:=by
 unfold Zah
 split
 ·rename_i hm
  unfold Xq at hm
  rw [decide_eq_true_eq] at hm
  have hq:0<=n*num / den:=Int.ediv_nonneg (Int.mul_nonneg hn (by omega)) (by omega)
  have h1:0<=(byR n num den).1:=by
   unfold byR
   rw [if_neg (by omega)]
   split
   ·exact Int.le_refl _
   exact hq
  unfold upR Zak
  split
  ·unfold Znh
   split
   ·exact Int.le_refl _
   simp only;omega
  exact h1
 exact Int.le_refl _
theorem Zhy (L:Led) (B:Bk) (seq taker to n:Int):0<=(doR L B seq taker to n).1.2.2.2.2:=by
 unfold doR
 split
 ·exact Int.le_refl _
 rename_i h
 exact Zqh (by omega)
def Za7 (B:Bk):Prop:=(B.offs.map Off.seq).Nodup
theorem Za7.b {B:Bk} (h:Za7 B):SeqB B.offs:=by
 unfold Za7 at h
 generalize B.offs=l at *
 intro x hx y hy hxy
 induction l with
 | nil=>cases hx
 | cons z l ih=>
   rw [List.map_cons,List.nodup_cons] at h
   rcases List.mem_cons.1 hx with hx2 | hx2
   ·rcases List.mem_cons.1 hy with hy2 | hy2
    ·rw [hx2,hy2]
    exact absurd (List.mem_map.2 ⟨y,hy2,by rw [<-hxy,hx2]⟩) h.1
   rcases List.mem_cons.1 hy with hy2 | hy2
   ·exact absurd (List.mem_map.2 ⟨x,hx2,by rw [hxy,hy2]⟩) h.1
   exact ih h.2 hx2 hy2
theorem Zf5 {B:Bk} (h:Za7 B) (seq n:Int):Za7 (Jn B seq n).2:=by
 unfold Jn
 cases hf:Ym B.offs seq with
 | none=>exact h
 | some o=>
   simp only
   split
   ·exact h
   split
   ·exact List.Nodup.sublist (List.Sublist.map _ (List.eraseIdx_sublist ..)) h
   unfold Za7
   simp only
   rw [List.map_set]
   rcases Zcb seq B.offs 0 with ⟨_,h2⟩ | ⟨j,hj,h1,h2⟩
   ·rw [hf] at h2;cases h2
   rw [hf] at h2
   injection h2 with h2
   have hj2:(Zhw B.offs seq).toNat=j:=by unfold Zhw;rw [h1];simp
   rw [hj2]
   have:(B.offs.map Off.seq).set j o.seq=B.offs.map Off.seq:=by
    apply List.ext_getElem?
    intro i
    by_cases hi:j=i
    ·subst hi
     rw [List.getElem?_set_self (by simpa using hj),List.getElem?_map,List.getElem?_eq_getElem hj,h2];rfl
    rw [List.getElem?_set_ne hi]
   show ((B.offs.map Off.seq).set j o.seq).Nodup
   rw [this]
   exact h
theorem Zme {L:Led} {B:Bk} (h:Za7 B) (seq taker to n:Int):Za7 (doR L B seq taker to n).2.2.2:=by
 unfold doR
 split
 ·exact h
 exact Zf5 h seq n
theorem Zoc {L:Led} {B:Bk} (h:OkB B) (seq taker to n:Int):OkB (doR L B seq taker to n).2.2.2:=by
 unfold doR
 split
 ·exact h
 exact ok_take h seq n
theorem Znp {L:Led} {B:Bk} (h:WF L) (seq taker to n:Int):WF (doR L B seq taker to n).2.2.1:=by
 unfold doR
 split
 ·exact h
 split
 ·exact Zie h _ _ _ _
 exact Zie (Zie h _ _ _ _) _ _ _ _
end Go.Proofs.YtipjchbdogmccaaGreat
