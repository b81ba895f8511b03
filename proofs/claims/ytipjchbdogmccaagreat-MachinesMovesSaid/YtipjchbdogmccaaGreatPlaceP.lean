/- What may be filled may be done; one more may not: the plain law. Places, plainly: fill by fill. -/
import Derived.Test.YtipjchbdogmccaaGreatDo
import Derived.Test.YtipjchbdogmccaaGreatPlace1
namespace Go.Proofs.YtipjchbdogmccaaGreat
theorem Zjr {a num den:Int} (ha:0<=a) (hn:0<=num) (hd:1<=den) (hq:a*num / den<=9223372036854775807):byR a num den=(a*num / den,a*num%den,0):=by
 unfold byR
 rw [if_neg (by omega),if_neg (by omega)]
theorem byR_over {a num den:Int} (ha:0<=a) (hn:0<=num) (hd:1<=den) (hq:¬a*num / den<=9223372036854775807):byR a num den=(0,0,10):=by
 unfold byR
 rw [if_neg (by omega),if_pos (by omega)]
theorem Zhw {g num den:Int} (hm:Xq num den=true) (h0:0<=g):Zay g num den=min (g*den / num) 1099511627776:=by
 have hb:=hm
 unfold Xq at hb
 rw [decide_eq_true_eq] at hb
 unfold Zay J8 MA
 rw [if_neg (by rw [hm];simp;omega)]
 by_cases hq:g*den / num<=9223372036854775807
 ·rw [Zjr h0 (by omega) (by omega) hq]
  simp only [↓reduceIte]
 rw [byR_over h0 (by omega) (by omega) hq]
 simp only
 rw [if_neg (by decide)]
 omega
theorem Zfd {g num den:Int} (h0:g<0):Zay g num den=0:=by
 unfold Zay
 rw [if_pos (Or.inl h0)]
theorem up_le {g n num den:Int} (hm:Xq num den=true) (hn:0<=n) (hg:g<=1099511627776) (h:n*num<=g*den):(J4 n num den).1<=g:=by
 have hb:=hm
 unfold Xq at hb
 rw [decide_eq_true_eq] at hb
 have hd0:(0:Int)<den:=by omega
 have hq:n*num / den<=g:=by
  have:=Int.ediv_le_ediv hd0 h
  rw [Int.mul_ediv_cancel _ (by omega)] at this
  exact this
 unfold J4
 rw [if_pos hm]
 unfold upR J8
 rw [Zjr hn (by omega) (by omega) (by omega)]
 simp only
 split
 ·rename_i hr
  have hlt:n*num / den<g:=by
   rcases Int.lt_or_eq_of_le hq with hl | he
   ·exact hl
   have hdm:=Int.emod_add_mul_ediv (n*num) den
   rw [he,Int.mul_comm den g] at hdm
   omega
  unfold Zmk
  rw [if_neg (by omega)]
  simp only
  omega
 exact hq
theorem Zk7 {g n num den:Int} (hm:Xq num den=true) (h0:0<=g) (h:n<=Zay g num den):n*num<=g*den:=by
 have hb:=hm
 unfold Xq at hb
 rw [decide_eq_true_eq] at hb
 rw [Zhw hm h0] at h
 have h1:n<=g*den / num:=by omega
 exact Int.le_trans (Int.mul_le_mul_of_nonneg_right h1 (by omega)) (Int.ediv_mul_le _ (by omega))
theorem Zod (g num den:Int):0<=Zay g num den:=by
 by_cases h0:g<0
 ·rw [Zfd h0];exact Int.le_refl _
 by_cases hm:Xq num den=true
 ·have hb:=hm
  unfold Xq at hb
  rw [decide_eq_true_eq] at hb
  rw [Zhw hm (by omega)]
  have:0<=g*den / num:=Int.ediv_nonneg (Int.mul_nonneg (by omega) (by omega)) (by omega)
  omega
 unfold Zay
 rw [if_pos (Or.inr (by simpa using hm))]
 exact Int.le_refl _
theorem fits_mono {g g' num den:Int} (hm:Xq num den=true) (h:g<=g'):Zay g num den<=Zay g' num den:=by
 have hb:=hm
 unfold Xq at hb
 rw [decide_eq_true_eq] at hb
 by_cases h0:g<0
 ·rw [Zfd h0];exact Zod _ _ _
 rw [Zhw hm (by omega),Zhw hm (by omega)]
 have:g*den / num<=g' * den / num:=Int.ediv_le_ediv (by omega) (Int.mul_le_mul_of_nonneg_right h (by omega))
 omega
theorem Zfk (a b c d:Int):Zdn a b c d 4=min (min (min (min 1099511627776 a) b) c) d:=rfl
theorem Znn {L:Led} {B:Bk} {seq taker to want most:Int} (h:Z2 B.offs seq=none):Y1 L B seq taker to want most=0:=by
 unfold Y1;rw [h]
theorem Ze1 {L:Led} {B:Bk} {seq taker to want most:Int} {o:Off} (h:Z2 B.offs seq=some o):
 Y1 L B seq taker to want most=if okT (some o) (Yp L) taker to want most then max (Zdn want o.left (Zjb L o to) (Zax L o taker most) 4) 0 else 0:=by
 unfold Y1;rw [h]
theorem Zlv (L:Led) (B:Bk) (seq taker to want most:Int):0<=Y1 L B seq taker to want most/\Y1 L B seq taker to want most<=max want 0/\Y1 L B seq taker to want most<=1099511627776:=by
 cases hf:Z2 B.offs seq with
 | none=>rw [Znn hf];omega
 | some o=>
   rw [Ze1 hf,Zfk]
   split<;>omega
theorem Ze2 {L:Led} {B:Bk} {seq taker to want most:Int} (hB:OkB B) (h1:1<=Y1 L B seq taker to want most):
 ∃given,(doR L B seq taker to (Y1 L B seq taker to want most)).1=(seq,taker,to,Y1 L B seq taker to want most,given)/\(doR L B seq taker to (Y1 L B seq taker to want most)).2.1=0/\given<=most:=by
 cases hf:Z2 B.offs seq with
 | none=>rw [Znn hf] at h1;omega
 | some o=>
   have hoo:=hB o (Yu hf).1
   obtain ⟨r1,r2,hm⟩:=Za8 hoo
   have hs:=Ze1 (L:=L) (taker:=taker) (to:=to) (want:=want) (most:=most) hf
   generalize hn:Y1 L B seq taker to want most=n at *
   by_cases hok:okT (some o) (Yp L) taker to want most=true
   ·rw [if_pos hok,Zfk] at hs
    have hfit:n<=Zax L o taker most:=by omega
    have hg0:0<=Ut L o taker most:=by
     by_cases h0:Ut L o taker most<0
     ·have:Zax L o taker most=0:=by unfold Zax;exact Zfd h0
      omega
     omega
    have hok2:okT (some o) (Yp L) taker to n 1099511627776=true:=by
     unfold okT at hok ⊢
     simp only [Bool.and_eq_true,decide_eq_true_eq] at hok ⊢
     exact ⟨⟨hok.1.1,by omega⟩,by omega⟩
    have hmore:Zax L o taker most<=Zax L o taker 1099511627776:=by
     unfold Zax
     exact fits_mono hm (by unfold Ut;omega)
    have hmay2:¬(n<1\/Y1 L B seq taker to n 1099511627776<n):=by
     rw [Ze1 hf,if_pos hok2,Zfk]
     omega
    unfold doR
    rw [if_neg hmay2,hf]
    refine ⟨_,rfl,rfl,?_⟩
    simp only [Option.getD_some]
    have hle:=up_le (g:=Ut L o taker most) (n:=n) hm (by omega) (by unfold Ut;omega) (Zk7 hm hg0 hfit)
    have:Ut L o taker most<=most:=by unfold Ut;omega
    omega
   rw [if_neg hok] at hs
   omega
abbrev Fl:=Int×Int×Int×Int×Int
theorem Zg0 (L:Led) (B:Bk) (o:Off):∀l,(U7 L B o l).2=0\/(0<(U7 L B o l).2/\(U7 L B o l).2=Y1 L B (U7 L B o l).1 o.owner o.owner 1099511627776 o.left)
 | []=>.inl rfl
 | y::l=>by
   unfold U7
   split
   ·exact .inl rfl
   split
   ·rename_i h;exact .inr ⟨h,rfl⟩
   exact Zg0 L B o l
def Yb (o:Off):Nat->Led->Bk->Int->List Fl->Int×Led×Bk×Int×List Fl
 | 0,L,B,left,all=>(0,L,B,left,all)
 | f+1,L,B,left,all=>
   if left<=0 then (0,L,B,left,all)
   else if (X8 L B { o with left:=left }).2=0 then (0,L,B,left,all)
   else if all.length=64 then (13,L,B,left,all)
   else Yb o f (doR L B (X8 L B { o with left:=left }).1 o.owner o.owner (X8 L B { o with left:=left }).2).2.2.1 (doR L B (X8 L B { o with left:=left }).1 o.owner o.owner (X8 L B { o with left:=left }).2).2.2.2
    (left-(doR L B (X8 L B { o with left:=left }).1 o.owner o.owner (X8 L B { o with left:=left }).2).1.2.2.2.2) (all++[(doR L B (X8 L B { o with left:=left }).1 o.owner o.owner (X8 L B { o with left:=left }).2).1])
theorem Zpi {n num den:Int} (hn:0<=n):0<=(J4 n num den).1:=by
 unfold J4
 split
 ·rename_i hm
  unfold Xq at hm
  rw [decide_eq_true_eq] at hm
  have hq:0<=n*num / den:=Int.ediv_nonneg (Int.mul_nonneg hn (by omega)) (by omega)
  have h1:0<=(byR n num den).1:=by
   unfold byR
   rw [if_neg (by omega)]
   split
   ·exact Int.le_refl _
   exact hq
  unfold upR J8
  split
  ·unfold Zmk
   split
   ·exact Int.le_refl _
   simp only;omega
  exact h1
 exact Int.le_refl _
theorem Zhm (L:Led) (B:Bk) (seq taker to n:Int):0<=(doR L B seq taker to n).1.2.2.2.2:=by
 unfold doR
 split
 ·exact Int.le_refl _
 rename_i h
 exact Zpi (by omega)
def Uv (B:Bk):Prop:=(B.offs.map Off.seq).Nodup
theorem Uv.b {B:Bk} (h:Uv B):SeqB B.offs:=by
 unfold Uv at h
 generalize B.offs=l at *
 intro x hx y hy hxy
 induction l with
 | nil=>cases hx
 | cons z l ih=>
   rw [List.map_cons,List.nodup_cons] at h
   rcases List.mem_cons.1 hx with hx2 | hx2
   ·rcases List.mem_cons.1 hy with hy2 | hy2
    ·rw [hx2,hy2]
    exact absurd (List.mem_map.2 ⟨y,hy2,by rw [<-hxy,hx2]⟩) h.1
   rcases List.mem_cons.1 hy with hy2 | hy2
   ·exact absurd (List.mem_map.2 ⟨x,hx2,by rw [hxy,hy2]⟩) h.1
   exact ih h.2 hx2 hy2
theorem Zft {B:Bk} (h:Uv B) (seq n:Int):Uv (Vt B seq n).2:=by
 unfold Vt
 cases hf:Z2 B.offs seq with
 | none=>exact h
 | some o=>
   simp only
   split
   ·exact h
   split
   ·exact List.Nodup.sublist (List.Sublist.map _ (List.eraseIdx_sublist ..)) h
   unfold Uv
   simp only
   rw [List.map_set]
   rcases Zaa seq B.offs 0 with ⟨_,h2⟩ | ⟨j,hj,h1,h2⟩
   ·rw [hf] at h2;cases h2
   rw [hf] at h2
   injection h2 with h2
   have hj2:(Ze6 B.offs seq).toNat=j:=by unfold Ze6;rw [h1];simp
   rw [hj2]
   have:(B.offs.map Off.seq).set j o.seq=B.offs.map Off.seq:=by
    apply List.ext_getElem?
    intro i
    by_cases hi:j=i
    ·subst hi
     rw [List.getElem?_set_self (by simpa using hj),List.getElem?_map,List.getElem?_eq_getElem hj,h2];rfl
    rw [List.getElem?_set_ne hi]
   show ((B.offs.map Off.seq).set j o.seq).Nodup
   rw [this]
   exact h
theorem Zbi {L:Led} {B:Bk} (h:Uv B) (seq taker to n:Int):Uv (doR L B seq taker to n).2.2.2:=by
 unfold doR
 split
 ·exact h
 exact Zft h seq n
theorem Zkp {L:Led} {B:Bk} (h:OkB B) (seq taker to n:Int):OkB (doR L B seq taker to n).2.2.2:=by
 unfold doR
 split
 ·exact h
 exact ok_take h seq n
theorem Zmq {L:Led} {B:Bk} (h:WF L) (seq taker to n:Int):WF (doR L B seq taker to n).2.2.1:=by
 unfold doR
 split
 ·exact h
 split
 ·exact Zh7 h _ _ _ _
 exact Zh7 (Zh7 h _ _ _ _) _ _ _ _
end Go.Proofs.YtipjchbdogmccaaGreat
