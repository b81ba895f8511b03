/- What may be filled may be done; one more may not: the plain law. Places, plainly: fill by fill. -/
import Derived.Test.YtipjchbdogmccaaGreatDo
import Derived.Test.YtipjchbdogmccaaGreatPlace1
namespace Go.Proofs.YtipjchbdogmccaaGreat
theorem Zj4 {a num den:Int} (ha:0<=a) (hn:0<=num) (hd:1<=den) (hq:a*num / den<=9223372036854775807):byR a num den=(a*num / den,a*num%den,0):=by
 unfold byR
 rw [if_neg (by omega),if_neg (by omega)]
theorem byR_over {a num den:Int} (ha:0<=a) (hn:0<=num) (hd:1<=den) (hq:¬a*num / den<=9223372036854775807):byR a num den=(0,0,10):=by
 unfold byR
 rw [if_neg (by omega),if_pos (by omega)]
theorem Zh6 {g num den:Int} (hm:Xl num den=true) (h0:0<=g):Zba g num den=min (g*den / num) 1099511627776:=by
 have hb:=hm
 unfold Xl at hb
 rw [decide_eq_true_eq] at hb
 unfold Zba J9 MA
 rw [if_neg (by rw [hm];simp;omega)]
 by_cases hq:g*den / num<=9223372036854775807
 ·rw [Zj4 h0 (by omega) (by omega) hq]
  simp only [↓reduceIte]
 rw [byR_over h0 (by omega) (by omega) hq]
 simp only
 rw [if_neg (by decide)]
 omega
theorem Zfa {g num den:Int} (h0:g<0):Zba g num den=0:=by
 unfold Zba
 rw [if_pos (Or.inl h0)]
theorem up_le {g n num den:Int} (hm:Xl num den=true) (hn:0<=n) (hg:g<=1099511627776) (h:n*num<=g*den):(J4 n num den).1<=g:=by
 have hb:=hm
 unfold Xl at hb
 rw [decide_eq_true_eq] at hb
 have hd0:(0:Int)<den:=by omega
 have hq:n*num / den<=g:=by
  have:=Int.ediv_le_ediv hd0 h
  rw [Int.mul_ediv_cancel _ (by omega)] at this
  exact this
 unfold J4
 rw [if_pos hm]
 unfold upR J9
 rw [Zj4 hn (by omega) (by omega) (by omega)]
 simp only
 split
 ·rename_i hr
  have hlt:n*num / den<g:=by
   rcases Int.lt_or_eq_of_le hq with hl | he
   ·exact hl
   have hdm:=Int.emod_add_mul_ediv (n*num) den
   rw [he,Int.mul_comm den g] at hdm
   omega
  unfold Znp
  rw [if_neg (by omega)]
  simp only
  omega
 exact hq
theorem Zl6 {g n num den:Int} (hm:Xl num den=true) (h0:0<=g) (h:n<=Zba g num den):n*num<=g*den:=by
 have hb:=hm
 unfold Xl at hb
 rw [decide_eq_true_eq] at hb
 rw [Zh6 hm h0] at h
 have h1:n<=g*den / num:=by omega
 exact Int.le_trans (Int.mul_le_mul_of_nonneg_right h1 (by omega)) (Int.ediv_mul_le _ (by omega))
theorem Zpc (g num den:Int):0<=Zba g num den:=by
 by_cases h0:g<0
 ·rw [Zfa h0];exact Int.le_refl _
 by_cases hm:Xl num den=true
 ·have hb:=hm
  unfold Xl at hb
  rw [decide_eq_true_eq] at hb
  rw [Zh6 hm (by omega)]
  have:0<=g*den / num:=Int.ediv_nonneg (Int.mul_nonneg (by omega) (by omega)) (by omega)
  omega
 unfold Zba
 rw [if_pos (Or.inr (by simpa using hm))]
 exact Int.le_refl _
theorem fits_mono {g g' num den:Int} (hm:Xl num den=true) (h:g<=g'):Zba g num den<=Zba g' num den:=by
 have hb:=hm
 unfold Xl at hb
 rw [decide_eq_true_eq] at hb
 by_cases h0:g<0
 ·rw [Zfa h0];exact Zpc _ _ _
 rw [Zh6 hm (by omega),Zh6 hm (by omega)]
 have:g*den / num<=g' * den / num:=Int.ediv_le_ediv (by omega) (Int.mul_le_mul_of_nonneg_right h (by omega))
 omega
theorem Zbt (a b c d:Int):Zdu a b c d 4=min (min (min (min 1099511627776 a) b) c) d:=rfl
theorem Ze1 {L:Led} {B:Bk} {seq taker to want most:Int} (h:Yk B.offs seq=none):Yl L B seq taker to want most=0:=by
 unfold Yl;rw [h]
theorem Zbl {L:Led} {B:Bk} {seq taker to want most:Int} {o:Off} (h:Yk B.offs seq=some o):
 Yl L B seq taker to want most=if okT (some o) (Yr L) taker to want most then max (Zdu want o.left (Zjq L o to) (Za9 L o taker most) 4) 0 else 0:=by
 unfold Yl;rw [h]
theorem Zmw (L:Led) (B:Bk) (seq taker to want most:Int):0<=Yl L B seq taker to want most/\Yl L B seq taker to want most<=max want 0/\Yl L B seq taker to want most<=1099511627776:=by
 cases hf:Yk B.offs seq with
 | none=>rw [Ze1 hf];omega
 | some o=>
   rw [Zbl hf,Zbt]
   split<;>omega
theorem Zbm {L:Led} {B:Bk} {seq taker to want most:Int} (hB:OkB B) (h1:1<=Yl L B seq taker to want most):
 ∃given,(doR L B seq taker to (Yl L B seq taker to want most)).1=(seq,taker,to,Yl L B seq taker to want most,given)/\(doR L B seq taker to (Yl L B seq taker to want most)).2.1=0/\given<=most:=by
 cases hf:Yk B.offs seq with
 | none=>rw [Ze1 hf] at h1;omega
 | some o=>
   have hoo:=hB o (Vc hf).1
   obtain ⟨r1,r2,hm⟩:=Zbj hoo
   have hs:=Zbl (L:=L) (taker:=taker) (to:=to) (want:=want) (most:=most) hf
   generalize hn:Yl L B seq taker to want most=n at *
   by_cases hok:okT (some o) (Yr L) taker to want most=true
   ·rw [if_pos hok,Zbt] at hs
    have hfit:n<=Za9 L o taker most:=by omega
    have hg0:0<=Ug L o taker most:=by
     by_cases h0:Ug L o taker most<0
     ·have:Za9 L o taker most=0:=by unfold Za9;exact Zfa h0
      omega
     omega
    have hok2:okT (some o) (Yr L) taker to n 1099511627776=true:=by
     unfold okT at hok ⊢
     simp only [Bool.and_eq_true,decide_eq_true_eq] at hok ⊢
     exact ⟨⟨hok.1.1,by omega⟩,by omega⟩
    have hmore:Za9 L o taker most<=Za9 L o taker 1099511627776:=by
     unfold Za9
     exact fits_mono hm (by unfold Ug;omega)
    have hmay2:¬(n<1\/Yl L B seq taker to n 1099511627776<n):=by
     rw [Zbl hf,if_pos hok2,Zbt]
     omega
    unfold doR
    rw [if_neg hmay2,hf]
    refine ⟨_,rfl,rfl,?_⟩
    simp only [Option.getD_some]
    have hle:=up_le (g:=Ug L o taker most) (n:=n) hm (by omega) (by unfold Ug;omega) (Zl6 hm hg0 hfit)
    have:Ug L o taker most<=most:=by unfold Ug;omega
    omega
   rw [if_neg hok] at hs
   omega
abbrev Fl:=Int×Int×Int×Int×Int
theorem Zg3 (L:Led) (B:Bk) (o:Off):∀l,(Uu L B o l).2=0\/(0<(Uu L B o l).2/\(Uu L B o l).2=Yl L B (Uu L B o l).1 o.owner o.owner 1099511627776 o.left)
 | []=>.inl rfl
 | y::l=>by
   unfold Uu
   split
   ·exact .inl rfl
   split
   ·rename_i h;exact .inr ⟨h,rfl⟩
   exact Zg3 L B o l
def Ye (o:Off):Nat->Led->Bk->Int->List Fl->Int×Led×Bk×Int×List Fl
 | 0,L,B,left,all=>(0,L,B,left,all)
 | f+1,L,B,left,all=>
   if left<=0 then (0,L,B,left,all)
   else if (X7 L B { o with left:=left }).2=0 then (0,L,B,left,all)
   else if all.length=64 then (13,L,B,left,all)
   else Ye o f (doR L B (X7 L B { o with left:=left }).1 o.owner o.owner (X7 L B { o with left:=left }).2).2.2.1 (doR L B (X7 L B { o with left:=left }).1 o.owner o.owner (X7 L B { o with left:=left }).2).2.2.2
    (left-(doR L B (X7 L B { o with left:=left }).1 o.owner o.owner (X7 L B { o with left:=left }).2).1.2.2.2.2) (all++[(doR L B (X7 L B { o with left:=left }).1 o.owner o.owner (X7 L B { o with left:=left }).2).1])
theorem Zqg {n num den:Int} (hn:0<=n):0<=(J4 n num den).1:=by
 unfold J4
 split
 ·rename_i hm
  unfold Xl at hm
  rw [decide_eq_true_eq] at hm
  have hq:0<=n*num / den:=Int.ediv_nonneg (Int.mul_nonneg hn (by omega)) (by omega)
  have h1:0<=(byR n num den).1:=by
   unfold byR
   rw [if_neg (by omega)]
   split
   ·exact Int.le_refl _
   exact hq
  unfold upR J9
  split
  ·unfold Znp
   split
   ·exact Int.le_refl _
   simp only;omega
  exact h1
 exact Int.le_refl _
theorem Zhv (L:Led) (B:Bk) (seq taker to n:Int):0<=(doR L B seq taker to n).1.2.2.2.2:=by
 unfold doR
 split
 ·exact Int.le_refl _
 rename_i h
 exact Zqg (by omega)
def Jm (B:Bk):Prop:=(B.offs.map Off.seq).Nodup
theorem Jm.b {B:Bk} (h:Jm B):SeqB B.offs:=by
 unfold Jm at h
 generalize B.offs=l at *
 intro x hx y hy hxy
 induction l with
 | nil=>cases hx
 | cons z l ih=>
   rw [List.map_cons,List.nodup_cons] at h
   rcases List.mem_cons.1 hx with hx2 | hx2
   ·rcases List.mem_cons.1 hy with hy2 | hy2
    ·rw [hx2,hy2]
    exact absurd (List.mem_map.2 ⟨y,hy2,by rw [<-hxy,hx2]⟩) h.1
   rcases List.mem_cons.1 hy with hy2 | hy2
   ·exact absurd (List.mem_map.2 ⟨x,hx2,by rw [hxy,hy2]⟩) h.1
   exact ih h.2 hx2 hy2
theorem Zfu {B:Bk} (h:Jm B) (seq n:Int):Jm (Ja B seq n).2:=by
 unfold Ja
 cases hf:Yk B.offs seq with
 | none=>exact h
 | some o=>
   simp only
   split
   ·exact h
   split
   ·exact List.Nodup.sublist (List.Sublist.map _ (List.eraseIdx_sublist ..)) h
   unfold Jm
   simp only
   rw [List.map_set]
   rcases Zb2 seq B.offs 0 with ⟨_,h2⟩ | ⟨j,hj,h1,h2⟩
   ·rw [hf] at h2;cases h2
   rw [hf] at h2
   injection h2 with h2
   have hj2:(Zht B.offs seq).toNat=j:=by unfold Zht;rw [h1];simp
   rw [hj2]
   have:(B.offs.map Off.seq).set j o.seq=B.offs.map Off.seq:=by
    apply List.ext_getElem?
    intro i
    by_cases hi:j=i
    ·subst hi
     rw [List.getElem?_set_self (by simpa using hj),List.getElem?_map,List.getElem?_eq_getElem hj,h2];rfl
    rw [List.getElem?_set_ne hi]
   show ((B.offs.map Off.seq).set j o.seq).Nodup
   rw [this]
   exact h
theorem Zhy {L:Led} {B:Bk} (h:Jm B) (seq taker to n:Int):Jm (doR L B seq taker to n).2.2.2:=by
 unfold doR
 split
 ·exact h
 exact Zfu h seq n
theorem Zlk {L:Led} {B:Bk} (h:OkB B) (seq taker to n:Int):OkB (doR L B seq taker to n).2.2.2:=by
 unfold doR
 split
 ·exact h
 exact ok_take h seq n
theorem Zkx {L:Led} {B:Bk} (h:WF L) (seq taker to n:Int):WF (doR L B seq taker to n).2.2.1:=by
 unfold doR
 split
 ·exact h
 split
 ·exact Zie h _ _ _ _
 exact Zie (Zie h _ _ _ _) _ _ _ _
end Go.Proofs.YtipjchbdogmccaaGreat
