/- What may be filled may be done; one more may not: the plain law. Places, plainly: fill by fill. -/
import Derived.Test.YtipjchbdogmccaaGreatDo
import Derived.Test.YtipjchbdogmccaaGreatPlace1
namespace Go.Proofs.YtipjchbdogmccaaGreat
theorem Zky {a num den:Int} (ha:0<=a) (hn:0<=num) (hd:1<=den) (hq:a*num / den<=9223372036854775807):byR a num den=(a*num / den,a*num%den,0):=by
 unfold byR
 rw [if_neg (by omega),if_neg (by omega)]
theorem byR_over {a num den:Int} (ha:0<=a) (hn:0<=num) (hd:1<=den) (hq:¬a*num / den<=9223372036854775807):byR a num den=(0,0,10):=by
 unfold byR
 rw [if_neg (by omega),if_pos (by omega)]
theorem Zix {g num den:Int} (hm:Xp num den=true) (h0:0<=g):Zbj g num den=min (g*den / num) 1099511627776:=by
 have hb:=hm
 unfold Xp at hb
 rw [decide_eq_true_eq] at hb
 unfold Zbj Zai MA
 rw [if_neg (by rw [hm];simp;omega)]
 by_cases hq:g*den / num<=9223372036854775807
 ·rw [Zky h0 (by omega) (by omega) hq]
  simp only [↓reduceIte]
 rw [byR_over h0 (by omega) (by omega) hq]
 simp only
 rw [if_neg (by decide)]
 omega
theorem Zge {g num den:Int} (h0:g<0):Zbj g num den=0:=by
 unfold Zbj
 rw [if_pos (Or.inl h0)]
theorem up_le {g n num den:Int} (hm:Xp num den=true) (hn:0<=n) (hg:g<=1099511627776) (h:n*num<=g*den):(Zag n num den).1<=g:=by
 have hb:=hm
 unfold Xp at hb
 rw [decide_eq_true_eq] at hb
 have hd0:(0:Int)<den:=by omega
 have hq:n*num / den<=g:=by
  have:=Int.ediv_le_ediv hd0 h
  rw [Int.mul_ediv_cancel _ (by omega)] at this
  exact this
 unfold Zag
 rw [if_pos hm]
 unfold upR Zai
 rw [Zky hn (by omega) (by omega) (by omega)]
 simp only
 split
 ·rename_i hr
  have hlt:n*num / den<g:=by
   rcases Int.lt_or_eq_of_le hq with hl | he
   ·exact hl
   have hdm:=Int.emod_add_mul_ediv (n*num) den
   rw [he,Int.mul_comm den g] at hdm
   omega
  unfold Zn3
  rw [if_neg (by omega)]
  simp only
  omega
 exact hq
theorem Zmg {g n num den:Int} (hm:Xp num den=true) (h0:0<=g) (h:n<=Zbj g num den):n*num<=g*den:=by
 have hb:=hm
 unfold Xp at hb
 rw [decide_eq_true_eq] at hb
 rw [Zix hm h0] at h
 have h1:n<=g*den / num:=by omega
 exact Int.le_trans (Int.mul_le_mul_of_nonneg_right h1 (by omega)) (Int.ediv_mul_le _ (by omega))
theorem Zp7 (g num den:Int):0<=Zbj g num den:=by
 by_cases h0:g<0
 ·rw [Zge h0];exact Int.le_refl _
 by_cases hm:Xp num den=true
 ·have hb:=hm
  unfold Xp at hb
  rw [decide_eq_true_eq] at hb
  rw [Zix hm (by omega)]
  have:0<=g*den / num:=Int.ediv_nonneg (Int.mul_nonneg (by omega) (by omega)) (by omega)
  omega
 unfold Zbj
 rw [if_pos (Or.inr (by simpa using hm))]
 exact Int.le_refl _
theorem fits_mono {g g' num den:Int} (hm:Xp num den=true) (h:g<=g'):Zbj g num den<=Zbj g' num den:=by
 have hb:=hm
 unfold Xp at hb
 rw [decide_eq_true_eq] at hb
 by_cases h0:g<0
 ·rw [Zge h0];exact Zp7 _ _ _
 rw [Zix hm (by omega),Zix hm (by omega)]
 have:g*den / num<=g' * den / num:=Int.ediv_le_ediv (by omega) (Int.mul_le_mul_of_nonneg_right h (by omega))
 omega
theorem Zgk (a b c d:Int):Zep a b c d 4=min (min (min (min 1099511627776 a) b) c) d:=rfl
theorem Zo7 {L:Led} {B:Bk} {seq taker to want most:Int} (h:Yi B.offs seq=none):Yz L B seq taker to want most=0:=by
 unfold Yz;rw [h]
theorem Zfz {L:Led} {B:Bk} {seq taker to want most:Int} {o:Off} (h:Yi B.offs seq=some o):
 Yz L B seq taker to want most=if okT (some o) (Yu L) taker to want most then max (Zep want o.left (Zkk L o to) (Zbi L o taker most) 4) 0 else 0:=by
 unfold Yz;rw [h]
theorem Zna (L:Led) (B:Bk) (seq taker to want most:Int):0<=Yz L B seq taker to want most/\Yz L B seq taker to want most<=max want 0/\Yz L B seq taker to want most<=1099511627776:=by
 cases hf:Yi B.offs seq with
 | none=>rw [Zo7 hf];omega
 | some o=>
   rw [Zfz hf,Zgk]
   split<;>omega
theorem Zf0 {L:Led} {B:Bk} {seq taker to want most:Int} (hB:OkB B) (h1:1<=Yz L B seq taker to want most):
 ∃given,(doR L B seq taker to (Yz L B seq taker to want most)).1=(seq,taker,to,Yz L B seq taker to want most,given)/\(doR L B seq taker to (Yz L B seq taker to want most)).2.1=0/\given<=most:=by
 cases hf:Yi B.offs seq with
 | none=>rw [Zo7 hf] at h1;omega
 | some o=>
   have hoo:=hB o (Vi hf).1
   obtain ⟨r1,r2,hm⟩:=Zb1 hoo
   have hs:=Zfz (L:=L) (taker:=taker) (to:=to) (want:=want) (most:=most) hf
   generalize hn:Yz L B seq taker to want most=n at *
   by_cases hok:okT (some o) (Yu L) taker to want most=true
   ·rw [if_pos hok,Zgk] at hs
    have hfit:n<=Zbi L o taker most:=by omega
    have hg0:0<=Us L o taker most:=by
     by_cases h0:Us L o taker most<0
     ·have:Zbi L o taker most=0:=by unfold Zbi;exact Zge h0
      omega
     omega
    have hok2:okT (some o) (Yu L) taker to n 1099511627776=true:=by
     unfold okT at hok ⊢
     simp only [Bool.and_eq_true,decide_eq_true_eq] at hok ⊢
     exact ⟨⟨hok.1.1,by omega⟩,by omega⟩
    have hmore:Zbi L o taker most<=Zbi L o taker 1099511627776:=by
     unfold Zbi
     exact fits_mono hm (by unfold Us;omega)
    have hmay2:¬(n<1\/Yz L B seq taker to n 1099511627776<n):=by
     rw [Zfz hf,if_pos hok2,Zgk]
     omega
    unfold doR
    rw [if_neg hmay2,hf]
    refine ⟨_,rfl,rfl,?_⟩
    simp only [Option.getD_some]
    have hle:=up_le (g:=Us L o taker most) (n:=n) hm (by omega) (by unfold Us;omega) (Zmg hm hg0 hfit)
    have:Us L o taker most<=most:=by unfold Us;omega
    omega
   rw [if_neg hok] at hs
   omega
abbrev Fl:=Int×Int×Int×Int×Int
theorem Zhx (L:Led) (B:Bk) (o:Off):∀l,(U6 L B o l).2=0\/(0<(U6 L B o l).2/\(U6 L B o l).2=Yz L B (U6 L B o l).1 o.owner o.owner 1099511627776 o.left)
 | []=>.inl rfl
 | y::l=>by
   unfold U6
   split
   ·exact .inl rfl
   split
   ·rename_i h;exact .inr ⟨h,rfl⟩
   exact Zhx L B o l
def Yc (o:Off):Nat->Led->Bk->Int->List Fl->Int×Led×Bk×Int×List Fl
 | 0,L,B,left,all=>(0,L,B,left,all)
 | f+1,L,B,left,all=>
   if left<=0 then (0,L,B,left,all)
   else if (Vd L B { o with left:=left }).2=0 then (0,L,B,left,all)
   else if all.length=64 then (13,L,B,left,all)
   else Yc o f (doR L B (Vd L B { o with left:=left }).1 o.owner o.owner (Vd L B { o with left:=left }).2).2.2.1 (doR L B (Vd L B { o with left:=left }).1 o.owner o.owner (Vd L B { o with left:=left }).2).2.2.2
    (left-(doR L B (Vd L B { o with left:=left }).1 o.owner o.owner (Vd L B { o with left:=left }).2).1.2.2.2.2) (all++[(doR L B (Vd L B { o with left:=left }).1 o.owner o.owner (Vd L B { o with left:=left }).2).1])
theorem Zra {n num den:Int} (hn:0<=n):0<=(Zag n num den).1:=by
 unfold Zag
 split
 ·rename_i hm
  unfold Xp at hm
  rw [decide_eq_true_eq] at hm
  have hq:0<=n*num / den:=Int.ediv_nonneg (Int.mul_nonneg hn (by omega)) (by omega)
  have h1:0<=(byR n num den).1:=by
   unfold byR
   rw [if_neg (by omega)]
   split
   ·exact Int.le_refl _
   exact hq
  unfold upR Zai
  split
  ·unfold Zn3
   split
   ·exact Int.le_refl _
   simp only;omega
  exact h1
 exact Int.le_refl _
theorem Zio (L:Led) (B:Bk) (seq taker to n:Int):0<=(doR L B seq taker to n).1.2.2.2.2:=by
 unfold doR
 split
 ·exact Int.le_refl _
 rename_i h
 exact Zra (by omega)
def Zan (B:Bk):Prop:=(B.offs.map Off.seq).Nodup
theorem Zan.b {B:Bk} (h:Zan B):SeqB B.offs:=by
 unfold Zan at h
 generalize B.offs=l at *
 intro x hx y hy hxy
 induction l with
 | nil=>cases hx
 | cons z l ih=>
   rw [List.map_cons,List.nodup_cons] at h
   rcases List.mem_cons.1 hx with hx2 | hx2
   ·rcases List.mem_cons.1 hy with hy2 | hy2
    ·rw [hx2,hy2]
    exact absurd (List.mem_map.2 ⟨y,hy2,by rw [<-hxy,hx2]⟩) h.1
   rcases List.mem_cons.1 hy with hy2 | hy2
   ·exact absurd (List.mem_map.2 ⟨x,hx2,by rw [hxy,hy2]⟩) h.1
   exact ih h.2 hx2 hy2
theorem Zgu {B:Bk} (h:Zan B) (seq n:Int):Zan (Ji B seq n).2:=by
 unfold Ji
 cases hf:Yi B.offs seq with
 | none=>exact h
 | some o=>
   simp only
   split
   ·exact h
   split
   ·exact List.Nodup.sublist (List.Sublist.map _ (List.eraseIdx_sublist ..)) h
   unfold Zan
   simp only
   rw [List.map_set]
   rcases Zcn seq B.offs 0 with ⟨_,h2⟩ | ⟨j,hj,h1,h2⟩
   ·rw [hf] at h2;cases h2
   rw [hf] at h2
   injection h2 with h2
   have hj2:(Zim B.offs seq).toNat=j:=by unfold Zim;rw [h1];simp
   rw [hj2]
   have:(B.offs.map Off.seq).set j o.seq=B.offs.map Off.seq:=by
    apply List.ext_getElem?
    intro i
    by_cases hi:j=i
    ·subst hi
     rw [List.getElem?_set_self (by simpa using hj),List.getElem?_map,List.getElem?_eq_getElem hj,h2];rfl
    rw [List.getElem?_set_ne hi]
   show ((B.offs.map Off.seq).set j o.seq).Nodup
   rw [this]
   exact h
theorem Zm2 {L:Led} {B:Bk} (h:Zan B) (seq taker to n:Int):Zan (doR L B seq taker to n).2.2.2:=by
 unfold doR
 split
 ·exact h
 exact Zgu h seq n
theorem Zox {L:Led} {B:Bk} (h:OkB B) (seq taker to n:Int):OkB (doR L B seq taker to n).2.2.2:=by
 unfold doR
 split
 ·exact h
 exact ok_take h seq n
theorem Zob {L:Led} {B:Bk} (h:WF L) (seq taker to n:Int):WF (doR L B seq taker to n).2.2.1:=by
 unfold doR
 split
 ·exact h
 split
 ·exact Zgp h _ _ _ _
 exact Zgp (Zgp h _ _ _ _) _ _ _ _
end Go.Proofs.YtipjchbdogmccaaGreat
