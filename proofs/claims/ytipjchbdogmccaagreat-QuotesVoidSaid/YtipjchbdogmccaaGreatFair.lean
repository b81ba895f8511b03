/- Chains of fills, each of the first offer of which something may be filled: the plain law. Fair: what is given is the ceiling of a rate times what is got. -/
import Derived.Test.YtipjchbdogmccaaGreatSwap5
import Derived.Test.YtipjchbdogmccaaGreatLines
import Derived.Test.YtipjchbdogmccaaGreatDiv
import Derived.Shelf.Spec.BitsCarry
namespace Go.Proofs.YtipjchbdogmccaaGreat
open Go.RowKit
structure FairP (got given num den:Int):Prop where
 g1:1<=got
 g2:got<=1099511627776
 h1:1<=given
 h2:given<=1099511627776
 n1:1<=num
 n2:num<=1099511627776
 d1:1<=den
 d2:den<=1099511627776
 lo:got*num<=given*den
 hi:given*den<got*num+den
theorem up_fair {g n num den:Int} (hm:Xl num den=true) (hn:1<=n) (hn2:n<=1099511627776) (hg:g<=1099511627776) (h:n*num<=g*den):FairP n (J4 n num den).1 num den/\(J4 n num den).1<=g:=by
 have hb:=hm
 unfold Xl at hb
 rw [decide_eq_true_eq] at hb
 have hle:=up_le hm (by omega) hg h
 have hd0:(0:Int)<den:=by omega
 have hq:n*num / den<=g:=by
  have:=Int.ediv_le_ediv hd0 h
  rw [Int.mul_ediv_cancel _ (by omega)] at this
  exact this
 have hdm:=Int.emod_add_mul_ediv (n*num) den
 have hr0:=Int.emod_nonneg (n*num) (show den≠0 by omega)
 have hr1:=Int.emod_lt_of_pos (n*num) hd0
 have key:n*num<=(J4 n num den).1*den/\(J4 n num den).1*den<n*num+den:=by
  unfold J4
  rw [if_pos hm]
  unfold upR J9
  rw [Zj4 (by omega) (by omega) (by omega) (by omega)]
  simp only [true_and]
  generalize n*num / den=q at *
  generalize n*num%den=r at *
  generalize n*num=x at *
  split
  ·unfold Znp
   rw [if_neg (by omega)]
   simp only
   rw [Int.add_mul,Int.mul_comm q den]
   omega
  simp only
  rw [Int.mul_comm q den]
  omega
 refine ⟨⟨hn,hn2,?_,by omega,by omega,by omega,by omega,by omega,key.1,key.2⟩,hle⟩
 have h1:1*1<=n*num:=Int.mul_le_mul hn (by omega) (by omega) (by omega)
 by_cases hz:1<=(J4 n num den).1
 ·exact hz
 have h2:(J4 n num den).1*den<=0*den:=Int.mul_le_mul_of_nonneg_right (by omega) (by omega)
 rw [Int.zero_mul] at h2
 omega
structure FillP (L:Led) (B:Bk) (o:Off) (f:Fl) (L':Led) (B':Bk):Prop where
 doo:doR L B f.1 f.2.1 f.2.2.1 f.2.2.2.1=(f,0,L',B')
 fnd:Yk B.offs f.1=some o
 fair:FairP f.2.2.2.1 f.2.2.2.2 o.num o.den
 own:o.owner≠f.2.1
 left:f.2.2.2.1<=o.left
 has1:Yr L o.owner=true
 has2:Yr L f.2.1=true
 has3:Yr L f.2.2.1=true
 wf:WF L'
 par:L'.par=L.par
 lims:L'.lines.map (fun x=>(x.1,x.2.1))=L.lines.map (fun x=>(x.1,x.2.1))
 pos:∀p c,Zf0 L' p c=Zf0 L p c+mvP p c o.owner f.2.2.1 o.sell f.2.2.2.1+mvP p c f.2.1 o.owner o.buy f.2.2.2.2
 bk:B'=(Ja B f.1 f.2.2.2.1).2
theorem Zm8 {L:Led} {p:Int} (h:Yr L p=true):Zm p=true:=by
 unfold Yr at h
 rw [Bool.and_eq_true] at h
 exact h.1
theorem Zjo {L L':Led} (h:L'.par=L.par) (p:Int):Yr L' p=Yr L p:=by unfold Yr;rw [h]
theorem fill_ok {L:Led} {B:Bk} {seq taker to n:Int} {o:Off} (hw:WF L) (hB:OkB B) (hf:Yk B.offs seq=some o) (h1:1<=n) (hn:n<=Yl L B seq taker to n 1099511627776):
 FillP L B o (seq,taker,to,n,(J4 n o.num o.den).1) (doR L B seq taker to n).2.2.1 (doR L B seq taker to n).2.2.2:=by
 have hoo:=hB o (Vc hf).1
 obtain ⟨r1,r2,hm⟩:=Zbj hoo
 have hoo2:=hoo
 unfold Xr at hoo2
 rw [decide_eq_true_eq] at hoo2
 have hs:=Zbl (L:=L) (taker:=taker) (to:=to) (want:=n) (most:=1099511627776) hf
 by_cases hok:okT (some o) (Yr L) taker to n 1099511627776=true
 ·rw [if_pos hok,Zbt] at hs
  have hok2:=hok
  unfold okT at hok2
  simp only [Bool.and_eq_true,Bool.not_eq_true',decide_eq_true_eq,beq_eq_false_iff_ne,ne_eq] at hok2
  obtain ⟨⟨⟨⟨⟨q1,q2⟩,q3⟩,q4⟩,_⟩,_⟩:=hok2
  have hfit:n<=Za9 L o taker 1099511627776:=by omega
  have hleft:n<=o.left:=by omega
  have hgo:n<=Zjq L o to:=by omega
  have hg0:0<=Ug L o taker 1099511627776:=by
   by_cases h0:Ug L o taker 1099511627776<0
   ·have:Za9 L o taker 1099511627776=0:=by unfold Za9;exact Zfa h0
    omega
   omega
  obtain ⟨hfair,hgv⟩:=up_fair (g:=Ug L o taker 1099511627776) (n:=n) hm h1 (by omega) (by unfold Ug;omega) (Zl6 hm hg0 hfit)
  have hgm:Ug L o taker 1099511627776<=Zd0 (ofR L o.buy) taker o.owner:=by unfold Ug;omega
  have hdo:doR L B seq taker to n=((seq,taker,to,n,(J4 n o.num o.den).1),0,(U5 (if to=o.owner then L else (U5 L o.owner to o.sell n).2) taker o.owner o.buy (J4 n o.num o.den).1).2,(Ja B seq n).2):=by
   unfold doR
   rw [if_neg (by omega),hf]
   rfl
  have p1:=Zm8 q2
  have p2:=Zm8 q3
  have p3:=Zm8 q4
  -- the first payment
  have w1:WayP L (if to=o.owner then L else (U5 L o.owner to o.sell n).2) o.owner to o.sell n:=by
   by_cases ht:to=o.owner
   ·rw [if_pos ht,ht]
    exact WayP.self hw _ _ _
   rw [if_neg ht]
   refine (pay_ok hw o.owner to o.sell n ?_ q2 q4 ?_).2
   ·unfold Zkv
    simp only [p1,p3,Bool.true_and,Bool.not_eq_false',Bool.and_eq_true,Bool.not_eq_true',beq_eq_false_iff_ne,ne_eq,decide_eq_true_eq]
    exact ⟨⟨⟨⟨fun e=>ht e.symm,by omega⟩,by omega⟩,by omega⟩,by omega⟩
   unfold Zjq at hgo
   rw [if_neg ht] at hgo
   exact hgo
  generalize (if to=o.owner then L else (U5 L o.owner to o.sell n).2)=L1 at *
  have w2:=pay_ok w1.wf taker o.owner o.buy (J4 n o.num o.den).1 (by
   unfold Zkv
   have:=hfair.h1
   have:=hfair.h2
   simp only [p1,p2,Bool.true_and,Bool.not_eq_false',Bool.and_eq_true,Bool.not_eq_true',beq_eq_false_iff_ne,ne_eq,decide_eq_true_eq]
   exact ⟨⟨⟨⟨fun e=>q1 e.symm,by omega⟩,by omega⟩,by omega⟩,by omega⟩) (by rw [Zjo w1.par];exact q3) (by rw [Zjo w1.par];exact q2)
   (by rw [w1.other o.buy (fun e=>by omega)];omega)
  rw [hdo]
  refine ⟨by rw [hdo],hf,hfair,q1,hleft,q2,q3,q4,w2.2.wf,w2.2.par.trans w1.par,w2.2.lims.trans w1.lims,fun p c=> ?_,rfl⟩
  show Zf0 (U5 L1 taker o.owner o.buy (J4 n o.num o.den).1).2 p c=_
  rw [w2.2.pos,w1.pos]
 rw [if_neg hok] at hs
 omega
structure StepOk (get give:Int) (L:Led) (B:Bk) (want most:Int) (o:Off) (f:Fl) (L':Led) (B':Bk):Prop where
 fill:FillP L B o f L' B'
 best:∃j,∃hj:j<(X0 B.offs get give).length,(X0 B.offs get give)[j]'hj=o/\∀i (hi:i<j),((X0 B.offs get give)[i]'(by omega)).seq≠f.1/\Yl L B ((X0 B.offs get give)[i]'(by omega)).seq f.2.1 f.2.2.1 want most=0
 may:Yl L B f.1 f.2.1 f.2.2.1 want most=f.2.2.2.1
 want:f.2.2.2.1<=want
 most:f.2.2.2.2<=most
def Zb7 (get give:Int) (falls:Bool):List Fl->Led->Bk->Int->Int->Led->Bk->Prop
 | [],L,B,_,_,L',B'=>L=L'/\B=B'
 | f::l,L,B,want,most,L',B'=>∃o L1 B1,StepOk get give L B want most o f L1 B1/\Zb7 get give falls l L1 B1 (if falls then want else want-f.2.2.2.1) (if falls then most-f.2.2.2.2 else most) L' B'
theorem Zc2 {B:Bk} (h:Jm B) {o:Off} (ho:o∈B.offs):Yk B.offs o.seq=some o:=by
 cases hf:Yk B.offs o.seq with
 | none=>
   unfold Yk at hf
   have:=List.find?_eq_none.1 hf o ho
   simp at this
 | some x=>
   have hx:=Vc hf
   rw [h.b x hx.1 o ho hx.2]
theorem Zsb {B:Bk} (h:Jm B) (get give:Int):((X0 B.offs get give).map Off.seq).Nodup:=by
 have h1:((B.offs.filter fun o=>o.sell==get&&o.buy==give).map Off.seq).Nodup:=List.Nodup.sublist (List.Sublist.map _ (List.filter_sublist)) h
 exact ((Zeo B.offs get give).map Off.seq).nodup_iff.2 h1
theorem Zon {L:Led} {B:Bk} {seq taker to want most:Int} (hB:OkB B) (h1:1<=Yl L B seq taker to want most):
 Yl L B seq taker to want most<=Yl L B seq taker to (Yl L B seq taker to want most) 1099511627776:=by
 obtain ⟨given,hd1,hd2,_⟩:=Zbm (L:=L) (B:=B) (seq:=seq) (taker:=taker) (to:=to) (want:=want) (most:=most) hB h1
 generalize Yl L B seq taker to want most=n at *
 by_cases h:n<1\/Yl L B seq taker to n 1099511627776<n
 ·unfold doR at hd2
  rw [if_pos h] at hd2
  simp at hd2
 omega
theorem Zhx {get give want most taker to:Int} {L:Led} {B:Bk} {o:Off} (hw:WF L) (hB:OkB B) (hS:Jm B) (j:Nat) (hj:j<(X0 B.offs get give).length) (ho:(X0 B.offs get give)[j]'hj=o)
 (h1:1<=Yl L B o.seq taker to want most) (hb:∀i (hi:i<j),¬0<Yl L B ((X0 B.offs get give)[i]'(by omega)).seq taker to want most):
 StepOk get give L B want most o (doR L B o.seq taker to (Yl L B o.seq taker to want most)).1 (doR L B o.seq taker to (Yl L B o.seq taker to want most)).2.2.1 (doR L B o.seq taker to (Yl L B o.seq taker to want most)).2.2.2/\
 (doR L B o.seq taker to (Yl L B o.seq taker to want most)).1.2.1=taker/\(doR L B o.seq taker to (Yl L B o.seq taker to want most)).1.2.2.1=to:=by
 have hmem:o∈B.offs:=by
  have:o∈X0 B.offs get give:=by rw [<-ho];exact List.getElem_mem hj
  exact (Zlq this).1
 have hf:=Zc2 hS hmem
 have hle:=Zon hB h1
 have hbd:=Zmw L B o.seq taker to want most
 obtain ⟨given,hd1,_,hd3⟩:=Zbm (L:=L) (B:=B) (seq:=o.seq) (taker:=taker) (to:=to) (want:=want) (most:=most) hB h1
 generalize hn:Yl L B o.seq taker to want most=n at *
 have hfill:=fill_ok hw hB hf h1 hle
 have hd:=hfill.doo
 simp only at hd
 have hd1':(doR L B o.seq taker to n).1=(o.seq,taker,to,n,(J4 n o.num o.den).1):=by rw [hd]
 have hg:(J4 n o.num o.den).1=given:=by
  rw [hd1'] at hd1
  simp only [Prod.mk.injEq,true_and] at hd1
  exact hd1
 rw [hd1']
 refine ⟨⟨hfill,⟨j,hj,ho,fun i hi=>⟨?_,?_⟩⟩,hn,by simp only;omega,by simp only;omega⟩,rfl,rfl⟩
 ·simp only
  have hnd:=Zsb hS get give
  intro e
  rw [<-ho] at e
  rw [List.nodup_iff_pairwise_ne,List.pairwise_iff_getElem] at hnd
  have:=hnd i j (by simp;omega) (by simpa using hj) hi
  simp only [List.getElem_map] at this
  exact this e
 have:=Zmw L B ((X0 B.offs get give)[i]'(by omega)).seq taker to want most
 have:=hb i hi
 simp only
 omega
def gotS (l:List Fl):Int:=X2 (l.map fun f=>f.2.2.2.1)
def gvS (l:List Fl):Int:=X2 (l.map fun f=>f.2.2.2.2)
theorem Zac (fr to get give:Int):∀(f:Nat) (L:Led) (B:Bk) (n:Int) (all:List Fl),WF L->OkB B->Jm B->all.length+f=65->all.length<=64->(Yd fr to get give f L B n all).1=0->
 ∃l,(Yd fr to get give f L B n all).2.2.2.2=all++l/\Zb7 get give false l L B n 1099511627776 (Yd fr to get give f L B n all).2.1 (Yd fr to get give f L B n all).2.2.1/\(∀x∈l,x.2.1=fr/\x.2.2.1=to)/\
  (Yd fr to get give f L B n all).2.2.2.1<=0/\(Yd fr to get give f L B n all).2.2.2.1=n-gotS l/\(0<=n->0<=(Yd fr to get give f L B n all).2.2.2.1)/\all.length+l.length<=64
 | 0,L,B,n,all,_,_,_,h1,h2,_=>by omega
 | f+1,L,B,n,all,hw,hB,hS,h1,h2,h0=>by
   unfold Yd at h0 ⊢
   by_cases hn:n<=0
   ·rw [if_pos hn]
    exact ⟨[],by simp,⟨rfl,rfl⟩,by simp,hn,by simp [gotS,X2],fun h=>h,by simpa using h2⟩
   rw [if_neg hn] at h0 ⊢
   cases hfl:V4 L B fr to get give n with
   | none=>rw [hfl] at h0;simp at h0
   | some o=>
     rw [hfl] at h0
     simp only at h0 ⊢
     by_cases hl:all.length=64
     ·rw [if_pos hl] at h0;simp at h0
     rw [if_neg hl] at h0 ⊢
     unfold V4 at hfl
     rw [List.find?_eq_some_iff_getElem] at hfl
     obtain ⟨hp,j,hj,hjo,hb⟩:=hfl
     have hp':1<=Yl L B o.seq fr to n 1099511627776:=by have h:=hp;rw [decide_eq_true_eq] at h;omega
     obtain ⟨hst,ht1,ht2⟩:=Zhx (get:=get) (give:=give) (want:=n) (most:=1099511627776) (taker:=fr) (to:=to) hw hB hS j hj hjo hp' (fun i hi=>by
      have:=hb i hi
      simpa using this)
     have hwf2:=Zkx (B:=B) hw o.seq fr to (Yl L B o.seq fr to n 1099511627776)
     have hok2:=Zlk (L:=L) hB o.seq fr to (Yl L B o.seq fr to n 1099511627776)
     have hsn2:=Zhy (L:=L) hS o.seq fr to (Yl L B o.seq fr to n 1099511627776)
     have hwt:=hst.want
     generalize doR L B o.seq fr to (Yl L B o.seq fr to n 1099511627776)=d at *
     obtain ⟨l,k1,k2,k3,k4,k5,k6,k7⟩:=Zac fr to get give f d.2.2.1 d.2.2.2 (n-d.1.2.2.2.1) (all++[d.1]) hwf2 hok2 hsn2 (by simp;omega) (by simp;omega) h0
     refine ⟨d.1::l,by rw [k1];simp,⟨o,d.2.2.1,d.2.2.2,hst,k2⟩,fun x hx=> ?_,k4,?_,fun _=>k6 (by omega),by simp at k7 ⊢;omega⟩
     ·rcases List.mem_cons.1 hx with rfl | hx
      ·exact ⟨ht1,ht2⟩
      exact k3 x hx
     rw [k5]
     unfold gotS
     simp only [List.map_cons,X2]
     omega
theorem Zil {L:Led} {B:Bk} {fr to get give n most:Int} (hw:WF L) (hB:OkB B) (hS:Jm B) (h0:(Z4 L B fr to get give n most).1=0):
 Zb7 get give false (Z4 L B fr to get give n most).2.2.2 L B n 1099511627776 (Z4 L B fr to get give n most).2.1 (Z4 L B fr to get give n most).2.2.1/\(∀x∈(Z4 L B fr to get give n most).2.2.2,x.2.1=fr/\x.2.2.1=to)/\
 gotS (Z4 L B fr to get give n most).2.2.2=n/\Y1 (Z4 L B fr to get give n most).2.2.2<=most/\(Z4 L B fr to get give n most).2.2.2.length<=64/\1<=n/\(Ys fr&&Ys to&&Xy get&&Xy give&& !(get==give)&&Yn n&&Yn most)=true/\Yr L fr=true/\Yr L to=true:=by
 unfold Z4 at h0 ⊢
 by_cases c1:(Ys fr&&Ys to&&Xy get&&Xy give&& !(get==give)&&Yn n&&Yn most)=false
 ·rw [if_pos c1] at h0;simp at h0
 rw [if_neg c1] at h0 ⊢
 by_cases c2:(Yr L fr&&Yr L to)=false
 ·rw [if_pos c2] at h0;simp at h0
 rw [if_neg c2] at h0 ⊢
 by_cases c3:(Yd fr to get give 65 L B n []).1≠0
 ·rw [if_pos c3] at h0;exact absurd h0 c3
 rw [if_neg c3] at h0 ⊢
 by_cases c4:most<Y1 (Yd fr to get give 65 L B n []).2.2.2.2
 ·rw [if_pos c4] at h0;simp at h0
 rw [if_neg c4]
 obtain ⟨l,k1,k2,k3,k4,k5,k6,k7⟩:=Zac fr to get give 65 L B n [] hw hB hS (by simp) (by simp) (by by_cases e:(Yd fr to get give 65 L B n []).1=0;exact e;exact absurd e c3)
 have c1':(Ys fr&&Ys to&&Xy get&&Xy give&& !(get==give)&&Yn n&&Yn most)=true:=by rwa [Bool.not_eq_false] at c1
 have c2':(Yr L fr&&Yr L to)=true:=by rwa [Bool.not_eq_false] at c2
 have hn1:1<=n:=by
  simp only [Bool.and_eq_true,Yn,decide_eq_true_eq] at c1'
  omega
 rw [List.nil_append] at k1
 rw [k1] at c4 ⊢
 have:=k6 (by omega)
 rw [Bool.and_eq_true] at c2'
 exact ⟨k2,k3,by omega,by omega,by simp at k7;exact k7,hn1,c1',c2'.1,c2'.2⟩
theorem Zai {n:Int} (h0:0<=n) (h1:n<18446744073709551616):IntKind.u64.wrap n=n:=by rw [IntKind.wrap_u64];omega
theorem Zob {s n:Int} (h0:0<=s) (h1:0<=n) (h2:s+n<=9223372036854775807):J6 (0,s) n=(0,s+n):=by
 unfold J6
 simp only
 rw [Zai (n:=n) h1 (by omega),show n / 9223372036854775808=0 by omega,Zai (n:=0) (by omega) (by omega),show (s+n) / 18446744073709551616=0 by omega,show (s+n)%18446744073709551616=s+n by omega]
 rfl
theorem Zhe:∀(l:List Int) (s:Int),0<=s->(∀x∈l,0<=x)->s+X2 l<=9223372036854775807->l.foldl J6 (0,s)=(0,s+X2 l)/\0<=X2 l
 | [],s,_,_,_=>by simp [X2]
 | x::l,s,h0,h1,h2=>by
   have hx:=h1 x (by simp)
   have hpos:∀l:List Int,(∀x∈l,0<=x)->0<=X2 l:=by
    intro l
    induction l with
    | nil=>intro _;simp [X2]
    | cons y l ih=>intro h;have:=ih (fun z hz=>h z (by simp [hz]));have:=h y (by simp);simp only [X2];omega
   have h3:=hpos l (fun z hz=>h1 z (by simp [hz]))
   simp only [X2] at h2 ⊢
   have ih:=Zhe l (s+x) (by omega) (fun z hz=>h1 z (by simp [hz])) (by omega)
   rw [List.foldl_cons,Zob h0 hx (by omega),ih.1]
   exact ⟨by rw [Int.add_assoc],by omega⟩
theorem Zl2 {l:List Fl} (h:∀f∈l,0<=f.2.2.2.2) (h2:gvS l<=9223372036854775807):Y1 l=gvS l:=by
 unfold Y1 Zp6 Zcc
 obtain ⟨e,h3⟩:=Zhe (l.map fun f=>f.2.2.2.2) 0 (by omega) (fun x hx=>by obtain ⟨f,hf,rfl⟩:=List.mem_map.1 hx;exact h f hf) (by unfold gvS at h2;omega)
 rw [e]
 unfold gvS at *
 unfold sumW wrap64
 simp only [Int.zero_add]
 generalize X2 (l.map fun f=>f.2.2.2.2)=s at *
 rw [show (s+9223372036854775808)%18446744073709551616-9223372036854775808=s by omega,show s / 9223372036854775808=0 by omega,Zai (n:=0) (by omega) (by omega)]
 rfl
open Go.RowKit Go.Rg Go.BigFrame
end Go.Proofs.YtipjchbdogmccaaGreat
