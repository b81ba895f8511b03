/- A way round, plain: sixteen times through all edges; where something still changes the last time, the way back goes round along edges that there are. Debts that go round, plain: the least that may be owed. Net, plain: debts of a currency that go round are cancelled. A machine, plain: what a step does, what a command does; what it keeps. DERIVED: THE SHELF's CONTRACTS AT THIS DUMP, IN PLAIN WORDS (tools/lay-plain.mjs out of 'TryzSort.lean', which tools/lay-shelf.mjs wrote): THE SAME DECLARATIONS UNDER THE SAME NAMES: 'import', 'namespace', 'open', 'def', 'theorem' AND NOTHING ELSE: no command of the shelf's: FOR A HAND-IN. Each laying: the table of numbers ('.._ren') and one theorem, a field a fact of the dump's own or the kernel's comparison; each contract: ONE APPLICATION. Debts that go round, walked: their order; may they be? Debts that go round, walked: may they be? A way round, walked: edges that may be; none is struck; a copy. A way round, walked: the least one, where it is, lists joined. A way round, walked: once through all edges. A way round, walked: a list turned round; two lists joined. A way round, walked: two lists joined. A way round, walked: Round. -/
import Derived.Test.YtipjchbdogmccaaGreatShelf
import Derived.Test.YtipjchbdogmccaaGreatLines
import Derived.Test.YtipjchbdogmccaaGreatWf
import Derived.Test.YtipjchbdogmccaaGreatWhP
import Derived.Shelf.SlGeneric
import Derived.Shelf.SlSortCmp.WholeK
import Derived.Shelf.SlSortCmp.NoneTotal
import Derived.Ground.SlsfProg
import Derived.Test.YtipjchbdogmccaaGreatProg
import Derived.Test.YtipjchbdogmccaaGreatMade
import Derived.Test.YtipjchbdogmccaaGreatStands
import Derived.Test.YtipjchbdogmccaaGreatHop3
import Derived.Test.YtipjchbdogmccaaGreatAgain2
import Derived.Test.YtipjchbdogmccaaGreatAll
import Derived.Lib.AppendZerosOnto
import Derived.Test.YtipjchbdogmccaaGreatSwap5
import Derived.WalkMore
set_option maxHeartbeats 6400000
set_option maxRecDepth 100000
namespace Go.Proofs.YtipjchbdogmccaaGreat
abbrev Ed:=Int×Int×Int
def gI (l:List Int) (i:Int):Int:=l.getD i.toNat 0
theorem Znc (l:List Int) (i j x:Int) (hi:i.toNat<l.length):gI (l.set i.toNat x) j=if j.toNat=i.toNat then x else gI l j:=by
 unfold gI
 rw [List.getD_eq_getElem?_getD,List.getElem?_set,List.getD_eq_getElem?_getD]
 by_cases h:i.toNat=j.toNat
 ·rw [if_pos h,if_pos h.symm,if_pos hi];rfl
 rw [if_neg h,if_neg (fun e=>h e.symm)]
def Yo (s:List Int×List Int×Int) (e:Ed):List Int×List Int×Int:=
 if gI s.1 e.1+e.2.2<gI s.1 e.2.1 then (s.1.set e.2.1.toNat (gI s.1 e.1+e.2.2),s.2.1.set e.2.1.toNat e.1,e.2.1) else s
def Uk (es:List Ed) (d a:List Int):List Int×List Int×Int:=es.foldl Yo (d,a,0)
def Vp (es:List Ed):Nat->List Int->List Int->Int->List Int×Int
 | 0,_,a,x=>(a,x)
 | n+1,d,a,_=>if (Uk es d a).2.2=0 then ((Uk es d a).2.1,0) else Vp es n (Uk es d a).1 (Uk es d a).2.1 (Uk es d a).2.2
def EOk (es:List Ed):Prop:=∀e∈es,1<=e.1/\e.1<=16/\1<=e.2.1/\e.2.1<=16/\e.1≠e.2.1/\ -1<=e.2.2/\e.2.2<=1
structure BF (es:List Ed) (T:Nat) (d a:List Int) (tm:Int->Nat):Prop where
 ld:d.length=17
 la:a.length=17
 up:∀v,tm v<=T
 ed:∀v,0<tm v->∃c,(gI a v,v,c)∈es
 ch:∀v,0<tm v->tm v<=es.length\/tm v<tm (gI a v)+es.length
 re:∀i (hi:i<es.length) p,1<=p->p<=T->(p-1)%es.length=i->tm (es[i]'hi).1<=p->gI d (es[i]'hi).2.1<=gI d (es[i]'hi).1+(es[i]'hi).2.2
theorem BF.step {es:List Ed} {T:Nat} {d a:List Int} {tm:Int->Nat} (h:BF es T d a tm) (hok:EOk es) (i:Nat) (hi:i<es.length) (hT:T%es.length=i) (x:Int) (T0:Nat) (hT0:T0<=T) (hx:x=0\/(T0<tm x/\1<=x/\x<=16)):
 ∃tm',BF es (T+1) (Yo (d,a,x) (es[i]'hi)).1 (Yo (d,a,x) (es[i]'hi)).2.1 tm'/\((Yo (d,a,x) (es[i]'hi)).2.2=0\/(T0<tm' (Yo (d,a,x) (es[i]'hi)).2.2/\1<=(Yo (d,a,x) (es[i]'hi)).2.2/\(Yo (d,a,x) (es[i]'hi)).2.2<=16)):=by
 have hmem:=List.getElem_mem hi
 obtain ⟨u1,u2,v1,v2,huv,_,_⟩:=hok _ hmem
 have hri:=fun j (hj:j<es.length) (e:j=i)=>(show es[j]'hj=es[i]'hi by subst e;rfl)
 generalize hE:(es[i]'hi)=e at *
 obtain ⟨u,v,c⟩:=e
 simp only at u1 u2 v1 v2 huv
 unfold Yo
 try simp only
 by_cases hc:gI d u+c<gI d v
 ·rw [if_pos hc]
  try simp only
  have hvl:v.toNat<d.length:=by rw [h.ld];omega
  have hvl2:v.toNat<a.length:=by rw [h.la];omega
  have hD:∀w,gI (d.set v.toNat (gI d u+c)) w=if w=v then gI d u+c else gI d w:=fun w=>by
   rw [Znc _ _ _ _ hvl]
   by_cases e:w=v
   ·rw [if_pos e,if_pos (by rw [e])]
   rw [if_neg e,if_neg (by omega)]
  have hA:∀w,gI (a.set v.toNat u) w=if w=v then u else gI a w:=fun w=>by
   rw [Znc _ _ _ _ hvl2]
   by_cases e:w=v
   ·rw [if_pos e,if_pos (by rw [e])]
   rw [if_neg e,if_neg (by omega)]
  have hle:∀w,tm w<=(if w=v then T+1 else tm w):=fun w=>by
   have:=h.up w
   split<;>omega
  refine ⟨fun w=>if w=v then T+1 else tm w,⟨by rw [List.length_set];exact h.ld,by rw [List.length_set];exact h.la,fun w=> ?_,fun w hw=> ?_,fun w hw=> ?_,fun j hj p p1 p2 p3 p4=> ?_⟩,.inr ⟨by simp only [if_true];omega,v1,v2⟩⟩
  ·have:=h.up w
   try simp only
   split<;>omega
  ·rw [hA]
   by_cases e:w=v
   ·rw [if_pos e,e]
    exact ⟨c,hmem⟩
   simp only [if_neg e] at hw
   rw [if_neg e]
   exact h.ed w hw
  ·rw [hA]
   try simp only at hw ⊢
   by_cases e:w=v
   ·rw [if_pos e,if_pos e,if_neg huv]
    by_cases hm:T+1<=es.length
    ·exact .inl hm
    right
    have hp:=h.re i hi (T+1-es.length) (by omega) (by omega) (by
     rw [show T+1-es.length-1=T-es.length by omega,<-hT]
     exact (Nat.mod_eq_sub_mod (by omega)).symm)
    rw [hE] at hp
    try simp only at hp
    by_cases hq:tm u<=T+1-es.length
    ·have:=hp hq
     omega
    omega
   rw [if_neg e,if_neg e]
   simp only [if_neg e] at hw
   rcases h.ch w hw with k | k
   ·exact .inl k
   have:=hle (gI a w)
   right
   omega
  try simp only at p4
  rw [hD,hD]
  by_cases e:(es[j]'hj).1=v
  ·rw [if_pos e] at p4
   have hpT:p=T+1:=by omega
   have hji:j=i:=by rw [<-p3,hpT,<-hT];rfl
   rw [hri j hj hji] at e
   exact absurd e huv
  rw [if_neg e] at p4 ⊢
  by_cases hpT:p=T+1
  ·have hji:j=i:=by rw [<-p3,hpT,<-hT];rfl
   rw [hri j hj hji]
   simp only [if_true]
   omega
  have:=h.re j hj p p1 (by omega) p3 p4
  split
  ·rename_i e2
   rw [e2] at this
   omega
  exact this
 rw [if_neg hc]
 try simp only
 refine ⟨tm,⟨h.ld,h.la,fun w=>by have:=h.up w;omega,h.ed,h.ch,fun j hj p p1 p2 p3 p4=> ?_⟩,hx⟩
 by_cases hpT:p=T+1
 ·have hji:j=i:=by rw [<-p3,hpT,<-hT];rfl
  rw [hri j hj hji]
  try simp only
  omega
 exact h.re j hj p p1 (by omega) p3 p4
theorem BF.pass {es:List Ed} {n:Nat} {d a:List Int} {tm:Int->Nat} (h:BF es (n*es.length) d a tm) (hok:EOk es):∀k,k<=es.length->∃tm',BF es (n*es.length+k) ((es.take k).foldl Yo (d,a,0)).1 ((es.take k).foldl Yo (d,a,0)).2.1 tm'/\
 (((es.take k).foldl Yo (d,a,0)).2.2=0\/(n*es.length<tm' ((es.take k).foldl Yo (d,a,0)).2.2/\1<=((es.take k).foldl Yo (d,a,0)).2.2/\((es.take k).foldl Yo (d,a,0)).2.2<=16))
 | 0,_=>⟨tm,by simpa using h,.inl (by simp)⟩
 | k+1,hk=>by
   obtain ⟨tm1,h1,h2⟩:=BF.pass h hok k (by omega)
   rw [List.take_succ_eq_append_getElem (by omega),List.foldl_append]
   generalize (es.take k).foldl Yo (d,a,0)=s at *
   obtain ⟨d1,a1,x1⟩:=s
   simp only at h1 h2
   simp only [List.foldl_cons,List.foldl_nil]
   have hT:(n*es.length+k)%es.length=k:=by rw [Nat.mul_comm,Nat.mul_add_mod];exact Nat.mod_eq_of_lt (by omega)
   exact BF.step h1 hok k (by omega) hT x1 _ (by omega) h2
theorem bf_go {es:List Ed} (hok:EOk es):∀(n k:Nat) (d a:List Int) (x:Int) (tm:Int->Nat),BF es (k*es.length) d a tm->n+k=16->(k=0\/((k-1)*es.length<tm x/\1<=x/\x<=16))->(Vp es n d a x).2≠0->
 ∃d' tm',BF es (16*es.length) d' (Vp es n d a x).1 tm'/\15*es.length<tm' (Vp es n d a x).2/\1<=(Vp es n d a x).2/\(Vp es n d a x).2<=16
 | 0,k,d,a,x,tm,h,hn,hx,h0=>by
   have hk:k=16:=by omega
   subst hk
   rcases hx with hx | ⟨h1,h2,h3⟩
   ·omega
   exact ⟨d,tm,h,h1,h2,h3⟩
 | n+1,k,d,a,x,tm,h,hn,hx,h0=>by
   obtain ⟨tm1,h1,h2⟩:=BF.pass h hok es.length (Nat.le_refl _)
   rw [List.take_length] at h1 h2
   unfold Vp at h0 ⊢
   by_cases hz:(Uk es d a).2.2=0
   ·rw [if_pos hz] at h0;exact absurd rfl h0
   rw [if_neg hz] at h0 ⊢
   unfold Uk at *
   rcases h2 with h2 | h2
   ·exact absurd h2 hz
   refine bf_go hok n (k+1) _ _ _ tm1 (by rw [Nat.succ_mul];exact h1) (by omega) (.inr ?_) h0
   rw [Nat.add_sub_cancel]
   exact h2
def Zy (a:List Int):Nat->Int->Int
 | 0,x=>x
 | n+1,x=>Zy a n (gI a x)
theorem X6 (a:List Int):∀(n:Nat) (x:Int),Zy a (n+1) x=gI a (Zy a n x)
 | 0,_=>rfl
 | n+1,x=>by
   show Zy a (n+1) (gI a x)=gI a (Zy a (n+1) x)
   rw [X6 a n (gI a x)]
   rfl
theorem Jl (a:List Int) (m:Nat):∀(n:Nat) (x:Int),Zy a (n+m) x=Zy a m (Zy a n x)
 | 0,_=>by rw [Nat.zero_add];rfl
 | n+1,x=>by
   rw [show n+1+m=(n+m)+1 by omega]
   show Zy a (n+m) (gI a x)=Zy a m (Zy a n (gI a x))
   exact Jl a m n _
theorem Zqs:∀(n:Nat) (f:Nat->Nat),(∀i,i<=n->f i<n)->∃i j,i<j/\j<=n/\f i=f j
 | 0,f,h=>absurd (h 0 (Nat.le_refl _)) (by omega)
 | n+1,f,h=>by
   by_cases hx:∃i,i<=n/\f i=f (n+1)
   ·obtain ⟨i,h1,h2⟩:=hx
    exact ⟨i,n+1,by omega,Nat.le_refl _,h2⟩
   obtain ⟨i,j,h1,h2,h3⟩:=Zqs n (fun i=>if f (n+1)<f i then f i-1 else f i) (fun i hi=>by
    have h1:=h i (by omega)
    have h2:=h (n+1) (Nat.le_refl _)
    have h3:f i≠f (n+1):=fun e=>hx ⟨i,hi,e⟩
    try simp only
    split<;>omega)
   refine ⟨i,j,h1,by omega,?_⟩
   have h4:f i≠f (n+1):=fun e=>hx ⟨i,by omega,e⟩
   have h5:f j≠f (n+1):=fun e=>hx ⟨j,h2,e⟩
   try simp only at h3
   split at h3<;>split at h3<;>omega
structure Rnd (es:List Ed) (a:List Int) (x:Int):Prop where
 len:a.length=17
 ok:∀n,1<=Zy a n x/\Zy a n x<=16
 ed:∀n,∃c,(gI a (Zy a n x),Zy a n x,c)∈es
 per:∃P,Zy a (P+1) x=x
theorem bf_round {es:List Ed} (hok:EOk es) {d a:List Int} {tm:Int->Nat} {T:Nat} {x:Int} (h:BF es T d a tm) (hx:15*es.length<tm x) (hx1:1<=x) (hx2:x<=16):Rnd es a (Zy a 16 x):=by
 have hm:0<es.length:=by
  obtain ⟨c,hc⟩:=h.ed x (by omega)
  exact List.length_pos_of_mem hc
 have hch:∀j,j<=15->(15-j)*es.length<tm (Zy a j x):=by
  intro j
  induction j with
  | zero=>intro _;exact hx
  | succ j ih=>
    intro hj
    have h1:=ih (by omega)
    rw [X6]
    have h3:(15-j)*es.length=(15-(j+1))*es.length+es.length:=by
     rw [show 15-j=(15-(j+1))+1 by omega,Nat.succ_mul]
    rcases h.ch (Zy a j x) (by omega) with h2 | h2
    ·have h4:es.length<=(15-j)*es.length:=by rw [h3];omega
     omega
    omega
 have hpos:∀j,j<=15->0<tm (Zy a j x):=fun j hj=>by have:=hch j hj;omega
 have hin:∀j,j<=16->1<=Zy a j x/\Zy a j x<=16:=by
  intro j hj
  cases j with
  | zero=>exact ⟨hx1,hx2⟩
  | succ j=>
    rw [X6]
    obtain ⟨c,hc⟩:=h.ed _ (hpos j (by omega))
    have:=hok _ hc
    exact ⟨this.1,this.2.1⟩
 obtain ⟨i,j,hij,hj,hf⟩:=Zqs 16 (fun k=>(Zy a k x).toNat-1) (fun k hk=>by have:=hin k hk;(try simp only);omega)
 try simp only at hf
 have hij2:Zy a i x=Zy a j x:=by have:=hin i (by omega);have:=hin j hj;omega
 have hper:∀n,Zy a (i+n+(j-i)) x=Zy a (i+n) x:=fun n=>by
  rw [show i+n+(j-i)=j+n by omega,Jl a n j x,Jl a n i x,hij2]
 -- behind i all lie between i and j
 have hall:∀n,∃k,i<=k/\k<j/\Zy a (i+n) x=Zy a k x:=by
  intro n
  induction n using Nat.strongRecOn with
  | _ n ih=>
    by_cases hn:i+n<j
    ·exact ⟨i+n,by omega,hn,rfl⟩
    obtain ⟨k,h1,h2,h3⟩:=ih (n-(j-i)) (by omega)
    refine ⟨k,h1,h2,?_⟩
    rw [<-h3,<-hper (n-(j-i)),show i+(n-(j-i))+(j-i)=i+n by omega]
 have hgo:∀n,Zy a n (Zy a 16 x)=Zy a (i+(16-i+n)) x:=fun n=>by rw [<-Jl a n 16 x,show 16+n=i+(16-i+n) by omega]
 refine ⟨h.la,fun n=> ?_,fun n=> ?_,⟨j-i-1,?_⟩⟩
 ·rw [hgo]
  obtain ⟨k,_,h2,h3⟩:=hall (16-i+n)
  rw [h3]
  exact hin k (by omega)
 ·rw [hgo]
  obtain ⟨k,_,h2,h3⟩:=hall (16-i+n)
  rw [h3]
  exact h.ed _ (hpos k (by omega))
 rw [hgo,show i+(16-i+(j-i-1+1))=i+(16-i)+(j-i) by omega,hper,show i+(16-i)=16 by omega]
def V6 (a:List Int):Nat->List Int->Int->List Int
 | 0,l,_=>l
 | n+1,l,x=>if x∈l then l else V6 a n (l++[x]) (gI a x)
theorem rnd_inj {es:List Ed} {a:List Int} {x:Int} (h:Rnd es a x) {i j:Nat} (e:Zy a (i+1) x=Zy a (j+1) x):Zy a i x=Zy a j x:=by
 obtain ⟨P,hP⟩:=h.per
 have hp:∀n,Zy a (n+1+P) x=Zy a n x:=fun n=>by
  rw [show n+1+P=(P+1)+n by omega,Jl a n (P+1) x,hP]
 rw [<-hp i,<-hp j,Jl a P (i+1) x,Jl a P (j+1) x,e]
structure Coll (a:List Int) (x:Int) (l:List Int):Prop where
 at':∀k (hk:k<l.length),l[k]'hk=Zy a k x
 nd:∀i j,i<j->j<l.length->Zy a i x≠Zy a j x
theorem Zj0 {es:List Ed} {a:List Int} {x:Int} (h:Rnd es a x) {l:List Int} (hc:Coll a x l):l.length<=16:=by
 by_cases hl:l.length<=16
 ·exact hl
 exfalso
 obtain ⟨i,j,h1,h2,h3⟩:=Zqs 16 (fun k=>(Zy a k x).toNat-1) (fun k _=>by have:=h.ok k;(try simp only);omega)
 try simp only at h3
 have:=h.ok i
 have:=h.ok j
 exact hc.nd i j h1 (by omega) (by omega)
theorem Zmc {es:List Ed} {a:List Int} {x:Int} (_h:Rnd es a x) {l:List Int} (hc:Coll a x l) (hx:Zy a l.length x∉l):Coll a x (l++[Zy a l.length x]):=by
 refine ⟨fun k hk=> ?_,fun i j hij hj=> ?_⟩
 ·by_cases hkl:k<l.length
  ·rw [List.getElem_append_left hkl]
   exact hc.at' k hkl
  have:k=l.length:=by simp at hk;omega
  subst this
  simp
 by_cases hjl:j<l.length
 ·exact hc.nd i j hij hjl
 have:j=l.length:=by simp at hj;omega
 subst this
 intro e
 apply hx
 rw [<-e,<-hc.at' i hij]
 exact List.getElem_mem hij
theorem Znj {es:List Ed} {a:List Int} {x:Int} (h:Rnd es a x):∀(n:Nat) (l:List Int),Coll a x l->l.length+n=17->
 Coll a x (V6 a n l (Zy a l.length x))/\Zy a (V6 a n l (Zy a l.length x)).length x∈V6 a n l (Zy a l.length x)
 | 0,l,hc,hl=>by have:=Zj0 h hc;omega
 | n+1,l,hc,hl=>by
   unfold V6
   by_cases hx:Zy a l.length x∈l
   ·rw [if_pos hx]
    exact ⟨hc,hx⟩
   rw [if_neg hx]
   have ih:=Znj h n (l++[Zy a l.length x]) (Zmc h hc hx) (by simp;omega)
   rw [show (l++[Zy a l.length x]).length=l.length+1 by simp,X6] at ih
   exact ih
theorem Zpp {es:List Ed} {a:List Int} {x:Int} (h:Rnd es a x) {l:List Int} (hc:Coll a x l) (hx:Zy a l.length x∈l):Zy a l.length x=x/\0<l.length:=by
 obtain ⟨k,hk,e⟩:=List.getElem_of_mem hx
 rw [hc.at' k hk] at e
 cases k with
 | zero=>exact ⟨e.symm,hk⟩
 | succ k=>
   exfalso
   obtain ⟨m,hm⟩:∃m,l.length=m+1:=⟨l.length-1,by omega⟩
   rw [hm] at e
   exact hc.nd k m (by omega) (by omega) (rnd_inj h e)
def Cyc (es:List Ed) (l:List Int):Prop:=∀i (hi:i<l.length),∃c,(l[i]'hi,l[(i+1)%l.length]'(Nat.mod_lt _ (by omega)),c)∈es
def Ring (l:List Int):Prop:=∀x∈l,1<=x/\x<=16
theorem Zpq {es:List Ed} {a:List Int} {x:Int} (h:Rnd es a x) {l:List Int} (hc:Coll a x l) (hx:Zy a l.length x∈l):Cyc es l.reverse/\Ring l.reverse/\l.reverse≠[]:=by
 obtain ⟨he,h0⟩:=Zpp h hc hx
 refine ⟨fun i hi=> ?_,fun y hy=> ?_,fun e=> ?_⟩
 ·have hil:i<l.length:=by simpa using hi
  have hn:(i+1)%l.reverse.length=if i+1<l.length then i+1 else 0:=by
   rw [List.length_reverse]
   split
   ·exact Nat.mod_eq_of_lt (by assumption)
   rw [show i+1=l.length by omega,Nat.mod_self]
  have h1:l.reverse[i]'hi=Zy a (l.length-1-i) x:=by
   rw [List.getElem_reverse]
   exact hc.at' _ _
  have hget:∀q (hq:q<l.reverse.length),l.reverse[q]'hq=Zy a (l.length-1-q) x:=fun q hq=>by
   rw [List.getElem_reverse]
   exact hc.at' _ _
  rw [hget i hi,hget]
  by_cases hc1:i+1<l.length
  ·rw [hn,if_pos hc1]
   obtain ⟨c,hcc⟩:=h.ed (l.length-1-(i+1))
   refine ⟨c,?_⟩
   rw [show l.length-1-i=(l.length-1-(i+1))+1 by omega,X6]
   exact hcc
  rw [hn,if_neg hc1]
  obtain ⟨c,hcc⟩:=h.ed (l.length-1-0)
  refine ⟨c,?_⟩
  rw [<-X6,show l.length-1-0+1=l.length by omega,he] at hcc
  rw [show l.length-1-i=0 by omega]
  exact hcc
 ·rw [List.mem_reverse] at hy
  obtain ⟨k,hk,e⟩:=List.getElem_of_mem hy
  rw [<-e,hc.at' k hk]
  exact h.ok k
 rw [List.reverse_eq_nil_iff] at e
 rw [e] at h0
 simp at h0
def Zhq (l:List Int) (k:Nat):List Int:=l.drop k++l.take k
theorem rot_at (l:List Int) (k i:Nat) (hk:k<l.length) (hi:i<l.length):(Zhq l k)[i]'(by unfold Zhq;simp;omega)=l[(i+k)%l.length]'(Nat.mod_lt _ (by omega)):=by
 unfold Zhq
 by_cases h:i<l.length-k
 ·rw [List.getElem_append_left (by simpa using h),List.getElem_drop]
  congr 1
  rw [Nat.mod_eq_of_lt (by omega)];omega
 rw [List.getElem_append_right (by simpa using h),List.getElem_take]
 congr 1
 rw [List.length_drop,Nat.mod_eq_sub_mod (by omega),Nat.mod_eq_of_lt (by omega)];omega
theorem rot_len (l:List Int) (k:Nat) (hk:k<=l.length):(Zhq l k).length=l.length:=by unfold Zhq;simp;omega
theorem rot_cyc {es:List Ed} {l:List Int} (h:Cyc es l) (k:Nat) (hk:k<l.length):Cyc es (Zhq l k):=by
 intro i hi
 have hl:=rot_len l k (by omega)
 have hil:i<l.length:=by rw [<-hl];exact hi
 obtain ⟨c,hc⟩:=h ((i+k)%l.length) (Nat.mod_lt _ (by omega))
 refine ⟨c,?_⟩
 rw [rot_at l k i hk hil]
 have e2:(i+1)%(Zhq l k).length<l.length:=by rw [hl];exact Nat.mod_lt _ (by omega)
 rw [rot_at l k _ hk e2]
 have e3:((i+1)%(Zhq l k).length+k)%l.length=((i+k)%l.length+1)%l.length:=by
  rw [hl,Nat.mod_add_mod,Nat.mod_add_mod]
  congr 1
  omega
 have:∀p q (hp:p<l.length) (hq:q<l.length),p=q->l[p]'hp=l[q]'hq:=fun p q hp hq e=>by subst e;rfl
 rw [this _ _ _ (Nat.mod_lt _ (by omega)) e3]
 exact hc
theorem rot_ring {l:List Int} (h:Ring l) (k:Nat):Ring (Zhq l k):=fun x hx=>by
 unfold Zhq at hx
 rcases List.mem_append.1 hx with hx | hx
 ·exact h x (List.mem_of_mem_drop hx)
 exact h x (List.mem_of_mem_take hx)
def Zkp:List Int->Int
 | []=>0
 | x::l=>l.foldl min x
def Zoy (l:List Int) (x:Int):Nat:=l.findIdx (fun y=>y==x)
theorem Zol:∀(l:List Int) (x:Int),l.foldl min x=x\/l.foldl min x∈l
 | [],x=>.inl rfl
 | y::l,x=>by
   rw [List.foldl_cons]
   rcases Zol l (min x y) with h | h
   ·rw [h]
    by_cases hxy:x<=y
    ·left;omega
    right;rw [show min x y=y by omega];simp
   exact .inr (List.mem_cons_of_mem _ h)
theorem minL_in {l:List Int} (h:l≠[]):Zkp l∈l:=by
 cases l with
 | nil=>exact absurd rfl h
 | cons x l=>
   show l.foldl min x∈x::l
   rcases Zol l x with k | k
   ·rw [k];simp
   exact List.mem_cons_of_mem _ k
theorem Zm5 {l:List Int} (h:l≠[]):Zoy l (Zkp l)<l.length:=by
 unfold Zoy
 exact List.findIdx_lt_length_of_exists ⟨Zkp l,minL_in h,by simp⟩
def Zp:List Int:=List.replicate 17 0
def Vx (es:List Ed):List Int:=
 if (Vp es 16 Zp Zp 0).2=0 then []
 else Zhq (V6 (Vp es 16 Zp Zp 0).1 17 [] (Zy (Vp es 16 Zp Zp 0).1 16 (Vp es 16 Zp Zp 0).2)).reverse
  (Zoy (V6 (Vp es 16 Zp Zp 0).1 17 [] (Zy (Vp es 16 Zp Zp 0).1 16 (Vp es 16 Zp Zp 0).2)).reverse (Zkp (V6 (Vp es 16 Zp Zp 0).1 17 [] (Zy (Vp es 16 Zp Zp 0).1 16 (Vp es 16 Zp Zp 0).2)).reverse))
theorem Zpt (es:List Ed):BF es 0 Zp Zp (fun _=>0):=
 ⟨by simp [Zp],by simp [Zp],fun _=>Nat.le_refl _,fun _ h=>by simp at h,fun _ h=>by simp at h,fun i hi p p1 p2=>by omega⟩
theorem Zsa {es:List Ed} (hok:EOk es) (h:(Vp es 16 Zp Zp 0).2≠0):Rnd es (Vp es 16 Zp Zp 0).1 (Zy (Vp es 16 Zp Zp 0).1 16 (Vp es 16 Zp Zp 0).2):=by
 obtain ⟨d,tm,h1,h2,h3,h4⟩:=bf_go hok 16 0 Zp Zp 0 (fun _=>0) (by rw [Nat.zero_mul];exact Zpt es) rfl (.inl rfl) h
 exact bf_round hok h1 h2 h3 h4
theorem Zjz (a:List Int) (x:Int):Coll a x []:=⟨fun k hk=>by simp at hk,fun i j _ hj=>by simp at hj⟩
theorem roundR_ok {es:List Ed} (hok:EOk es):Cyc es (Vx es)/\Ring (Vx es):=by
 unfold Vx
 by_cases h:(Vp es 16 Zp Zp 0).2=0
 ·rw [if_pos h]
  exact ⟨fun i hi=>by simp at hi,fun x hx=>by simp at hx⟩
 rw [if_neg h]
 have hr:=Zsa hok h
 generalize Zy (Vp es 16 Zp Zp 0).1 16 (Vp es 16 Zp Zp 0).2=x at *
 generalize (Vp es 16 Zp Zp 0).1=a at *
 obtain ⟨h1,h2⟩:=Znj hr 17 [] (Zjz a x) rfl
 simp only [List.length_nil,Zy] at h1 h2
 obtain ⟨k1,k2,k3⟩:=Zpq hr h1 h2
 generalize (V6 a 17 [] x).reverse=l at *
 exact ⟨rot_cyc k1 _ (Zm5 k3),rot_ring k2 _⟩
open Go.RowKit Go.BigFrame
abbrev Fw:=Int×Int×Int
abbrev Db:=Int×Int×Int×Int
def db0:Db:=(0,0,0,0)
def Zd3 (d:Db):List Ed:=(if 0<d.2.2.1 then [(d.1,d.2.1,-1)] else [])++(if 0<d.2.2.2 then [(d.2.1,d.1,1)] else [])
def Xa (l:List Db):List Ed:=l.flatMap Zd3
def Va:List Db->Nat->Int->Int->Option (Nat×Bool)->Option (Nat×Bool)
 | [],_,_,_,r=>r
 | d::l,i,p,q,r=>if d.1=p/\d.2.1=q/\0<d.2.2.1 then some (i,false) else if d.1=q/\d.2.1=p/\0<d.2.2.2 then Va l (i+1) p q (some (i,true)) else Va l (i+1) p q r
def Zd1 (l:List Db) (s:Nat×Bool):Int:=if s.2 then (l.getD s.1 db0).2.2.2 else (l.getD s.1 db0).2.2.1
def addD (d:Db) (m:Int):Db:=(d.1,d.2.1,wrap64 (d.2.2.1-m),wrap64 (d.2.2.2+m))
def goD (n:Int) (l:List Db) (s:Nat×Bool):List Db:=l.set s.1 (addD (l.getD s.1 db0) (if s.2 then wrap64 (-n) else n))
def Up (l:List Db) (way:List Int):List (Nat×Bool):=(List.range way.length).map fun i=>(Va l 0 (way.getD i 0) (way.getD ((i+1)%way.length) 0) none).getD (0,false)
def Zfj (l:List Db) (ss:List (Nat×Bool)):Int:=ss.foldl (fun n s=>min n (Zd1 l s)) 1099511627776
def Zbx (l:List Db) (way:List Int):List Db:=(Up l way).foldl (goD (Zfj l (Up l way))) l
def Vi (quota:Int):Nat->List Db->Int->Int×List Db×Int
 | 0,l,many=>(13,l,many)
 | f+1,l,many=>if Vx (Xa l)=[] then (0,l,many) else if many=quota then (13,l,many) else Vi quota f (Zbx l (Vx (Xa l))) (many+1)
def Zat (x y:Fw):Int:=orI (Vo x.1 y.1) (Vo x.2.1 y.2.1)
def Zkr (x:Fw):Bool:=decide (1<=x.1/\x.1<=16/\1<=x.2.1/\x.2.1<=16/\x.1≠x.2.1/\1<=x.2.2/\x.2.2<=1099511627776)
def Zcq:Option Fw->List Fw->Bool
 | _,[]=>true
 | p,x::l=>Zkr x&&(match p with | none=>true | some y=>decide (Zat y x<0))&&Zcq (some x) l
def Zei (l:List Fw):Bool:=Zcq none l
def Y5 (l:List Fw) (quota:Int):Int×List Fw×Int:=
 if Zei l=false\/quota<0 then (1,[],0)
 else if (Vi quota (quota.toNat+1) (l.map fun x=>(x.1,x.2.1,x.2.2,0)) 0).1≠0 then (13,[],0)
 else (0,((Vi quota (quota.toNat+1) (l.map fun x=>(x.1,x.2.1,x.2.2,0)) 0).2.1.filter fun d=>decide (0<d.2.2.1)).map (fun d=>(d.1,d.2.1,d.2.2.1)),(Vi quota (quota.toNat+1) (l.map fun x=>(x.1,x.2.1,x.2.2,0)) 0).2.2)
theorem Zlr:∀{l:List Fw} {p:Option Fw},Zcq p l=true->∀x∈l,Zkr x=true
 | [],_,_=>by simp
 | x::l,p,h=>by
   unfold Zcq at h
   rw [Bool.and_eq_true,Bool.and_eq_true] at h
   intro y hy
   rcases List.mem_cons.1 hy with rfl | hy
   ·exact h.1.1
   exact Zlr h.2 y hy
def Zsh (l:List Db):Prop:=∀d∈l,1<=d.1/\d.1<=16/\1<=d.2.1/\d.2.1<=16/\d.1≠d.2.1
theorem ends_ok {l:List Db} (h:Zsh l):EOk (Xa l):=by
 intro e he
 unfold Xa at he
 rw [List.mem_flatMap] at he
 obtain ⟨d,hd,he⟩:=he
 obtain ⟨h1,h2,h3,h4,h5⟩:=h d hd
 unfold Zd3 at he
 rw [List.mem_append] at he
 rcases he with he | he
 ·split at he
  ·rw [List.mem_singleton] at he;subst he;exact ⟨h1,h2,h3,h4,h5,by simp,by simp⟩
  simp at he
 split at he
 ·rw [List.mem_singleton] at he;subst he;exact ⟨h3,h4,h1,h2,fun e=>h5 e.symm,by simp,by simp⟩
 simp at he
theorem ends_go {l:List Db} (h:Zsh l) (n:Int) (s:Nat×Bool):Zsh (goD n l s):=by
 unfold goD
 by_cases hs:s.1<l.length
 ·intro d hd
  rcases List.mem_or_eq_of_mem_set hd with hd | rfl
  ·exact h d hd
  rw [List.getD_eq_getElem?_getD,List.getElem?_eq_getElem hs]
  have:=h _ (List.getElem_mem hs)
  exact this
 rw [List.set_eq_of_length_le (by omega)]
 exact h
theorem goD_len (n:Int) (l:List Db) (s:Nat×Bool):(goD n l s).length=l.length:=by unfold goD;exact List.length_set
theorem Zrv {l:List Db} (h:Zsh l) (way:List Int):Zsh (Zbx l way)/\(Zbx l way).length=l.length:=by
 unfold Zbx
 generalize Zfj l (Up l way)=n
 generalize Up l way=ss
 induction ss generalizing l with
 | nil=>exact ⟨h,rfl⟩
 | cons s ss ih=>
   have:=ih (ends_go h n s)
   rw [goD_len] at this
   exact this
theorem Zft {p q:Int}:∀(l:List Db) (i:Nat) (r:Option (Nat×Bool)) (j:Nat) (b:Bool),Va l i p q r=some (j,b)->r=some (j,b)\/(i<=j/\j<i+l.length)
 | [],i,r,j,b,h=>.inl h
 | d::l,i,r,j,b,h=>by
   unfold Va at h
   split at h
   ·simp only [Option.some.injEq,Prod.mk.injEq] at h
    right
    simp only [List.length_cons]
    omega
   split at h
   ·rcases Zft l (i+1) _ j b h with h | h
    ·simp only [Option.some.injEq,Prod.mk.injEq] at h
     right
     simp only [List.length_cons]
     omega
    right
    simp only [List.length_cons]
    omega
   rcases Zft l (i+1) _ j b h with h | h
   ·exact .inl h
   right
   simp only [List.length_cons]
   omega
theorem Zea {p q:Int}:∀(l:List Db) (i:Nat) (r:Option (Nat×Bool)),r≠none->Va l i p q r≠none
 | [],_,_,h=>h
 | d::l,i,r,h=>by
   unfold Va
   split
   ·simp
   split
   ·exact Zea l (i+1) _ (by simp)
   exact Zea l (i+1) _ h
theorem Zio {p q c:Int}:∀(l:List Db) (i:Nat) (r:Option (Nat×Bool)),(p,q,c)∈Xa l->Va l i p q r≠none
 | [],i,r,h=>by simp [Xa] at h
 | d::l,i,r,h=>by
   unfold Xa at h
   rw [List.flatMap_cons,List.mem_append] at h
   unfold Va
   split
   ·simp
   rename_i h1
   split
   ·exact Zea l (i+1) _ (by simp)
   rename_i h2
   rcases h with h | h
   ·exfalso
    unfold Zd3 at h
    rw [List.mem_append] at h
    rcases h with h | h
    ·split at h
     ·simp only [List.mem_singleton,Prod.mk.injEq] at h
      exact h1 ⟨h.1.symm,h.2.1.symm,by assumption⟩
     simp at h
    split at h
    ·simp only [List.mem_singleton,Prod.mk.injEq] at h
     exact h2 ⟨h.2.1.symm,h.1.symm,by assumption⟩
    simp at h
   exact Zio l (i+1) r h
open Go.RowKit Go.BigFrame
def Zma (c:Int) (x:Ln):Option Fw:=if x.1.2.2=c/\0<x.2.2 then some (x.1.2.1,x.1.1,x.2.2) else none
def Zaz (x y:Fw):Bool:=decide (Zat x y<0)
def Vj (L:Led) (c:Int):List Fw:=Jb Zaz ((Z2 L.lines).filterMap (Zma c))
def leftOf (left:List Fw) (x:Fw):Int:=match left.find? (fun y=>y.1==x.1&&y.2.1==x.2.1) with
 | some y=>wrap64 (x.2.2-y.2.2)
 | none=>x.2.2
def J7 (left:List Fw) (c:Int):List Fw->Led->Int->Led×Int
 | [],L,g=>(L,g)
 | x::l,L,g=>if 0<leftOf left x then J7 left c l (Zao L x.2.1 x.1 c (leftOf left x)).2 (wrap64 (g+leftOf left x)) else J7 left c l L g
def Zbk (L:Led) (c quota:Int):Int×Int×Int×Led:=
 if c<1\/8<c then (0,0,1,L)
 else if (Y5 (Vj L c) quota).1≠0 then (0,0,(Y5 (Vj L c) quota).1,L)
 else ((J7 (Y5 (Vj L c) quota).2.1 c (Vj L c) L 0).2,(Y5 (Vj L c) quota).2.2,0,(J7 (Y5 (Vj L c) quota).2.1 c (Vj L c) L 0).1)
theorem Zif {left:List Fw} {c:Int}:∀{l:List Fw} {L:Led} {g:Int},WF L->WF (J7 left c l L g).1
 | [],_,_,h=>h
 | x::l,L,g,h=>by
   unfold J7
   split
   ·exact Zif (Zig h _ _ _ _)
   exact Zif h
theorem wf_net {L:Led} (h:WF L) (c quota:Int):WF (Zbk L c quota).2.2.2:=by
 unfold Zbk
 split
 ·exact h
 split
 ·exact h
 exact Zif h
theorem Zgb {x y:Fw}:Zaz x y=true↔x.1<y.1\/(x.1=y.1/\x.2.1<y.2.1):=by
 unfold Zaz Zat
 rw [decide_eq_true_eq,Zhz,Zas,Zdp,Zas]
theorem Zb1 {x y:Fw}:Zaz x y=false↔¬(x.1<y.1\/(x.1=y.1/\x.2.1<y.2.1)):=by
 rw [<-Bool.not_eq_true,Zgb]
theorem Zoq (x:Fw):Zaz x x=false:=by rw [Zb1];omega
theorem Zq4 (x y:Fw) (h:Zaz x y=true):Zaz y x=false:=by
 rw [Zgb] at h
 rw [Zb1]
 omega
theorem Zg7 (x y z:Fw) (h1:Zaz x y=false) (h2:Zaz y z=false):Zaz x z=false:=by
 rw [Zb1] at *
 omega
theorem Zq2 (x y z:Fw) (h1:Zaz x y=true) (h2:Zaz y z=true):Zaz x z=true:=by
 rw [Zgb] at *
 omega
def FwOne (l:List Fw):Prop:=∀x∈l,∀y∈l,x.1=y.1->x.2.1=y.2.1->x=y
theorem Zq3 {x y:Fw} (h1:Zaz x y=false) (h2:Zaz y x=false):x.1=y.1/\x.2.1=y.2.1:=by
 rw [Zb1] at *
 omega
theorem debts_one {l l':List Fw} (hk:FwOne l) (hp:l'.Perm l) (h:l'.Pairwise (fun a b=>Zaz b a=false)):l'=Jb Zaz l:=
 Zbw l' _ (hp.trans (X4 Zaz l).symm) h (Uq (p:=fun _=>True) (fun x y _ _=>Zq4 x y) (fun x y z _ _ _=>Zg7 x y z) _ fun _ _=>trivial)
  fun x hx y hy h1 h2=>(fun e=>hk x (hp.subset hx) y (hp.subset hy) e.1 e.2) (Zq3 h1 h2)
theorem Zo6 {l:Zr} (hk:(l.map (·.1)).Nodup) (c:Int):FwOne ((Z2 l).filterMap (Zma c)):=by
 intro x hx y hy e1 e2
 rw [List.mem_filterMap] at hx hy
 obtain ⟨a,ha,hx⟩:=hx
 obtain ⟨b,hb,hy⟩:=hy
 rw [Zam] at ha hb
 unfold Zma at hx hy
 split at hx
 ·split at hy
  ·rename_i h1 h2
   injection hx with hx
   injection hy with hy
   subst hx hy
   simp only at e1 e2
   have:a.1=b.1:=by
    obtain ⟨⟨a1,a2,a3⟩,a4⟩:=a
    obtain ⟨⟨b1,b2,b3⟩,b4⟩:=b
    simp only at *
    rw [e1,e2,h1.1,h2.1]
   rw [Zow hk a ha b hb this]
  cases hy
 cases hx
open Go.RowKit Go.Rg Go.BigFrame
structure Stp where
 kd:Int
 pa:Int
 pb:Int
 ca:Int
 cb:Int
 am:Int
 mx:Int
 nu:Int
 de:Int
 sq:Int
def Stp.cells (s:Stp):List Value:=[.int .u8 s.kd,.int .u8 s.pa,.int .u8 s.pb,.int .u8 s.ca,.int .u8 s.cb,.int .i64 s.am,.int .i64 s.mx,.int .i64 s.nu,.int .i64 s.de,.int .u64 s.sq]
def Stp.agg (s:Stp):Value:= .agg #[.int .u8 s.kd,.int .u8 s.pa,.int .u8 s.pb,.int .u8 s.ca,.int .u8 s.cb,.int .i64 s.am,.int .i64 s.mx,.int .i64 s.nu,.int .i64 s.de,.int .u64 s.sq]
structure Stp.In (s:Stp):Prop where
 am:s.am<=9223372036854775807
 mx:s.mx<=9223372036854775807
 nu:s.nu<=9223372036854775807
 de:s.de<=9223372036854775807
def Zik (l:Zr) (c:Int):Int:=X2 (l.map fun y=>if y.1.2.2=c then y.2.2 else 0)
def Zij (L:Led) (c:Int):Int:=Zik (Z2 L.lines) c
def Znb (l:List Fl):Int:=l.foldl (fun n f=>wrap64 (n+f.2.2.2.1)) 0
def Zq6 (L:Led) (a b c:Int):Int×Int:=match lkO L.lines (a,b,c) with
 | some v=>(v.2,v.1)
 | none=>(0,0)
abbrev Gt:=Int×Int
def Stp.off (s:Stp):Off:=⟨0,s.pa,s.ca,s.cb,s.am,s.nu,s.de⟩
def Xd (s:Stp) (L:Led) (B:Bk):Gt×Int×Led×Bk:=
 if s.kd=1 then ((0,0),(Za3 L s.pa).1,(Za3 L s.pa).2,B)
 else if s.kd=2 then ((0,0),(X9 L s.pa s.pb s.ca s.am).1,(X9 L s.pa s.pb s.ca s.am).2,B)
 else if s.kd=3 then (((U5 L s.pa s.pb s.ca s.am).1.1,0),(U5 L s.pa s.pb s.ca s.am).1.2,(U5 L s.pa s.pb s.ca s.am).2,B)
 else if s.kd=4 then ((Y1 (Z4 L B s.pa s.pb s.ca s.cb s.am s.mx).2.2.2,((Z4 L B s.pa s.pb s.ca s.cb s.am s.mx).2.2.2.length:Int)),(Z4 L B s.pa s.pb s.ca s.cb s.am s.mx).1,(Z4 L B s.pa s.pb s.ca s.cb s.am s.mx).2.1,(Z4 L B s.pa s.pb s.ca s.cb s.am s.mx).2.2.1)
 else if s.kd=5 then ((Znb (Ul L B s.off).2.2.2.2,wrap64 (Ul L B s.off).2.1),(Ul L B s.off).1,(Ul L B s.off).2.2.1,(Ul L B s.off).2.2.2.1)
 else if s.kd=6 then (((Vk B s.pa s.sq).1,0),(Vk B s.pa s.sq).2.1,L,(Vk B s.pa s.sq).2.2)
 else if s.kd=7 then (((Zbk L s.ca s.mx).1,(Zbk L s.ca s.mx).2.1),(Zbk L s.ca s.mx).2.2.1,(Zbk L s.ca s.mx).2.2.2,B)
 else if s.kd=8 then (Zq6 L s.pa s.pb s.ca,0,L,B)
 else if s.kd=9 then ((Zf0 L s.pa s.ca,0),0,L,B)
 else if s.kd=10 then ((Zij L s.ca,0),0,L,B)
 else if s.kd=11 then (match Yk B.offs s.sq with
  | some o=>((o.left,0),0,L,B)
  | none=>((0,0),7,L,B))
 else ((0,0),1,L,B)
def Zak:List Stp->Int->Led->Bk->List Gt->Int×Int×List Gt×Led×Bk
 | [],_,L,B,g=>(0,0,g,L,B)
 | s::l,i,L,B,g=>if (Xd s L B).2.1≠0 then ((Xd s L B).2.1,i,[],L,B) else Zak l (i+1) (Xd s L B).2.2.1 (Xd s L B).2.2.2 (g++[(Xd s L B).1])
def Z6 (l:List Stp) (L:Led) (B:Bk):(Int×Int×List Gt)×Led×Bk:=
 if l.length=0\/8<l.length then ((3,0,[]),L,B)
 else if (Zak l 0 L B []).1≠0 then (((Zak l 0 L B []).1,(Zak l 0 L B []).2.1,[]),L,B)
 else ((0,0,(Zak l 0 L B []).2.2.1),(Zak l 0 L B []).2.2.2)
structure MOk (L:Led) (B:Bk):Prop where
 wf:WF L
 ok:OkB B
 sq:Zax B
theorem Zkt {α β:Type} (f:α->β) (l:List α) (i:Nat):(l.eraseIdx i).map f=(l.map f).eraseIdx i:=by
 induction l generalizing i with
 | nil=>rfl
 | cons x l ih=>cases i with
   | zero=>rfl
   | succ i=>simp [ih]
theorem Zn2 {B:Bk} (h:Zax B) (owner sell buy left num den:Int):Zax (Xh B owner sell buy left num den).2.2:=Zqe h ⟨0,owner,sell,buy,left,num,den⟩
theorem seqLt_do {L:Led} {B:Bk} (h:Zax B) (seq taker to n:Int):Zax (doR L B seq taker to n).2.2.2:=by
 unfold doR
 split
 ·exact h
 exact Ziq h seq n
theorem mok_do {L:Led} {B:Bk} (h:MOk L B) (seq taker to n:Int):MOk (doR L B seq taker to n).2.2.1 (doR L B seq taker to n).2.2.2:=⟨Zkx h.wf _ _ _ _,Zlk h.ok _ _ _ _,seqLt_do h.sq _ _ _ _⟩
theorem Zi5 (fr to get give:Int):∀(f:Nat) (L:Led) (B:Bk) (n:Int) (all:List Fl),MOk L B->MOk (Yd fr to get give f L B n all).2.1 (Yd fr to get give f L B n all).2.2.1
 | 0,L,B,n,all,h=>h
 | f+1,L,B,n,all,h=>by
   unfold Yd
   split
   ·exact h
   split
   ·exact h
   split
   ·exact h
   exact Zi5 fr to get give f _ _ _ _ (mok_do h _ _ _ _)
theorem Zi6 (o:Off):∀(f:Nat) (L:Led) (B:Bk) (left:Int) (all:List Fl),MOk L B->MOk (Ye o f L B left all).2.1 (Ye o f L B left all).2.2.1
 | 0,L,B,n,all,h=>h
 | f+1,L,B,n,all,h=>by
   unfold Ye
   split
   ·exact h
   split
   ·exact h
   split
   ·exact h
   exact Zi6 o f _ _ _ _ (mok_do h _ _ _ _)
theorem mok_swap {L:Led} {B:Bk} (h:MOk L B) (fr to get give n most:Int):MOk (Z4 L B fr to get give n most).2.1 (Z4 L B fr to get give n most).2.2.1:=by
 unfold Z4
 split
 ·exact h
 split
 ·exact h
 split
 ·exact h
 split
 ·exact h
 exact Zi5 fr to get give _ _ _ _ _ h
theorem mok_come {L:Led} {B:Bk} (h:MOk L B) (o:Off):MOk (Ul L B o).2.2.1 (Ul L B o).2.2.2.1:=by
 have hg:=Zi6 o 65 L B o.left [] h
 unfold Ul
 split
 ·exact h
 split
 ·exact h
 split
 ·exact h
 split
 ·split
  ·exact h
  exact ⟨hg.wf,ok_place hg.ok _ _ _ _ _ _,Zn2 hg.sq _ _ _ _ _ _⟩
 exact hg
theorem Zqy {L:Led} {B:Bk} (h:MOk L B) (own sq:Int):MOk L (Vk B own sq).2.2:=by
 unfold Vk
 split
 ·exact h
 split
 ·exact h
 refine ⟨h.wf,fun o ho=>h.ok o (List.mem_of_mem_eraseIdx ho),?_,fun o ho=>h.sq.2 o (List.mem_of_mem_eraseIdx ho)⟩
 unfold Jm
 simp only
 rw [Zkt]
 exact h.sq.1.sublist (List.eraseIdx_sublist _ _)
end Go.Proofs.YtipjchbdogmccaaGreat
namespace Go.Proofs
open Go.Shelf
def Tryz.sortFlows_ren:Go.Shelf.Ren:=⟨fun | 6=>239 | 15=>156 | 14=>269 | 28=>200 | 29=>201 | 20=>305 | 21=>306 | 22=>307 | 23=>308 | 24=>309 | 25=>310 | 26=>311 | 27=>312 | 46=>321 | 47=>246 | 48=>247 | 49=>322 | 50=>323 | 57=>326 | n=>n,fun | 22=>279 | 24=>285 | 25=>359 | 3=>3 | 39=>89 | 0=>0 | 53=>316 | 55=>28 | 4=>4 | 46=>310 | 45=>309 | 50=>219 | 5=>5 | 9=>9 | 66=>370 | 70=>373 | 76=>415 | 77=>416 | n=>n,fun | n=>n⟩
theorem Tryz.sortFlows:Go.Proofs.SlLaysF0.n6 Tryz.prog Tryz.sortFlows_ren:={
 mixed:=by kernel_rfl
 f6:=⟨Tryz.f239.name,by decide,Tryz.func239.trans (congrArg some (by kernel_rfl))⟩
 f14:=⟨Tryz.f269.name,by decide,Tryz.func269.trans (congrArg some (by kernel_rfl))⟩
 f15:=Tryz.func156.trans (congrArg some (by kernel_rfl))
 f20:=⟨Tryz.f305.name,by decide,Tryz.func305.trans (congrArg some (by kernel_rfl))⟩
 f21:=⟨Tryz.f306.name,by decide,Tryz.func306.trans (congrArg some (by kernel_rfl))⟩
 f22:=⟨Tryz.f307.name,by decide,Tryz.func307.trans (congrArg some (by kernel_rfl))⟩
 f23:=⟨Tryz.f308.name,by decide,Tryz.func308.trans (congrArg some (by kernel_rfl))⟩
 f24:=⟨Tryz.f309.name,by decide,Tryz.func309.trans (congrArg some (by kernel_rfl))⟩
 f25:=⟨Tryz.f310.name,by decide,Tryz.func310.trans (congrArg some (by kernel_rfl))⟩
 f26:=⟨Tryz.f311.name,by decide,Tryz.func311.trans (congrArg some (by kernel_rfl))⟩
 f27:=⟨Tryz.f312.name,by decide,Tryz.func312.trans (congrArg some (by kernel_rfl))⟩
 f28:=Tryz.func200.trans (congrArg some (by kernel_rfl))
 f29:=Tryz.func201.trans (congrArg some (by kernel_rfl))
 f46:=⟨Tryz.f321.name,by decide,Tryz.func321.trans (congrArg some (by kernel_rfl))⟩
 f47:=Tryz.func246.trans (congrArg some (by kernel_rfl))
 f48:=Tryz.func247.trans (congrArg some (by kernel_rfl))
 f49:=⟨Tryz.f322.name,by decide,Tryz.func322.trans (congrArg some (by kernel_rfl))⟩
 f50:=⟨Tryz.f323.name,by decide,Tryz.func323.trans (congrArg some (by kernel_rfl))⟩
 f57:=⟨Tryz.f326.name,by decide,Tryz.func326.trans (congrArg some (by kernel_rfl))⟩
 t0:=Tryz.underlying0
 a0:=Tryz.isAgg0
 z0:=Tryz.sizeOf0
 v0:=Tryz.zeroValue0
 t3:=Tryz.underlying3
 a3:=Tryz.isAgg3
 z3:=Tryz.sizeOf3
 v3:=Tryz.zeroValue3
 t4:=Tryz.underlying4
 a4:=Tryz.isAgg4
 z4:=Tryz.sizeOf4
 v4:=Tryz.zeroValue4
 t5:=Tryz.underlying5
 a5:=Tryz.isAgg5
 z5:=Tryz.sizeOf5
 v5:=Tryz.zeroValue5
 t9:=Tryz.underlying9
 a9:=Tryz.isAgg9
 z9:=Tryz.sizeOf9
 v9:=Tryz.zeroValue9
 t22:=Tryz.underlying279
 a22:=Tryz.isAgg279
 z22:=Tryz.sizeOf279
 v22:=Tryz.zeroValue279
 t25:=Tryz.underlying359
 a25:=Tryz.isAgg359
 z25:=Tryz.sizeOf359
 v25:=Tryz.zeroValue359
 t39:=Tryz.underlying89
 a39:=Tryz.isAgg89
 z39:=Tryz.sizeOf89
 v39:=Tryz.zeroValue89
 t45:=Tryz.underlying309
 a45:=Tryz.isAgg309
 z45:=Tryz.sizeOf309
 v45:=Tryz.zeroValue309
 t46:=Tryz.underlying310
 a46:=Tryz.isAgg310
 z46:=Tryz.sizeOf310
 v46:=Tryz.zeroValue310
 t50:=Tryz.underlying219
 a50:=Tryz.isAgg219
 z50:=Tryz.sizeOf219
 v50:=Tryz.zeroValue219
 t53:=Tryz.underlying316
 a53:=Tryz.isAgg316
 z53:=Tryz.sizeOf316
 v53:=Tryz.zeroValue316
 t55:=Tryz.underlying28
 a55:=Tryz.isAgg28
 z55:=Tryz.sizeOf28
 v55:=Tryz.zeroValue28
 t66:=Tryz.underlying370
 a66:=Tryz.isAgg370
 z66:=Tryz.sizeOf370
 v66:=Tryz.zeroValue370
 t70:=Tryz.underlying373
 a70:=Tryz.isAgg373
 z70:=Tryz.sizeOf373
 v70:=Tryz.zeroValue373
 t76:=Tryz.underlying415
 a76:=Tryz.isAgg415
 z76:=Tryz.sizeOf415
 v76:=Tryz.zeroValue415
 t77:=Tryz.underlying416
 a77:=Tryz.isAgg416
 z77:=Tryz.sizeOf416
 v77:=Tryz.zeroValue416 }
end Go.Proofs
namespace Go.Proofs.YtipjchbdogmccaaGreat.D
open Go.RowKit Go.RgD Go.BigFrame
def fwC (x:Fw):List Value:=[.int .u8 x.1,.int .u8 x.2.1,.int .i64 x.2.2]
def Xu (x:Fw):Value:= .agg #[.int .u8 x.1,.int .u8 x.2.1,.int .i64 x.2.2]
theorem fcmp_any (x y:Fw) (w:World):Calls Tryz.prog 240 #[Xu x,Xu y] w (Ret (.int .i64 (Zat x y)) w):=by
 have hp:∀a b w,Calls Tryz.prog 159 #[.int .u8 a,.int .u8 b] w (Ret (.int .i64 (Vo a b)) w):=fun a b w=>(Zb4 a b w).mono (by rintro e w' ⟨rfl,rfl⟩;exact ⟨rfl,Ext.refl _⟩)
 unfold Zat
 obtain ⟨o0,o1,o2⟩:=x
 obtain ⟨x0,x1,x2⟩:=y
 simp only [Xu] at *
 have e0:=Zc w (.cells #[.int .u8 o0,.int .u8 o1,.int .i64 o2] 285)
 have h0:=Zb w (.cells #[.int .u8 o0,.int .u8 o1,.int .i64 o2] 285)
 have s0:=size_alloc w (.cells #[.int .u8 o0,.int .u8 o1,.int .i64 o2] 285)
 generalize hW:w.alloc (.cells #[.int .u8 o0,.int .u8 o1,.int .i64 o2] 285)=W at *
 have e1:=Zc W (.cells #[.int .u8 x0,.int .u8 x1,.int .i64 x2] 285)
 have h1:=Zb W (.cells #[.int .u8 x0,.int .u8 x1,.int .i64 x2] 285)
 have h0:=e1.at h0
 rw [s0] at h1
 have E1:=Xt e0 e1
 have HW:=Lib.hid hW
 clear hW
 go_enter Tryz.func240,Tryz.ntmps240
 go_wp2
 rw [HW.out]
 refine Zh Zl 10 [] (by kernel_rfl) (by kernel_rfl) ?_
 intro w1 hw1
 have q0:∀u:ExtOf w1,u.to.heap[w.heap.size]? =_:=fun u=>(Xt hw1 u.h).at h0
 have q1:∀u:ExtOf w1,u.to.heap[w.heap.size+1]? =_:=fun u=>(Xt hw1 u.h).at h1
 have d0:=fun u:ExtOf w1=>Za (j:=0) (q0 u) rfl
 have d1:=fun u:ExtOf w1=>Za (j:=1) (q0 u) rfl
 have f0:=fun u:ExtOf w1=>Za (j:=0) (q1 u) rfl
 have f1:=fun u:ExtOf w1=>Za (j:=1) (q1 u) rfl
 clear q0 q1
 simp only [Zk,Rg.hsB,Nat.reduceAdd,↓reduceIte]
 repeat (go_big_quiet_step ((go_at_call 159;exact Ret.cls (hp _ _ _))))
 refine wpQuiet_nil ?_
 refine Zj (by kernel_rfl) ?_
 intro w2 e2 e2'
 simp only [Rg.puB]
 clear d0 d1 f0 f1
 generalize Vo o0 x0=B at *
 generalize Vo o1 x1=C at *
 go_wp2_with fail
 refine (Zh0 B C _ _ _ (Za (j:=0) (Zb _ _) rfl) (Za (j:=1) (Zb _ _) rfl)).mono ?_
 rintro e w7 ⟨rfl,rfl⟩
 go_wp2
 go_ret
 exact ⟨rfl,Xt E1 (Xt e2 (Zc _ _))⟩
theorem Zem (x y:Fw) (w:World):Calls Tryz.prog 271 #[Xu x,Xu y] w (Ret (.int .i64 (Zat x y)) w):=by
 have hp:∀a b w,Calls Tryz.prog 159 #[.int .u8 a,.int .u8 b] w (Ret (.int .i64 (Vo a b)) w):=fun a b w=>(Zb4 a b w).mono (by rintro e w' ⟨rfl,rfl⟩;exact ⟨rfl,Ext.refl _⟩)
 unfold Zat
 obtain ⟨o0,o1,o2⟩:=x
 obtain ⟨x0,x1,x2⟩:=y
 simp only [Xu] at *
 have e0:=Zc w (.cells #[.int .u8 o0,.int .u8 o1,.int .i64 o2] 285)
 have h0:=Zb w (.cells #[.int .u8 o0,.int .u8 o1,.int .i64 o2] 285)
 have s0:=size_alloc w (.cells #[.int .u8 o0,.int .u8 o1,.int .i64 o2] 285)
 generalize hW:w.alloc (.cells #[.int .u8 o0,.int .u8 o1,.int .i64 o2] 285)=W at *
 have e1:=Zc W (.cells #[.int .u8 x0,.int .u8 x1,.int .i64 x2] 285)
 have h1:=Zb W (.cells #[.int .u8 x0,.int .u8 x1,.int .i64 x2] 285)
 have h0:=e1.at h0
 rw [s0] at h1
 have E1:=Xt e0 e1
 have HW:=Lib.hid hW
 clear hW
 go_enter Tryz.func271,Tryz.ntmps271
 go_wp2
 rw [HW.out]
 refine Zh Zl 10 [] (by kernel_rfl) (by kernel_rfl) ?_
 intro w1 hw1
 have q0:∀u:ExtOf w1,u.to.heap[w.heap.size]? =_:=fun u=>(Xt hw1 u.h).at h0
 have q1:∀u:ExtOf w1,u.to.heap[w.heap.size+1]? =_:=fun u=>(Xt hw1 u.h).at h1
 have d0:=fun u:ExtOf w1=>Za (j:=0) (q0 u) rfl
 have d1:=fun u:ExtOf w1=>Za (j:=1) (q0 u) rfl
 have f0:=fun u:ExtOf w1=>Za (j:=0) (q1 u) rfl
 have f1:=fun u:ExtOf w1=>Za (j:=1) (q1 u) rfl
 clear q0 q1
 simp only [Zk,Rg.hsB,Nat.reduceAdd,↓reduceIte]
 repeat (go_big_quiet_step ((go_at_call 159;exact Ret.cls (hp _ _ _))))
 refine wpQuiet_nil ?_
 refine Zj (by kernel_rfl) ?_
 intro w2 e2 e2'
 simp only [Rg.puB]
 clear d0 d1 f0 f1
 generalize Vo o0 x0=B at *
 generalize Vo o1 x1=C at *
 go_wp2_with fail
 refine (Zh0 B C _ _ _ (Za (j:=0) (Zb _ _) rfl) (Za (j:=1) (Zb _ _) rfl)).mono ?_
 rintro e w7 ⟨rfl,rfl⟩
 go_wp2
 go_ret
 exact ⟨rfl,Xt E1 (Xt e2 (Zc _ _))⟩
open Go.Shelf in
theorem fcmpLays (blk size:Nat) (w:World):CmpLays Tryz.prog 240 #[] (fun x:Fw=>fwC x) 3 (fun x y=>Zat x y) blk 0 size w:=
 fun _ _ _ _ x y=>(fcmp_any x y _).mono fun _ _ ⟨h1,h2⟩=>⟨h1,h2.grows⟩
end Go.Proofs.YtipjchbdogmccaaGreat.D
namespace Go.Proofs.YtipjchbdogmccaaGreat
open Go.RowKit Go.Rg Go.BigFrame
abbrev fwC:=D.fwC
abbrev Xu:=D.Xu
theorem Zem (x y:Fw) (w:World):Calls Tryz.prog 271 #[Xu x,Xu y] w (Ret (.int .i64 (Zat x y)) w):=(D.Zem x y w).mono fun _ _ ⟨h1,h2⟩=>⟨h1,h2.to⟩
def Xq (l:List Fw):List Value:=l.flatMap fwC
theorem Zo8 (l:List Fw):(Xq l).length=l.length*3:=Zap fwC 3 (fun _=>rfl) l
theorem Zjr (l:List Fw) (k j:Nat) (hk:k<l.length) (hj:j<3):(Xq l)[k*3+j]? =(fwC (l[k]'hk))[j]? :=Za8 fwC 3 (fun _=>rfl) l k j hk hj
theorem fwCells_one (l:List Fw):∀u∈Xq l,u.oneCell'=true:=by
 intro u hu
 obtain ⟨o,_,ho⟩:=List.mem_flatMap.1 hu
 simp only [fwC,D.fwC,List.mem_cons,List.not_mem_nil,or_false] at ho
 rcases ho with rfl | rfl | rfl<;>rfl
theorem Ze3 (w:World) (g k:Nat) (l:List Fw) (hk:k<l.length) (h:∀j u,(Xq l)[j]? =some u->w.cell? ⟨g,j,none⟩=some u):
 (loadVar 285 ⟨g,k*3,none⟩).run Tryz.prog w= .ok (Xu (l[k]'hk)) w:=
 Zs w g (k*3) 285 (fwC (l[k]'hk)) _ (fun j u hu=>by
  have hj:j<3:=(List.getElem?_eq_some_iff.1 hu).1
  exact h _ _ ((Zjr l k j hk hj).trans hu)) Tryz.underlying285 rfl (by kernel_rfl)
theorem fw_info:(Tryz.prog.info? 285).map (fun i=>(i.zero,i.size,i.bytes))=some (some (.agg #[.int .u8 0,.int .u8 0,.int .i64 0]),3,16):=by kernel_rfl
theorem Ziu (p:Int) (w:World):Calls Tryz.prog 270 #[.int .u8 p] w (fun e w'=>e= .returned (.bool (Zm p))/\w'=w):=by
 unfold Zm
 by_cases h1:1<=p
 focus
  have h1':decide (1<=p)=true:=by simpa using h1
  by_cases h2:p<=16
  focus
   have h2':decide (p<=16)=true:=by simpa using h2
   rw [decide_eq_true (And.intro h1 h2)]
  rotate_left
  focus
   have h2':decide (p<=16)=false:=by simpa using h2
   rw [decide_eq_false (fun h=>h2 h.2)]
 rotate_left 2
 focus
  have h1':decide (1<=p)=false:=by simpa using h1
  rw [decide_eq_false (fun h=>h1 h.1)]
 all_goals
  go_enter Tryz.func270,Tryz.ntmps270
  go_wp2
  go_ret
  exact ⟨rfl,rfl⟩
def Zbh (l:List Fw) (k:Nat):Option Fw:=if k=0 then none else l[k-1]?
theorem mayF_step {l:List Fw} {k:Nat} (hk:k<l.length) (h:Zei l=Zcq (Zbh l k) (l.drop k)):
 Zei l=(Zkr (l[k]'hk)&&(match Zbh l k with | none=>true | some y=>decide (Zat y (l[k]'hk)<0))&&Zcq (Zbh l (k+1)) (l.drop (k+1))):=by
 rw [h,List.drop_eq_getElem_cons hk]
 unfold Zbh
 rw [if_neg (Nat.succ_ne_zero k),Nat.add_sub_cancel,List.getElem?_eq_getElem hk]
 rfl
theorem rmay_any (base:Nat) (v:Value) (l:List Fw) (w:World) (h:Zn w base 3 v l.length (Xq l)):
 Calls Tryz.prog 241 #[v] w (Ret (.bool (Zei l)) w):=by
 obtain ⟨A,cap,rfl,h1,h2,h3,h4⟩:=h
 have hn63:(l.length:Int)<=9223372036854775807:=by unfold maxLen at h2;omega
 go_enter Tryz.func241,Tryz.ntmps241
 go_wp2
 go_loopw [3,4,7,8,9,10,11,12,13,14,15,16,17,18,19,20,21,22,23,24,25,26,27,28,29,30,31,32,33,34,35,36,37,38,39,40,41,42,43,44] (fun _ _ iv _ _ _ _ _ _ _ _ _ _ _ _ _ _ _ _ _ _ _ _ _ _ _ _ _ _ _ _ _ _ _ _ _ _ _ _ _ wr=>∃k:Nat,k<=l.length/\iv= .int .i64 k/\Ext w wr/\Zei l=Zcq (Zbh l k) (l.drop k)) (fun _ _ iv _ _ _ _ _ _ _ _ _ _ _ _ _ _ _ _ _ _ _ _ _ _ _ _ _ _ _ _ _ _ _ _ _ _ _ _ _ _=>l.length-(intOf iv).toNat)
 case atStart=>exact ⟨0,Nat.zero_le _,rfl,Ext.refl _,rfl⟩
 obtain ⟨k,hk,rfl,er,hmg⟩:=hrel
 by_cases hkn:k<l.length
 ·have hst:=mayF_step hkn hmg
  rcases h4 with h4 | ⟨g,rfl,hb,hlt,hcell⟩
  ·omega
  have hcr:∀W,Ext wr W->∀j u,(Xq l)[j]? =some u->W.cell? ⟨g,j,none⟩=some u:=fun W kk j u hu=>(Zf ((Xt er kk).block hlt)).trans (hcell j u hu)
  have hld:=Ze3 wr g k l hkn (hcr wr (Ext.refl _))
  have HP:=Lib.hid (show ∀W,Ext wr W->∀hk1:k-1<l.length,(loadVar 285 ⟨g,(k-1)*3,none⟩).run Tryz.prog W= .ok (Xu (l[k-1]'hk1)) W from fun W kk hk1=>Ze3 W g (k-1) l hk1 (hcr W kk))
  have HPV:=Lib.hid (show ∀hk1:k-1<l.length,0<k->Zbh l k=some (l[k-1]'hk1) from fun hk1 h0=>by unfold Zbh;rw [if_neg (by omega),List.getElem?_eq_getElem hk1])
  clear hmg hcell hcr
  generalize l[k]'hkn=x at *
  obtain ⟨a,b,n⟩:=x
  simp only [Xu,D.Xu] at hld
  have c1:=fun W=>Ziu a W
  have c2:=fun W=>Ziu b W
  have hzr:=Zb wr (.cells #[.int .u8 0,.int .u8 0,.int .i64 0] 285)
  have ezr:=Zc wr (.cells #[.int .u8 0,.int .u8 0,.int .i64 0] 285)
  have HM:=Lib.hid hst
  have hk1:(0:Int)<=(k:Int):=by omega
  have hk2:(k:Int)<(l.length:Int):=by omega
  have hk3:decide ((k:Int)<(l.length:Int))=true:=by simpa using hkn
  clear hst
  go_wp2_with (first
   | (refine Zd rfl 285 _ _ _ rfl rfl hld ?_)
   | (refine Ze rfl rfl 285 _ _ rfl wr.heap.size _ rfl rfl 285 _ hzr (by kernel_rfl) (by rfl) (by rfl) ?_
      intro w5 hb5 ho5 hs5
      have e5:Ext wr w5:=hb5 _ _ (Nat.le_refl _) ezr
      have z0:=Za (j:=0) hs5 rfl
      have z1:=Za (j:=1) hs5 rfl
      have z2:=Za (j:=2) hs5 rfl))
  have er5:=Xt er e5
  have hno:∀P:Prop,(Zkr (a,b,n)=true->P)->(¬P->Zei l=false):=fun P hp hn=>by
   rw [HM.out]
   have:Zkr (a,b,n)=false:=by
    rw [<-Bool.not_eq_true]
    exact fun h=>hn (hp h)
   rw [this]
   rfl
  have hfw:Zkr (a,b,n)=true->(1<=a/\a<=16)/\(1<=b/\b<=16)/\a≠b/\1<=n/\n<=1099511627776:=fun h=>by
   unfold Zkr at h
   rw [decide_eq_true_eq] at h
   simp only at h
   omega
  refine (c1 _).mono ?_
  rintro e w6 ⟨rfl,rfl⟩
  by_cases p1:1<=a/\a<=16
  focus
   rw [show Zm a=true by unfold Zm;rw [decide_eq_true p1]]
   go_wp2_with fail
   refine (c2 _).mono ?_
   rintro e w6 ⟨rfl,rfl⟩
   by_cases p2:1<=b/\b<=16
   ·rw [show Zm b=true by unfold Zm;rw [decide_eq_true p2]]
    by_cases p3:a=b
    ·have HF:=Lib.hid (hno (a≠b) (fun h=>(hfw h).2.2.1) (fun h=>h p3))
     have p3':(a==b)=true:=by simpa using p3
     clear hno hfw c1 c2 HM p3
     go_wp2
     go_ret
     rw [HF.out]
     exact ⟨rfl,er5⟩
    have p3':(a==b)=false:=by simpa using p3
    by_cases p4:n<1
    ·have HF:=Lib.hid (hno (1<=n) (fun h=>(hfw h).2.2.2.1) (by omega))
     have p4':decide (n<1)=true:=by simpa using p4
     clear hno hfw c1 c2 HM p3
     go_wp2
     go_ret
     rw [HF.out]
     exact ⟨rfl,er5⟩
    have p4':decide (n<1)=false:=by simpa using p4
    by_cases p5:1099511627776<n
    ·have HF:=Lib.hid (hno (n<=1099511627776) (fun h=>(hfw h).2.2.2.2) (by omega))
     have p5':decide (1099511627776<n)=true:=by simpa using p5
     clear hno hfw c1 c2 HM p3
     go_wp2
     go_ret
     rw [HF.out]
     exact ⟨rfl,er5⟩
    have p5':decide (1099511627776<n)=false:=by simpa using p5
    have hok:Zkr (a,b,n)=true:=by unfold Zkr;rw [decide_eq_true_eq];simp only;omega
    have HM2:=Lib.hid (show Zei l=((match Zbh l k with | none=>true | some y=>decide (Zat y (a,b,n)<0))&&Zcq (Zbh l (k+1)) (l.drop (k+1))) by rw [HM.out,hok,Bool.true_and])
    clear hno hfw c1 c2 HM p3 hok p1 p2
    cases k with
    | zero=>
      have HZ:=Lib.hid (show Zei l=Zcq (Zbh l 1) (l.drop 1) by rw [HM2.out];rfl)
      clear HM2 HP HPV
      go_wp2_with fail
      refine Z9 Zl [] (by kernel_rfl) (by kernel_rfl) ?_
      intro w1 hw1
      simp only [Zk,Rg.hsB,Nat.reduceAdd,↓reduceIte]
      repeat (go_big_quiet_step (fail))
      refine wpQuiet_nil ?_
      refine Xc (by kernel_rfl) ?_
      intro w7 e7 e7'
      try simp only [Act.put,Rg.puC,Rg.puB]
      go_wp2_with fail
      exact ⟨⟨1,by omega,by first | rfl | go_num,Xt er5 e7,HZ.out⟩,by simp [intOf];omega⟩
    | succ m=>
      have hm:m<l.length:=by omega
      have hpv:=HPV.out hm (Nat.succ_pos m)
      have hlp:=fun W kk=>HP.out W kk hm
      simp only [Nat.add_sub_cancel] at hpv hlp
      generalize l[m]'hm=y at *
      obtain ⟨y0,y1,y2⟩:=y
      simp only [Xu,D.Xu] at hlp
      rw [hpv] at HM2
      have HM3:=Lib.hid (show Zei l=(decide (Zat (y0,y1,y2) (a,b,n)<0)&&Zcq (Zbh l (m+1+1)) (l.drop (m+1+1))) from HM2.out)
      have hoc:=fun W=>Zem (y0,y1,y2) (a,b,n) W
      simp only [Xu,D.Xu] at hoc
      have m1:(0:Int)<=(m:Int):=by omega
      have m2:(m:Int)<(l.length:Int):=by omega
      obtain ⟨xr,hxr⟩:∃xr,xr=wr.heap.size:=⟨_,rfl⟩
      rw [<-hxr] at hs5 z0 z1 z2 ⊢
      have e56:=e5
      clear HM2 HP HPV hpv hld hxr
      go_wp2_with fail
      clear z0 z1 z2
      refine Z9 Zl [] (by kernel_rfl) (by kernel_rfl) ?_
      intro w1 hw1
      have ldx:∀w2,Cls w1 w2->(loadVar 285 ⟨xr,0,none⟩).run Tryz.prog w2= .ok (.agg #[.int .u8 a,.int .u8 b,.int .i64 n]) w2:=by
       rintro _ ⟨u,rfl⟩
       exact run_loadVar_row u.to xr _ _ _ _ _ ((Xt hw1 u.h).at hs5) Tryz.underlying285 rfl (by kernel_rfl)
      have ldy:∀w2,Cls w1 w2->(loadVar 285 ⟨g,m*3,none⟩).run Tryz.prog w2= .ok (.agg #[.int .u8 y0,.int .u8 y1,.int .i64 y2]) w2:=by
       rintro _ ⟨u,rfl⟩
       exact hlp _ (Xt e56 (Xt hw1 u.h))
      generalize Zat (y0,y1,y2) (a,b,n)=cf at *
      simp only [Zk,Rg.hsB,Nat.reduceAdd,↓reduceIte]
      repeat (first
       | go_big_quiet_step ((go_at_call 271;exact Ret.cls (hoc _)))
       | (go_big_quiet_want;(first | refine Z0 285 _ _ _ rfl rfl ldx ?_ | refine Z0 285 _ _ _ rfl rfl ldy ?_);go_big_quiet_on;simp only [Act.put,Rg.puB]))
      refine wpQuiet_nil ?_
      refine Xc (by kernel_rfl) ?_
      intro w7 e7 e7'
      try simp only [Act.put,Rg.puC,Rg.puB]
      by_cases hcf:cf<0
      ·have HZ:=Lib.hid (show Zei l=Zcq (Zbh l (m+1+1)) (l.drop (m+1+1)) by rw [HM3.out,decide_eq_true hcf,Bool.true_and])
       have hcf':decide (0<=cf)=false:=by simp;omega
       clear HM3 hcf hoc hlp ldx ldy
       rw [hcf']
       go_wp2_with fail
       exact ⟨⟨m+2,by omega,by go_num,Xt er5 e7,HZ.out⟩,by simp [intOf];omega⟩
      have HF:=Lib.hid (show Zei l=false by rw [HM3.out,decide_eq_false hcf,Bool.false_and])
      have hcf':decide (0<=cf)=true:=by simp;omega
      clear HM3 hcf hoc hlp ldx ldy
      rw [hcf']
      go_wp2
      go_ret
      rw [HF.out]
      exact ⟨rfl,Xt er5 e7⟩
   have HF:=Lib.hid (hno (1<=b/\b<=16) (fun h=>(hfw h).2.1) p2)
   rw [show Zm b=false by unfold Zm;rw [decide_eq_false p2]]
  rotate_left
  focus
   have HF:=Lib.hid (hno (1<=a/\a<=16) (fun h=>(hfw h).1) p1)
   rw [show Zm a=false by unfold Zm;rw [decide_eq_false p1]]
  all_goals
   clear hno hfw c1 c2 HM
   go_wp2
   go_ret
   rw [HF.out]
   exact ⟨rfl,er5⟩
 have hk':k=l.length:=by omega
 subst hk'
 have HF:=Lib.hid (show Zei l=true by rw [hmg,List.drop_length];cases Zbh l l.length<;>rfl)
 have hk3:decide ((l.length:Int)<(l.length:Int))=false:=by simp
 clear hmg
 go_wp2
 go_ret
 rw [HF.out]
 exact ⟨rfl,er⟩
def edC (e:Ed):List Value:=[.int .u8 e.1,.int .u8 e.2.1,.int .i8 e.2.2]
def edAgg (e:Ed):Value:= .agg #[.int .u8 e.1,.int .u8 e.2.1,.int .i8 e.2.2]
def Yz (l:List Ed):List Value:=l.flatMap edC
theorem Zhh (l:List Ed):(Yz l).length=l.length*3:=by
 induction l with
 | nil=>rfl
 | cons o l ih=>
   have:(edC o).length=3:=rfl
   simp only [Yz,List.flatMap_cons,List.length_append,List.length_cons,this] at ih ⊢
   omega
theorem Zrx (l:List Ed) (k j:Nat) (hk:k<l.length) (hj:j<3):(Yz l)[k*3+j]? =(edC (l[k]'hk))[j]? :=by
 induction l generalizing k with
 | nil=>simp at hk
 | cons o l ih=>
   have h7:(edC o).length=3:=rfl
   cases k with
   | zero=>
     simp only [Yz,List.flatMap_cons,Nat.zero_mul,Nat.zero_add,List.getElem_cons_zero]
     rw [List.getElem?_append_left (by rw [h7];exact hj)]
   | succ k=>
     have:=ih k (by simpa using hk)
     simp only [Yz,List.flatMap_cons,List.getElem_cons_succ] at this ⊢
     rw [List.getElem?_append_right (by rw [h7];omega),h7,show (k+1)*3+j-3=k*3+j by omega]
     exact this
theorem Zph (l:List Ed):∀u∈Yz l,u.oneCell'=true:=by
 intro u hu
 obtain ⟨o,_,ho⟩:=List.mem_flatMap.1 hu
 simp only [edC,List.mem_cons,List.not_mem_nil,or_false] at ho
 rcases ho with rfl | rfl | rfl<;>rfl
theorem load_ed (w:World) (g k:Nat) (l:List Ed) (hk:k<l.length) (h:∀j u,(Yz l)[j]? =some u->w.cell? ⟨g,j,none⟩=some u):
 (loadVar 399 ⟨g,k*3,none⟩).run Tryz.prog w= .ok (edAgg (l[k]'hk)) w:=
 Zs w g (k*3) 399 (edC (l[k]'hk)) _ (fun j u hu=>by
  have hj:j<3:=(List.getElem?_eq_some_iff.1 hu).1
  exact h _ _ ((Zrx l k j hk hj).trans hu)) Tryz.underlying399 rfl (by kernel_rfl)
theorem ed_info:(Tryz.prog.info? 399).map (fun i=>(i.zero,i.size,i.bytes))=some (some (.agg #[.int .u8 0,.int .u8 0,.int .i8 0]),3,3):=by kernel_rfl
theorem rc1_any (a b c:Int) (w:World) (h1:1<=a/\a<=16) (h2:1<=b/\b<=16):Calls Tryz.prog 274 #[.agg #[.int .u8 a,.int .u8 b,.int .i8 c]] w (Ret (.bool false) w):=by
 have p1:=fun w=>Zez a w
 have p2:=fun w=>Zez b w
 rw [show Zm a=true by unfold Zm;simp [h1]] at p1
 rw [show Zm b=true by unfold Zm;simp [h2]] at p2
 have e0:=Zc w (.cells #[.int .u8 a,.int .u8 b,.int .i8 c] 399)
 have h0:=Zb w (.cells #[.int .u8 a,.int .u8 b,.int .i8 c] 399)
 have c0:=Za (j:=0) h0 rfl
 have c1:=Za (j:=1) h0 rfl
 clear h1 h2 h0
 go_enter Tryz.func274,Tryz.ntmps274
 go_wp2_with fail
 refine (p1 _).mono ?_
 rintro e w1 ⟨rfl,rfl⟩
 go_wp2_with fail
 refine (p2 _).mono ?_
 rintro e w1 ⟨rfl,rfl⟩
 go_wp2
 go_ret
 exact ⟨rfl,e0⟩
theorem Zrw (base:Nat) (v:Value) (l:List Ed) (w:World) (h:Zn w base 3 v l.length (Yz l)) (hok:EOk l):
 Calls Tryz.prog 313 #[v,.func (.func 274) #[] #[]] w (Ret (.int .i64 (-1)) w):=by
 obtain ⟨A,cap,rfl,h1,h2,h3,h4⟩:=h
 have hn63:(l.length:Int)<=9223372036854775807:=by unfold maxLen at h2;omega
 go_enter Tryz.func313,Tryz.ntmps313
 go_wp2
 go_loopw [8] (fun i wr=>∃k:Nat,k<=l.length/\i= .int .i64 k/\Ext w wr) (fun i _=>l.length-(intOf i).toNat)
 case atStart=>exact ⟨0,Nat.zero_le _,rfl,Ext.refl _⟩
 obtain ⟨k,hk,rfl,e1⟩:=hrel
 by_cases hkn:k<l.length
 ·rcases h4 with h4 | ⟨g,rfl,hb,hlt,hcell⟩
  ·omega
  have hld:=load_ed wr g k l hkn (fun j u hu=>by rw [Zf (e1.block hlt)];exact hcell j u hu)
  obtain ⟨q1,q2,q3,q4,_⟩:=hok _ (List.getElem_mem hkn)
  generalize (l[k]'hkn)=o at *
  obtain ⟨a,b,c⟩:=o
  simp only at q1 q2 q3 q4
  simp only [edAgg] at hld
  have cp1:=rc1_any a b c wr ⟨q1,q2⟩ ⟨q3,q4⟩
  clear q1 q2 q3 q4
  go_wp2_with (first | (refine Zd rfl 399 _ _ _ rfl rfl hld ?_))
  refine cp1.mono ?_
  rintro e w5 ⟨rfl,e5⟩
  go_wp2
  exact ⟨⟨k+1,by omega,by go_num,Xt e1 e5⟩,by simp [intOf];omega⟩
 have hk':k=l.length:=by omega
 subst hk'
 go_wp2
 go_ret
 exact ⟨rfl,e1⟩
theorem edel_any (base:Nat) (v:Value) (l:List Ed) (w:World) (h:Zn w base 3 v l.length (Yz l)) (hok:EOk l):
 Calls Tryz.prog 272 #[v,.func (.func 274) #[] #[]] w (Ret v w):=by
 have hx:=Zrw base v l w h hok
 obtain ⟨A,cap,rfl,_⟩:=h
 go_enter Tryz.func272,Tryz.ntmps272
 go_wp2_with fail
 refine hx.mono ?_
 rintro e w1 ⟨rfl,e1⟩
 go_wp2
 go_ret
 exact ⟨rfl,e1⟩
def RetEds (l:List Ed) (w:World) (e:Ending) (w':World):Prop:=∃v,e= .returned v/\Ext w w'/\w'.ownsRow w.heap.size 399 3 v l.length (Yz l)
theorem Zry (base:Nat) (v:Value) (l:List Ed) (w:World) (h:Zn w base 3 v l.length (Yz l)) (hl:l.length<=1024):Calls Tryz.prog 273 #[v] w (RetEds l w):=by
 obtain ⟨A,cap,rfl,h1,h2,h3,h4⟩:=h
 obtain ⟨i0,hi,hz0,hz1,hz2⟩:=info_parts ed_info
 have hq:=fun w=>Lib.run_eql_slice_nil (P:=Tryz.prog) w 367 _ A l.length cap 0 0 Tryz.underlying367
 cases A with
 | none=>
   have h0:l.length=0:=by
    rcases h4 with h4 | ⟨g,hg,_⟩
    ·exact h4
    simp at hg
   have:l=[]:=List.eq_nil_of_length_eq_zero h0
   subst this
   simp only [List.length_nil] at hq
   go_enter Tryz.func273,Tryz.ntmps273
   go_wp2
   go_ret
   exact ⟨_,rfl,Ext.refl _,World.ownsRow_nil _ _ _ _⟩
 | some ad=>
   have hnews:∀j u,(Yz l)[j]? =some u->w.cell? (ad.add j)=some u:=by
    intro j u hu
    rcases h4 with h4 | ⟨g,hg,hb,hlt,hc⟩
    ·have:l=[]:=List.eq_nil_of_length_eq_zero h4
     subst this
     simp [Yz] at hu
    simp only [Option.some.injEq] at hg
    subst hg
    have hadd:(⟨g,0,none⟩:Addr).add j=⟨g,j,none⟩:=by unfold Addr.add;split<;>simp_all
    rw [hadd];exact hc j u hu
   have hlt:0<l.length->ad.block<w.heap.size:=fun hp=>by
    rcases h4 with h4 | ⟨g,hg,hb,hlt,hc⟩
    ·omega
    simp only [Option.some.injEq] at hg;subst hg;exact hlt
   have hW:=World.ownsRow_lit (base:=w.heap.size) (e:=399) (size:=3) w #[] 0 (Nat.le_refl _) (by unfold maxLen;omega) rfl
   have e0:=Zc w (.cells #[] 399)
   have hn2:∀j u,(Yz l)[j]? =some u->(w.alloc (.cells #[] 399)).cell? (ad.add j)=some u:=by
    intro j u hu
    have hj:=(List.getElem?_eq_some_iff.1 hu).1
    rw [Zhh] at hj
    have hb:(ad.add j).block=ad.block:=by unfold Addr.add;split<;>rfl
    have hk:(w.alloc (.cells #[] 399)).heap[(ad.add j).block]? =w.heap[(ad.add j).block]? :=by rw [hb];exact e0.block (hlt (by omega))
    exact (Zf hk).trans (hnews j u hu)
   have hl3:=Zhh l
   have h1c:=Zph l
   generalize hcs:Yz l=news at *
   go_enter Tryz.func273,Tryz.ntmps273
   go_wp2_with (first
    | (at_builtin;refine wpList_append_own _ rfl _ _ 367 rfl w.heap.size 399 i0 (.agg #[.int .u8 0,.int .u8 0,.int .i8 0]) 3 3 Tryz.underlying367 hi hz0 hz1 hz2 rfl (by decide) _ _ _ rfl hW ad l.length cap news rfl hl3 hn2 h1c (by unfold maxLen;omega) (by omega) (by simp) ?_;intro v' w3 hown' hgrow3 hnil3))
   go_ret
   rw [Nat.zero_add,List.nil_append] at hown'
   have e3:Ext w w3:=by
    have:=(Below.refl w.heap.size w).alloc (Nat.le_refl _) (.cells #[] 399)
    exact this.grown hgrow3 (by simp) (fun q hq=>by have:=hW.lt q hq;omega)
   exact ⟨v',rfl,e3,hcs▸hown'⟩
theorem Zqr (base:Nat) (v:Value) (l:List Int) (x:Int) (w:World) (h:Zn w base 1 v l.length (l.map (Value.int .u8))) (hx:x∈l):
 Calls Tryz.prog 278 #[v,.int .u8 x] w (Ret (.int .i64 (Zoy l x)) w):=by
 have hm:=h
 obtain ⟨A,cap,rfl,hget⟩:=h.get
 have hn63:(l.length:Int)<=9223372036854775807:=by obtain ⟨_,_,hv,h1,h2,_⟩:=hm;unfold maxLen at h2;omega
 clear hm
 go_enter Tryz.func278,Tryz.ntmps278
 go_wp2
 go_loopw [8] (fun i wr=>∃k:Nat,k<=l.length/\i= .int .i64 k/\Ext w wr/\∀j (hj:j<l.length),j<k->(l[j]'hj==x)=false) (fun i _=>l.length-(intOf i).toNat)
 case atStart=>exact ⟨0,Nat.zero_le _,rfl,Ext.refl _,fun j _ hj=>by omega⟩
 obtain ⟨k,hk,rfl,e1,hid⟩:=hrel
 by_cases hkn:k<l.length
 ·obtain ⟨g,rfl,hb,hlt,u,hu,hcu⟩:=hget k hkn
  rw [List.getElem?_map,List.getElem?_eq_getElem hkn] at hu
  simp only [Option.map_some,Option.some.injEq] at hu
  subst hu
  have hc1:=(Zf (a:=⟨g,k,none⟩) (e1.block hlt)).trans hcu
  have HID:=Lib.hid hid
  cases hq:(l[k]'hkn==x) with
  | true=>
    have hfi:Zoy l x=k:=by
     unfold Zoy
     rw [List.findIdx_eq hkn]
     exact ⟨hq,fun j hj=>hid j (by omega) hj⟩
    have hxe:x=l[k]'hkn:=(by simpa using hq:l[k]'hkn=x).symm
    rw [hfi]
    clear hid hq
    subst hxe
    generalize l[k]'hkn=y at *
    go_wp2
    go_ret
    exact ⟨rfl,e1⟩
  | false=>
    have hq2:(x==l[k]'hkn)=false:=by rw [beq_eq_false_iff_ne] at hq ⊢;exact fun e=>hq e.symm
    have HQ:=Lib.hid hq
    clear hid hq
    generalize hy:l[k]'hkn=y at *
    have HY:=Lib.hid hy
    clear hy
    go_wp2
    refine ⟨⟨k+1,by omega,by go_num,e1,fun j hj hjk=> ?_⟩,by simp [intOf];omega⟩
    by_cases hjk2:j<k
    ·exact HID.out j hj hjk2
    have:j=k:=by omega
    subst this
    rw [HY.out]
    exact HQ.out
 exfalso
 obtain ⟨j,hj,e⟩:=List.getElem_of_mem hx
 have:=hid j hj (by omega)
 rw [e] at this
 simp at this
theorem pmin_any (base:Nat) (v:Value) (l:List Int) (w:World) (h:Zn w base 1 v l.length (l.map (Value.int .u8))) (hx:l≠[]):
 Calls Tryz.prog 279 #[v] w (Ret (.int .u8 (Zkp l)) w):=by
 have hm:=h
 obtain ⟨A,cap,rfl,hget⟩:=h.get
 have hn63:(l.length:Int)<=9223372036854775807:=by obtain ⟨_,_,hv,h1,h2,_⟩:=hm;unfold maxLen at h2;omega
 clear hm
 obtain ⟨x,t,rfl⟩:∃x t,l=x::t:=by
  cases l with
  | nil=>exact absurd rfl hx
  | cons x t=>exact ⟨x,t,rfl⟩
 have hl1:1<=(x::t).length:=by simp
 have hll:(x::t).length=t.length+1:=by simp
 obtain ⟨g,rfl,hb,hlt,u,hu,hcu⟩:=hget 0 (by omega)
 simp only [List.map_cons,List.getElem?_cons_zero,Option.some.injEq] at hu
 subst hu
 have hd1:decide (((x::t).length:Int)<1)=false:=by simp;omega
 generalize hn:(x::t).length=n at *
 have hmin:Zkp (x::t)=t.foldl min x:=rfl
 rw [hmin]
 clear hx hmin
 go_enter Tryz.func279,Tryz.ntmps279
 go_wp2
 go_loopw [3,4] (fun mv i wr=>∃k:Nat,k<=t.length/\i= .int .i64 ((k+1:Nat):Int)/\mv= .int .u8 ((t.take k).foldl min x)/\Ext w wr) (fun _ i _=>n-(intOf i).toNat)
 case atStart=>exact ⟨0,Nat.zero_le _,by first | rfl | go_num,rfl,Ext.refl _⟩
 obtain ⟨k,hk,rfl,rfl,e1⟩:=hrel
 by_cases hkn:k<t.length
 ·obtain ⟨g',hg',_,_,u,hu,hcu1⟩:=hget (k+1) (by omega)
  simp only [Option.some.injEq,Addr.mk.injEq,and_true] at hg'
  subst hg'
  rw [List.map_cons,List.getElem?_cons_succ,List.getElem?_map,List.getElem?_eq_getElem hkn] at hu
  simp only [Option.map_some,Option.some.injEq] at hu
  subst hu
  obtain ⟨q,hq⟩:∃q,q=k+1:=⟨_,rfl⟩
  rw [<-hq] at hcu1 ⊢
  have hc1:=(Zf (a:=⟨g,q,none⟩) (e1.block hlt)).trans hcu1
  have hq1:(0:Int)<=(q:Int):=by omega
  have hq2:(q:Int)<(n:Int):=by omega
  have hq3:decide ((q:Int)<(n:Int))=true:=by simpa using hq2
  have HT:=Lib.hid (show (t.take (k+1)).foldl min x=min ((t.take k).foldl min x) (t[k]'hkn) by rw [List.take_succ_eq_append_getElem hkn,List.foldl_append];rfl)
  generalize (t.take k).foldl min x=m0 at *
  generalize t[k]'hkn=y at *
  have HQ:=Lib.hid hq
  clear hq hcu hcu1
  by_cases hym:y<m0
  focus
   have hmn:min m0 y=y:=by omega
   have HM:=Lib.hid hmn
   have hym':decide (y<m0)=true:=by simpa using hym
  rotate_left
  focus
   have hmn:min m0 y=m0:=by omega
   have HM:=Lib.hid hmn
   have hym':decide (y<m0)=false:=by simpa using hym
  all_goals
   clear hmn
   go_wp2
   refine ⟨⟨k+1,by omega,by rw [HQ.out];go_num,?_,e1⟩,by simp [intOf];have:=HQ.out;omega⟩
   rw [HT.out,HM.out]
 have hk':k=t.length:=by omega
 subst hk'
 rw [List.take_length]
 have hq3:decide (((t.length+1:Nat):Int)<(n:Int))=false:=by simp;omega
 go_wp2
 go_ret
 exact ⟨rfl,e1⟩
end Go.Proofs.YtipjchbdogmccaaGreat
namespace Go.RgK
open Go.RowKit Go.Rg
section
variable {S:List Nat} {P:Program} {ops:Array Oper} {md:Region.Mode}
theorem Zic {n f:Nat} {L:Array Bool->Act->World->Prop} {listed:Array Bool} {a:Act} {w0 w:World} (i:Nat) (o:Oper) (ty:TypeId) (x y:Operand) (hop:o.op= .store ty x y) (hg:o.guard=none) (hd:o.dst=none)
 (hr:Region.ready md ops listed=[i]) (hin:i<n) (ho:ops[i]? =some o) (p:Addr) (v:Value) (hx:a.eval x= .pointer (some p)) (hy:a.eval y=v)
 (hst:∀w':World,Ext w w'->(storeVar ty p v).run P w'= .ok () (w'.setCell p v)) (hp:p.block∈S\/w0.heap.size<=p.block)
 (h:∀w':World,Ext w w'->Keep S w0 (w'.setCell p v)->wpX S P md ops w0 n L f (listed.setIfInBounds i true) a (w'.setCell p v)):wpX S P md ops w0 n L (f+1) listed a w:=by
 refine Vq i o hr hin ho (by simp [Region.wanted,hg]) fun w' h0 hw'=> ?_
 unfold Xn execOp
 simp only [hop,hx,hy,Instr.storeAt,Instr.sureAddr,Sem.run_bind,Sem.run_pure,Result.andThen_ok,hst w' hw',Xz]
 have e0:Keep S w0 (w'.setCell p v):=h0.setCell hp v
 refine ⟨e0,?_⟩
 rw [hd]
 exact h _ hw' e0
theorem Xv {n f:Nat} {L:Array Bool->Act->World->Prop} {listed:Array Bool} {a:Act} {w0 w:World} (i:Nat) (o:Oper) (v:Value) (hg:o.guard=none)
 (hr:Region.ready md ops listed=[i]) (hin:i<n) (ho:ops[i]? =some o) (hl:∀w',Ext w w'->(execOp a.eval o).run P w'= .ok (.value v) w')
 (h:∀w':World,Keep S w0 w'->Ext w w'->wpX S P md ops w0 n L f (listed.setIfInBounds i true) (a.put o.dst v) w'):wpX S P md ops w0 n L (f+1) listed a w:=by
 refine Vq i o hr hin ho (by simp [Region.wanted,hg]) fun w' h0 hw'=> ?_
 unfold Xn
 rw [hl w' hw']
 exact ⟨h0,h w' h0 hw'⟩
end
end Go.RgK
namespace Go.Proofs.YtipjchbdogmccaaGreat
open Go.RowKit Go.Rg Go.BigFrame
def Zdd (d a:List Int):Array Value:=(d.map (Value.int .i64)++a.map (Value.int .u8)).toArray
structure IsSr (w:World) (b:Nat) (d a:List Int):Prop where
 row:w.heap[b]? =some (.cells (Zdd d a) 405 (0,0))
 ld:d.length=17
 la:a.length=17
theorem IsSr.keep {S:List Nat} {w w':World} {b:Nat} {d a:List Int} (h:IsSr w b d a) (k:Keep S w w') (hS:b∉S):IsSr w' b d a:=⟨k.at h.row hS,h.ld,h.la⟩
theorem IsSr.ext {w w':World} {b:Nat} {d a:List Int} (h:IsSr w b d a) (k:Ext w w'):IsSr w' b d a:=⟨k.at h.row,h.ld,h.la⟩
theorem IsSr.dist {w:World} {b:Nat} {d a:List Int} (h:IsSr w b d a) (i:Int) (h0:0<=i) (h1:i<=16):w.cell? ⟨b,i.toNat,none⟩=some (.int .i64 (gI d i)):=by
 refine Za h.row ?_
 have hl:=h.ld
 unfold Zdd gI
 rw [List.getElem?_toArray,List.getElem?_append_left (by simp;omega),List.getElem?_map,List.getD_eq_getElem?_getD,List.getElem?_eq_getElem (by omega)]
 rfl
theorem IsSr.ahead {w:World} {b:Nat} {d a:List Int} (h:IsSr w b d a) (i:Int) (h0:0<=i) (h1:i<=16):w.cell? ⟨b,17+i.toNat,none⟩=some (.int .u8 (gI a i)):=by
 refine Za h.row ?_
 have hl:=h.ld
 have hl2:=h.la
 unfold Zdd gI
 rw [List.getElem?_toArray,List.getElem?_append_right (by simp;omega),List.length_map,hl,show 17+i.toNat-17=i.toNat by omega,List.getElem?_map,List.getD_eq_getElem?_getD,List.getElem?_eq_getElem (by omega)]
 rfl
theorem IsSr.free {w:World} {b:Nat} {d a:List Int} (h:IsSr w b d a) (j:Nat):w.frozen? ⟨b,j,none⟩=false:=frozen_of_row w b j _ _ h.row
theorem IsSr.setd {w:World} {b:Nat} {d a:List Int} (h:IsSr w b d a) (i x:Int) (h0:0<=i) (h1:i<=16):IsSr (w.setCell ⟨b,i.toNat,none⟩ (.int .i64 x)) b (d.set i.toNat x) a:=by
 refine ⟨?_,by simpa using h.ld,h.la⟩
 have hl:=h.ld
 rw [heap_setCell_same w b i.toNat _ _ (.int .i64 x) h.row]
 unfold Zdd
 rw [List.setIfInBounds_toArray,List.set_append_left _ _ (by simp;omega),List.map_set]
theorem IsSr.seta {w:World} {b:Nat} {d a:List Int} (h:IsSr w b d a) (i x:Int) (h0:0<=i) (h1:i<=16):IsSr (w.setCell ⟨b,17+i.toNat,none⟩ (.int .u8 x)) b d (a.set i.toNat x):=by
 refine ⟨?_,h.ld,by simpa using h.la⟩
 have hl:=h.ld
 rw [heap_setCell_same w b (17+i.toNat) _ _ (.int .u8 x) h.row]
 unfold Zdd
 rw [List.setIfInBounds_toArray,List.set_append_right _ _ (by simp;omega),List.length_map,hl,show 17+i.toNat-17=i.toNat by omega,List.map_set]
def Bd (d:List Int) (B:Int):Prop:=∀i,-B<=gI d i/\gI d i<=0
theorem bd_relax {d a:List Int} {x B:Int} (h:Bd d B) (_hB:0<=B) (e:Ed) (hc: -1<=e.2.2) (hl:e.2.1.toNat<d.length):Bd (Yo (d,a,x) e).1 (B+1):=by
 unfold Yo
 simp only
 split
 ·rename_i hlt
  intro i
  simp only
  rw [Znc _ _ _ _ hl]
  have h1:=h e.1
  have h2:=h e.2.1
  have h3:=h i
  split<;>omega
 intro i
 have h3:=h i
 simp only
 omega
theorem once_any (b base:Nat) (v:Value) (es:List Ed) (d a:List Int) (B:Int) (w:World) (hS:IsSr w b d a) (h:Zn w base 3 v es.length (Yz es)) (hok:EOk es) (hne:∀g n c,v= .slice (some ⟨g,0,none⟩) n c->g≠b)
 (hbd:Bd d B) (hB0:0<=B) (hB:B+(es.length:Int)<=1000000):
 Calls Tryz.prog 276 #[.pointer (some ⟨b,0,none⟩),v] w (Znq (.int .u8 (Uk es d a).2.2) [b] (fun w'=>IsSr w' b (Uk es d a).1 (Uk es d a).2.1/\Bd (Uk es d a).1 (B+es.length)) w):=by
 obtain ⟨A,cap,rfl,h1,h2,h3,h4⟩:=h
 have hn63:(es.length:Int)<=9223372036854775807:=by omega
 have hlb:b<w.heap.size:=Zg hS.row
 go_enter Tryz.func276,Tryz.ntmps276
 go_wp2
 go_loopw [5,7,8,11] (fun lv _ _ i wr=>∃k:Nat,k<=es.length/\i= .int .i64 k/\lv= .int .u8 ((es.take k).foldl Yo (d,a,0)).2.2/\Keep [b] w wr/\IsSr wr b ((es.take k).foldl Yo (d,a,0)).1 ((es.take k).foldl Yo (d,a,0)).2.1/\Bd ((es.take k).foldl Yo (d,a,0)).1 (B+k)) (fun _ _ _ i _=>es.length-(intOf i).toNat)
 case atStart=>exact ⟨0,Nat.zero_le _,rfl,rfl,Keep.refl _ _,hS,by simpa using hbd⟩
 obtain ⟨k,hk,rfl,rfl,kr,hSr,hbr⟩:=hrel
 by_cases hkn:k<es.length
 ·rcases h4 with h4 | ⟨g,rfl,hb,hlt,hcell⟩
  ·omega
  have hgb:=hne g _ _ rfl
  have hld:=load_ed wr g k es hkn (fun j u hu=>by rw [Zf (kr.block g hlt (by simpa using hgb))];exact hcell j u hu)
  obtain ⟨q1,q2,q3,q4,_,q5,q6⟩:=hok _ (List.getElem_mem hkn)
  have HT:=Lib.hid (show (es.take (k+1)).foldl Yo (d,a,0)=Yo ((es.take k).foldl Yo (d,a,0)) (es[k]'hkn) by rw [List.take_succ_eq_append_getElem hkn,List.foldl_append];rfl)
  generalize (es.take k).foldl Yo (d,a,0)=st at *
  generalize (es[k]'hkn)=e at *
  obtain ⟨u,x,c⟩:=e
  obtain ⟨dk,ak,lk⟩:=st
  simp only at q1 q2 q3 q4 q5 q6 hSr hbr
  simp only [edAgg] at hld
  have hbx:=bd_relax (a:=ak) (x:=lk) hbr (by omega) (u,x,c) q5 (by have:=hSr.ld;simp only;omega)
  have hu:=hbr u
  have hx:=hbr x
  have HBX:=Lib.hid hbx
  have hzr:=Zb wr (.cells #[.int .u8 0,.int .u8 0,.int .i8 0] 399)
  have ezr:=Zc wr (.cells #[.int .u8 0,.int .u8 0,.int .i8 0] 399)
  have hlbr:=Zg hSr.row
  have hk1:(0:Int)<=(k:Int):=by omega
  have hk2:(k:Int)<(es.length:Int):=by omega
  have hk3:decide ((k:Int)<(es.length:Int))=true:=by simpa using hkn
  have hu1:(0:Int)<=u:=by omega
  have hu2:u<17:=by omega
  have hx1:(0:Int)<=x:=by omega
  have hx2:x<17:=by omega
  have hgu1: -2000000<=gI dk u:=by omega
  have hgu2:gI dk u<=0:=by omega
  have HBR:=Lib.hid hbr
  have HU:=Lib.hid (And.intro q2 q4)
  clear hbx hbr hu hx
  go_wp2_with (first
   | (refine Zd rfl 399 _ _ _ rfl rfl hld ?_)
   | (refine Ze rfl rfl 399 _ _ rfl wr.heap.size _ rfl rfl 399 _ hzr (by kernel_rfl) (by rfl) (by rfl) ?_
      intro w5 hb5 ho5 hs5
      have e5:Ext wr w5:=hb5 _ _ (Nat.le_refl _) ezr))
  have hS5:=hSr.ext e5
  obtain ⟨eb,heb⟩:∃eb,eb=wr.heap.size:=⟨_,rfl⟩
  rw [<-heb] at hs5 ⊢
  have hebb:eb≠b:=by omega
  clear hzr ezr hb5 ho5 heb hld hSr
  refine Z9 Zl [] (by kernel_rfl) (by kernel_rfl) ?_
  intro w1 hw1
  have x0:=fun z:ExtOf w1=>Za (j:=0) ((Xt hw1 z.h).at hs5) rfl
  have x2:=fun z:ExtOf w1=>Za (j:=2) ((Xt hw1 z.h).at hs5) rfl
  have y0:∀z:ExtOf w1,z.to.cell? ⟨b,u.toNat,none⟩=_:=fun z=>(hS5.ext (Xt hw1 z.h)).dist u hu1 (by omega)
  simp only [Zk,Rg.hsB,Nat.reduceAdd,↓reduceIte]
  repeat (go_big_quiet_step (fail))
  refine wpQuiet_nil ?_
  refine Xc (by kernel_rfl) ?_
  intro w6 e6 e6'
  try simp only [Act.put,Rg.puC,Rg.puB]
  clear x0 x2 y0 hw1
  have hs6:=e6.at hs5
  have hS6:=hS5.ext e6
  have e56:=Xt e5 e6
  clear hs5 hS5 e5 e6
  go_wp2_with fail
  refine Z9 Zl [] (by kernel_rfl) (by kernel_rfl) ?_
  intro w1 hw1
  have x1:=fun z:ExtOf w1=>Za (j:=1) ((Xt hw1 z.h).at hs6) rfl
  have y1:∀z:ExtOf w1,z.to.cell? ⟨b,x.toNat,none⟩=_:=fun z=>(hS6.ext (Xt hw1 z.h)).dist x hx1 (by omega)
  simp only [Zk,Rg.hsB,Nat.reduceAdd,↓reduceIte]
  repeat (go_big_quiet_step (fail))
  refine wpQuiet_nil ?_
  refine Xc (by kernel_rfl) ?_
  intro w7 e7 e7'
  try simp only [Act.put,Rg.puC,Rg.puB]
  clear x1 y1 hw1
  have hs7:=e7.at hs6
  have hS7:=hS6.ext e7
  have e07:=Xt e56 e7
  clear hs6 hS6 e7 e56
  have hcase:(gI dk u+c<gI dk x/\decide (gI dk u+c<gI dk x)=true)\/(¬gI dk u+c<gI dk x/\decide (gI dk u+c<gI dk x)=false):=by
   by_cases h:gI dk u+c<gI dk x
   ·exact .inl ⟨h,by simpa using h⟩
   exact .inr ⟨h,by simpa using h⟩
  generalize decide (gI dk u+c<gI dk x)=bb at *
  have hkb:B+(k:Int)+1=B+((k+1:Nat):Int):=by omega
  rw [hkb] at HBX
  rcases hcase with ⟨hlt,rfl⟩ | ⟨hlt,rfl⟩
  ·have HR:=Lib.hid (show Yo (dk,ak,lk) (u,x,c)=(dk.set x.toNat (gI dk u+c),ak.set x.toNat u,x) by unfold Yo;rw [if_pos hlt])
   clear hlt
   go_wp2_with fail
   refine RgK.Zh [b] Zl 19 [14,17,18] (by kernel_rfl) (by kernel_rfl) (by kernel_rfl) ?_
   intro w1 hw1
   have x0:∀q:KeepOf [b] w1,q.to.cell? ⟨eb,0,none⟩=_:=fun q=>Za (j:=0) ((hw1.trans q.h).at hs7 (by simpa using hebb)) rfl
   have x1:∀q:KeepOf [b] w1,q.to.cell? ⟨eb,1,none⟩=_:=fun q=>Za (j:=1) ((hw1.trans q.h).at hs7 (by simpa using hebb)) rfl
   simp only [Zk,Rg.hsB,Nat.reduceBEq,Nat.reduceAdd,↓reduceIte]
   repeat (go_big_quiet_step (fail))
   refine wpQuiet_nil ?_
   intro ex1
   clear x0 x1
   refine RgK.Zic 14 _ 3 _ _ rfl rfl rfl (by kernel_rfl) (by decide) rfl ⟨b,x.toNat,none⟩ (.int .i64 (gI dk u+c)) rfl rfl (fun w' hw'=>by
    have c0:=(hS7.ext (Xt ex1 hw')).dist x hx1 (by omega)
    have f0:=(hS7.ext (Xt ex1 hw')).free x.toNat
    go_simp) (Or.inl (by simp)) ?_
   intro wq hwq kq
   have hSq:=(hS7.ext (Xt ex1 hwq)).setd x (gI dk u+c) hx1 (by omega)
   refine RgK.Xv 17 _ (.pointer (some ⟨b,17+x.toNat,none⟩)) rfl (by kernel_rfl) (by decide) rfl (fun w' hw'=>by go_simp) ?_
   intro wv kv hwv
   have hSv:=hSq.ext hwv
   refine RgK.Zic 18 _ 24 _ _ rfl rfl rfl (by kernel_rfl) (by decide) rfl ⟨b,17+x.toNat,none⟩ (.int .u8 u) rfl rfl (fun w' hw'=>by
    have c0:=(hSv.ext hw').ahead x hx1 (by omega)
    have f0:=(hSv.ext hw').free (17+x.toNat)
    go_simp) (Or.inl (by simp)) ?_
   intro ws hws ks
   have hSs:=(hSv.ext hws).seta x u hx1 (by omega)
   refine RgK.Zj (by kernel_rfl) ?_
   intro wy ey ey'
   simp only [Act.put,Rg.puB]
   have hSz:=hSs.ext ey'
   have KW:=Lib.hid ((kr.trans (Kx e07)).trans ey)
   clear hw1 ex1 hwq kq ey ey' hSq hSv hSs kv hwv hws ks hS7 hs7 e07
   go_wp2
   exact ⟨⟨k+1,by omega,by go_num,by rw [HT.out,HR.out],KW.out,by rw [HT.out,HR.out];exact hSz,by rw [HT.out,HR.out];rw [HR.out] at HBX;exact HBX.out⟩,by simp [intOf];omega⟩
  have HR:=Lib.hid (show Yo (dk,ak,lk) (u,x,c)=(dk,ak,lk) by unfold Yo;rw [if_neg hlt])
  clear hlt
  go_wp2_with fail
  have HBX2:=HBX.out
  rw [HR.out] at HBX2
  exact ⟨⟨k+1,by omega,by go_num,by rw [HT.out,HR.out],kr.trans (Kx e07),by rw [HT.out,HR.out];exact hS7,by rw [HT.out,HR.out];exact HBX2⟩,by simp [intOf];omega⟩
 have hk':k=es.length:=by omega
 subst hk'
 rw [List.take_length]
 have hk3:decide ((es.length:Int)<(es.length:Int))=false:=by simp
 have hbr2:Bd (Uk es d a).1 (B+es.length):=by
  rw [List.take_length] at hbr
  exact hbr
 rw [List.take_length] at hSr
 clear hbr
 have HST:=Lib.hid (show Uk es d a=es.foldl Yo (d,a,0) from rfl)
 generalize es.foldl Yo (d,a,0)=st at *
 rw [HST.out] at hbr2
 go_wp2
 go_ret
 rw [HST.out]
 exact ⟨rfl,kr,hSr,hbr2⟩
end Go.Proofs.YtipjchbdogmccaaGreat
namespace Go.RgK
open Go.RowKit Go.Rg
section
variable {S:List Nat} {P:Program} {ops:Array Oper} {md:Region.Mode}
theorem wpX_val2 {n f:Nat} {L:Array Bool->Act->World->Prop} {listed:Array Bool} {a:Act} {w0 w:World} (i j:Nat) (oi oj:Oper) (vi vj:Value) (hgi:oi.guard=none) (hgj:oj.guard=none)
 (hr:Region.ready md ops listed=[i,j]) (hri:Region.ready md ops (listed.setIfInBounds i true)=[j]) (hrj:Region.ready md ops (listed.setIfInBounds j true)=[i]) (hin:i<n) (hjn:j<n) (hij:i≠j)
 (hoi:ops[i]? =some oi) (hoj:ops[j]? =some oj) (hd:∀d,oi.dst=some d->oj.dst≠some d)
 (hli:∀w',Ext w w'->(execOp a.eval oi).run P w'= .ok (.value vi) w') (hlj:∀w',Ext w w'->(execOp a.eval oj).run P w'= .ok (.value vj) w')
 (hli':∀w',Ext w w'->(execOp (a.put oj.dst vj).eval oi).run P w'= .ok (.value vi) w') (hlj':∀w',Ext w w'->(execOp (a.put oi.dst vi).eval oj).run P w'= .ok (.value vj) w')
 (h:∀w':World,Keep S w0 w'->Ext w w'->wpX S P md ops w0 n L f ((listed.setIfInBounds i true).setIfInBounds j true) ((a.put oi.dst vi).put oj.dst vj) w'):wpX S P md ops w0 n L (f+2) listed a w:=by
 refine Za0 i j oi oj hr hin hjn hoi hoj hgi hgj (fun w' h0 hw'=> ?_) (fun w' h0 hw'=> ?_)
 ·unfold Xn
  rw [hli w' hw']
  exact ⟨h0,Xv j oj vj hgj hri hjn hoj (fun w2 hw2=>hlj' w2 (Xt hw' hw2)) fun w2 h02 hw2=>h w2 h02 (Xt hw' hw2)⟩
 unfold Xn
 rw [hlj w' hw']
 refine ⟨h0,Xv i oi vi hgi hrj hin hoi (fun w2 hw2=>hli' w2 (Xt hw' hw2)) fun w2 h02 hw2=> ?_⟩
 rw [Array.setIfInBounds_comm _ _ (Ne.symm hij),<-Act.put_comm a _ _ hd]
 exact h w2 h02 (Xt hw' hw2)
end
end Go.RgK
namespace Go.Proofs.YtipjchbdogmccaaGreat
open Go.RowKit Go.Rg Go.BigFrame
def Zpy (l d:List Int) (k:Nat):Prop:=d.length=l.length/\∀m,m<l.length->d[m]? =if m<k\/l.length-k<=m then l[l.length-1-m]? else l[m]?
theorem Zn5 (l:List Int):Zpy l l 0:=⟨rfl,fun m hm=>by rw [if_neg (by omega)]⟩
theorem Zql {l d:List Int} {k:Nat} (h:Zpy l d k) (hk:2*k+1<l.length) (x y:Int) (hx:d[l.length-1-k]? =some x) (hy:d[k]? =some y):Zpy l ((d.set k x).set (l.length-1-k) y) (k+1):=by
 obtain ⟨h1,h2⟩:=h
 refine ⟨by simpa using h1,fun m hm=> ?_⟩
 have hx':=h2 (l.length-1-k) (by omega)
 have hy':=h2 k (by omega)
 rw [if_neg (by omega)] at hx' hy'
 rw [List.getElem?_set,List.getElem?_set]
 simp only [List.length_set]
 have hm2:=h2 m hm
 by_cases e1:l.length-1-k=m
 ·rw [if_pos e1,if_pos (by omega),if_pos (by omega),show l.length-1-m=k by omega,<-hy',hy]
 rw [if_neg e1]
 by_cases e2:k=m
 ·rw [if_pos e2,if_pos (by omega),if_pos (by omega),<-e2,<-hx',hx]
 rw [if_neg e2,hm2]
 by_cases c:m<k\/l.length-k<=m
 ·rw [if_pos c,if_pos (by omega)]
 rw [if_neg c,if_neg (by omega)]
theorem revTo_end {l d:List Int} {k:Nat} (h:Zpy l d k) (hk:l.length<=2*k+1):d=l.reverse:=by
 obtain ⟨h1,h2⟩:=h
 refine List.ext_getElem? fun m=> ?_
 by_cases hm:m<l.length
 ·rw [h2 m hm,List.getElem?_reverse hm]
  split
  ·rfl
  rw [show l.length-1-m=m by omega]
 rw [List.getElem?_eq_none (by omega),List.getElem?_eq_none (by simp;omega)]
theorem prev_any (base g cap:Nat) (l:List Int) (w:World) (h:w.ownsRow base 24 1 (.slice (some ⟨g,0,none⟩) l.length cap) l.length (l.map (Value.int .u8))) (hl1:1<=l.length) (hl2:l.length<=1024):
 Calls Tryz.prog 277 #[.slice (some ⟨g,0,none⟩) l.length cap] w (fun e w'=>e= .returned (.tuple #[])/\Keep [g] w w'/\w'.ownsRow base 24 1 (.slice (some ⟨g,0,none⟩) l.length cap) l.length (l.reverse.map (Value.int .u8))):=by
 have hlt0:=(Yc h).1
 go_enter Tryz.func277,Tryz.ntmps277
 go_wp2
 go_loopw [2,3] (fun iv jv wr=>∃(k:Nat) (d:List Int),2*k<=l.length+1/\iv= .int .i64 k/\jv= .int .i64 ((l.length:Int)-1-k)/\Zpy l d k/\Keep [g] w wr/\wr.ownsRow base 24 1 (.slice (some ⟨g,0,none⟩) l.length cap) l.length (d.map (Value.int .u8))) (fun iv _ _=>l.length+1-(intOf iv).toNat)
 case atStart=>exact ⟨0,l,by omega,rfl,by first | rfl | (congr 1;omega),Zn5 l,Keep.refl _ _,h⟩
 obtain ⟨k,d,hk,rfl,rfl,hd,kr,hown⟩:=hrel
 by_cases hc:2*k+1<l.length
 ·have hc':decide ((k:Int)<(l.length:Int)-1-k)=true:=by simp;omega
  have hdl:=hd.1
  obtain ⟨hlt,hcells⟩:=Yc hown
  obtain ⟨cur,hrow⟩:=Us hown
  obtain ⟨j,hj⟩:∃j:Nat,j=l.length-1-k:=⟨_,rfl⟩
  have hji:(l.length:Int)-1-k=(j:Int):=by omega
  rw [hji] at hc' ⊢
  obtain ⟨x,hx⟩:∃x,d[j]? =some x:=⟨_,List.getElem?_eq_getElem (by omega)⟩
  obtain ⟨y,hy⟩:∃y,d[k]? =some y:=⟨_,List.getElem?_eq_getElem (by omega)⟩
  have cx:=hcells j (.int .u8 x) (by rw [List.getElem?_map,hx];rfl)
  have cy:=hcells k (.int .u8 y) (by rw [List.getElem?_map,hy];rfl)
  have hst:=Zql hd hc x y (by rw [<-hj];exact hx) hy
  rw [<-hj] at hst
  have HST:=Lib.hid hst
  have HJ:=Lib.hid hj
  have k1:(0:Int)<=(k:Int):=by omega
  have k2:(k:Int)<(l.length:Int):=by omega
  have j1:(0:Int)<=(j:Int):=by omega
  have j2:(j:Int)<(l.length:Int):=by omega
  have FR:=Lib.hid (fun (m:Nat) (W:World) (kk:Ext wr W)=>frozen_of_row W g m _ _ (kk.at hrow))
  have HX:=Lib.hid hx
  have hjk:k<j:=by omega
  clear hst hx hy hd hcells hj
  go_wp2_with fail
  refine RgK.Zh [g] Zl 14 [7,11,12,13] (by kernel_rfl) (by kernel_rfl) (by kernel_rfl) ?_
  intro w1 hw1
  simp only [Zk,Rg.hsB,Nat.reduceBEq,Nat.reduceAdd,↓reduceIte]
  repeat (go_big_quiet_step (fail))
  refine wpQuiet_nil ?_
  intro hx1
  have CX:=Lib.hid (fun (W:World) (kk:Ext wr W)=>(Zf (a:=⟨g,j,none⟩) (kk.block hlt)).trans cx)
  have CY:=Lib.hid (fun (W:World) (kk:Ext wr W)=>(Zf (a:=⟨g,k,none⟩) (kk.block hlt)).trans cy)
  clear cx cy
  refine RgK.wpX_val2 7 11 _ _ (.int .u8 x) (.int .u8 y) rfl rfl (by kernel_rfl) (by kernel_rfl) (by kernel_rfl) (by decide) (by decide) (by decide) rfl rfl (fun d h=>by cases h;decide)
   (fun w' hw'=>Ve 24 _ _ ⟨g,j,none⟩ rfl rfl (by have c0:=CX.out w' (Xt hx1 hw');go_simp))
   (fun w' hw'=>Ve 24 _ _ ⟨g,k,none⟩ rfl rfl (by have c0:=CY.out w' (Xt hx1 hw');go_simp))
   (fun w' hw'=>Ve 24 _ _ ⟨g,j,none⟩ rfl rfl (by have c0:=CX.out w' (Xt hx1 hw');go_simp))
   (fun w' hw'=>Ve 24 _ _ ⟨g,k,none⟩ rfl rfl (by have c0:=CY.out w' (Xt hx1 hw');go_simp)) ?_
  intro wa ka hwa
  refine RgK.Xv 12 _ (.pointer (some ⟨g,k,none⟩)) rfl (by kernel_rfl) (by decide) rfl (fun w' hw'=>by go_simp) ?_
  intro wb kb hwb
  have e1:=Xt (Xt hx1 hwa) hwb
  refine RgK.Zic 13 _ 24 _ _ rfl rfl rfl (by kernel_rfl) (by decide) rfl ⟨g,k,none⟩ (.int .u8 x) rfl rfl (fun w' hw'=>by
   have c0:=CY.out w' (Xt e1 hw')
   have f0:=FR.out k w' (Xt e1 hw')
   go_simp) (Or.inl (by simp)) ?_
  intro wc hwc kc
  have ho1:=Zad (Zo hown (Xt e1 hwc)) k (.int .u8 x)
  refine RgK.Zj (by kernel_rfl) ?_
  intro wd kd kd'
  simp only [Act.put,Rg.puB]
  have ho2:=Zo ho1 kd'
  obtain ⟨cur2,hrow2⟩:=Us ho2
  have f2:=frozen_of_row wd g j _ _ hrow2
  have c2:=(Yc ho2).2 j (.int .u8 x) (by
   rw [List.getElem?_set_ne (by omega),List.getElem?_map,HX.out];rfl)
  have ho3:=Zad ho2 j (.int .u8 y)
  rw [<-List.map_set,<-List.map_set] at ho3
  have K3:=Lib.hid ((kr.trans kd).trans ((Keep.refl [g] wd).setCell (p:=⟨g,j,none⟩) (Or.inl (by simp)) (.int .u8 y)))
  clear hw1 hx1 ka hwa kb hwb e1 hwc kc ho1 kd kd'
  go_wp2
  have:=HJ.out
  exact ⟨⟨k+1,_,by omega,by go_num,by congr 1;omega,HST.out,K3.out,ho3⟩,by simp [intOf];omega⟩
 have hc':decide ((k:Int)<(l.length:Int)-1-k)=false:=by simp;omega
 have HE:=Lib.hid (revTo_end hd (by omega))
 clear hd
 go_wp2
 rw [<-HE.out]
 exact bodyPost_end (results_none (by kernel_rfl) _ _ _) rfl ⟨rfl,kr,hown⟩
theorem pgrow_any (n:Nat) (w:World) (h1:1<=n) (h2:n<=1024):
 Calls Tryz.prog 314 #[.slice none 0 0,.int .i64 n] w (fun e w'=>∃v,e= .returned v/\Ext w w'/\w'.ownsRow w.heap.size 24 1 v 0 []):=by
 obtain ⟨i0,hi,hz0,hz1,hz2⟩:=info_parts Zbv
 have hold:(Builtin.firstCells i0.size 0 (.slice none 0 0)).run Tryz.prog w.drew= .ok ([]:List Value).toArray w.drew:=run_firstCells_none _ _ _ _ _
 have hrz:=fun ty=>Lib.run_append_grow_zeros w 43 3 ty 24 i0 _ .i64 .i64 Tryz.underlying43 Tryz.underlying3 hi hz0 none 0 0 [] hold n (by omega) (by omega) (by omega) (by omega) (by rw [hz2];omega)
  (by rw [hz2];exact Nat.le_trans (Nat.mul_le_mul_right _ (Nat.le_refl _)) (by simp [Builtin.nextslicecap];split<;>omega))
 have hGn:n<=grownCap w n 0 24:=grownCap_ge w _ _ _
 have hG63:=grownCap_le_maxLen w n 0 24 (by unfold maxLen;omega)
 simp only [Nat.zero_add] at hrz
 obtain ⟨G,hG⟩:∃G,G=grownCap w n 0 24:=⟨_,rfl⟩
 rw [<-hG] at hrz hGn hG63
 have hG':G<=9223372036854775807:=by unfold maxLen at hG63;omega
 have HS:=Lib.hid (show ((([]:List Value).toArray++Builtin.zeroCells (Value.int .u8 0).cells n++Builtin.zeroCells (Value.int .u8 0).cells (G-n)):Array Value).size=G from by
  rw [Array.size_append,Array.size_append,size_zeroCells,size_zeroCells]
  show 0+n*1+(G-n)*1=G
  omega)
 generalize (([]:List Value).toArray++Builtin.zeroCells (Value.int .u8 0).cells n++Builtin.zeroCells (Value.int .u8 0).cells (G-n):Array Value)=cs at *
 have hn0:decide ((0:Int)<(n:Int))=true:=by simp;omega
 have EA:=Zc w.drew (.cells cs 24)
 have HT:=Zb w.drew (.cells cs 24)
 have HG:=Lib.hid hG63
 clear hold hG hz0 hz1 hz2 hi hG63
 go_enter Tryz.func314,Tryz.ntmps314
 go_wp2_with (at_builtin;refine Lib.wpList_append_run _ rfl _ _ _ _ rfl _ _ rfl rfl _ _ (hrz _) ?_)
 go_ret
 refine ⟨_,rfl,?_,by simp,.inr ⟨w.heap.size,G,cs,rfl,Nat.le_refl _,HT,Nat.zero_le _,HG.out,by rw [HS.out,Nat.mul_one],by simp⟩⟩
 exact Xt ((Ext.refl w).drew) EA
def Zj8 (w:World) (v:Value) (l:List Value):Prop:=∃ad c,v= .slice (some ad) l.length c/\ad.block<w.heap.size/\∀j u,l[j]? =some u->w.cell? (ad.add j)=some u
theorem Zj8.ext {w w':World} {v:Value} {l:List Value} (h:Zj8 w v l) (k:Ext w w'):Zj8 w' v l:=by
 obtain ⟨ad,c,h1,h2,h3⟩:=h
 refine ⟨ad,c,h1,by have:=k.size;omega,fun j u hu=> ?_⟩
 have hb:(ad.add j).block=ad.block:=by unfold Addr.add;split<;>rfl
 have hk:w'.heap[(ad.add j).block]? =w.heap[(ad.add j).block]? :=by rw [hb];exact k.block h2
 exact (Zf hk).trans (h3 j u hu)
theorem Zoc (ga:Nat) (v1 v2:Value) (c1 c2:List Int) (fr:Nat×Nat) (t:TypeId) (w:World) (hr:w.heap[ga]? =some (.cells #[v1,v2] t fr)) (h1:Zj8 w v1 (c1.map (Value.int .u8))) (h2:Zj8 w v2 (c2.map (Value.int .u8)))
 (hl1:1<=c1.length) (hl:c1.length+c2.length<=1024):
 Calls Tryz.prog 280 #[.slice (some ⟨ga,0,none⟩) 2 2] w (Zfk 1 (c1++c2).length ((c1++c2).map (Value.int .u8)) w):=by
 obtain ⟨i0,hi,hz0,hz1,hz2⟩:=info_parts Zbv
 have hgr:=fun W=>pgrow_any (c1.length+c2.length) W (by omega) hl
 simp only [Int.natCast_add] at hgr
 have hga:=Zg hr
 go_enter Tryz.func280,Tryz.ntmps280
 go_wp2
 go_loopw [3,5,11] (fun sv _ iv wr=>∃k:Nat,k<=2/\iv= .int .i64 k/\sv= .int .i64 (((if 1<=k then c1.length else 0)+(if 2<=k then c2.length else 0):Nat):Int)/\Ext w wr) (fun _ _ iv _=>2-(intOf iv).toNat)
 case atStart=>exact ⟨0,by omega,rfl,rfl,Ext.refl _⟩
 obtain ⟨k,hk,rfl,rfl,e1⟩:=hrel
 have hr1:=e1.at hr
 by_cases hk0:k=0
 ·subst hk0
  obtain ⟨ad,c,rfl,_,_⟩:=h1
  have cc:=Za (j:=0) hr1 rfl
  simp only [List.length_map] at cc
  go_wp2
  exact ⟨⟨1,by omega,by first | rfl | go_num,by first | rfl | simp,e1⟩,by simp [intOf]⟩
 by_cases hk1:k=1
 ·subst hk1
  obtain ⟨ad,c,rfl,_,_⟩:=h2
  have cc:=Za (j:=1) hr1 rfl
  simp only [List.length_map] at cc
  go_wp2
  exact ⟨⟨2,by omega,by first | rfl | go_num,by first | rfl | simp,e1⟩,by simp [intOf]⟩
 have hk2:k=2:=by omega
 subst hk2
 go_wp2_with fail
 refine (hgr wr).mono ?_
 rintro e w3 ⟨v,rfl,e3,hown⟩
 have hown0:=Uj hown e1.size
 have e13:=Xt e1 e3
 clear hgr hown hr1
 go_wp2
 go_loopw [6,8,27] (fun sv _ iv wq=>∃k:Nat,k<=2/\iv= .int .i64 k/\Ext w wq/\wq.ownsRow w.heap.size 24 1 sv (if k=0 then 0 else if k=1 then c1.length else c1.length+c2.length) ((if k=0 then [] else if k=1 then c1 else c1++c2).map (Value.int .u8))) (fun _ _ iv _=>2-(intOf iv).toNat)
 case atStart=>exact ⟨0,by omega,rfl,e13,hown0⟩
 obtain ⟨k,hk,rfl,eq1,ho⟩:=hrel
 have hrq:=eq1.at hr
 by_cases hk0:k=0
 ·subst hk0
  simp only [if_true,List.map_nil] at ho
  obtain ⟨ad,c,rfl,hlt,hcell⟩:=h1.ext eq1
  have hone:∀u∈c1.map (Value.int .u8),u.oneCell'=true:=fun u hu=>by
   obtain ⟨x,_,rfl⟩:=List.mem_map.1 hu
   rfl
  have hlm:(c1.map (Value.int .u8)).length=c1.length*1:=by simp
  generalize hnews:c1.map (Value.int .u8)=news at *
  have hnl:news.length=c1.length:=by omega
  rw [hnl] at hrq
  have cc:=Za (j:=0) hrq rfl
  have HB:=Lib.hid (fun q hq=>(ho.lt q hq).1)
  have hsz:=eq1.size
  go_wp2_with (first
   | (at_builtin;refine wpList_append_own _ rfl _ _ 43 rfl w.heap.size 24 i0 (.int .u8 0) 1 1 Tryz.underlying43 hi hz0 hz1 hz2 rfl (by decide) _ _ _ rfl ho ad c1.length c news rfl hlm hcell hone (by unfold maxLen;omega) (by omega) hsz ?_;intro v' w4 hown' hgrow4 hnil4))
  rw [Nat.zero_add,List.nil_append] at hown'
  refine ⟨⟨1,by omega,by first | rfl | go_num,eq1.grown hgrow4 eq1.size HB.out,?_⟩,by simp [intOf]⟩
  simp only [Nat.one_ne_zero,if_false,if_true]
  rw [hnews]
  exact hown'
 by_cases hk1:k=1
 ·subst hk1
  simp only [Nat.one_ne_zero,if_false,if_true] at ho
  obtain ⟨ad,c,rfl,hlt,hcell⟩:=h2.ext eq1
  have hone:∀u∈c2.map (Value.int .u8),u.oneCell'=true:=fun u hu=>by
   obtain ⟨x,_,rfl⟩:=List.mem_map.1 hu
   rfl
  have hlm:(c2.map (Value.int .u8)).length=c2.length*1:=by simp
  generalize hnews:c2.map (Value.int .u8)=news at *
  have hnl:news.length=c2.length:=by omega
  rw [hnl] at hrq
  have cc:=Za (j:=1) hrq rfl
  have HB:=Lib.hid (fun q hq=>(ho.lt q hq).1)
  have hsz:=eq1.size
  go_wp2_with (first
   | (at_builtin;refine wpList_append_own _ rfl _ _ 43 rfl w.heap.size 24 i0 (.int .u8 0) 1 1 Tryz.underlying43 hi hz0 hz1 hz2 rfl (by decide) _ _ _ rfl ho ad c2.length c news rfl hlm hcell hone (by unfold maxLen;omega) (by omega) hsz ?_;intro v' w4 hown' hgrow4 hnil4))
  refine ⟨⟨2,by omega,by first | rfl | go_num,eq1.grown hgrow4 eq1.size HB.out,?_⟩,by simp [intOf]⟩
  rw [if_neg (by decide),if_neg (by decide),if_neg (by decide),if_neg (by decide),List.map_append,hnews]
  exact hown'
 have hk2:k=2:=by omega
 subst hk2
 rw [if_neg (by decide),if_neg (by decide),if_neg (by decide),if_neg (by decide)] at ho
 have HO:=Lib.hid (Zn.of_own ho)
 obtain ⟨A,cap,rfl⟩:=Z7 ho
 clear ho
 go_wp2
 go_ret
 exact ⟨_,rfl,eq1,by rw [List.length_append];exact HO.out⟩
def AB (a:List Int):Prop:=∀i,0<=gI a i/\gI a i<=16
theorem ab_relax {d a:List Int} {x:Int} (h:AB a) (e:Ed) (he:1<=e.1/\e.1<=16) (hl:e.2.1.toNat<a.length):AB (Yo (d,a,x) e).2.1:=by
 unfold Yo
 simp only
 split
 ·intro i
  simp only
  rw [Znc _ _ _ _ hl]
  have:=h i
  split<;>omega
 exact h
theorem ab_fold {es:List Ed} (hok:EOk es):∀(l:List Ed),(∀e∈l,e∈es)->∀(d a:List Int) (x:Int),AB a->a.length=17->AB (l.foldl Yo (d,a,x)).2.1/\(l.foldl Yo (d,a,x)).2.1.length=17
 | [],_,_,a,_,h,hl=>⟨h,hl⟩
 | e::l,hm,d,a,x,h,hl=>by
   obtain ⟨q1,q2,q3,q4,_⟩:=hok e (hm e (by simp))
   rw [List.foldl_cons]
   have h1:=ab_relax (d:=d) (x:=x) h e ⟨q1,q2⟩ (by omega)
   have h2:(Yo (d,a,x) e).2.1.length=17:=by
    unfold Yo
    simp only
    split
    ·simp [hl]
    exact hl
   exact ab_fold hok l (fun y hy=>hm y (by simp [hy])) _ _ _ h1 h2
theorem ab_once {es:List Ed} (hok:EOk es) {d a:List Int} (h:AB a) (hl:a.length=17):AB (Uk es d a).2.1:=(ab_fold hok es (fun _ he=>he) d a 0 h hl).1
theorem ab_zero:AB Zp:=by
 intro i
 unfold gI Zp
 rw [List.getD_eq_getElem?_getD,List.getElem?_replicate]
 split<;>simp
theorem bd_zero:Bd Zp 0:=by
 intro i
 unfold gI Zp
 rw [List.getD_eq_getElem?_getD,List.getElem?_replicate]
 split<;>simp
theorem bf_x {es:List Ed} (hok:EOk es) (h:(Vp es 16 Zp Zp 0).2≠0):1<=(Vp es 16 Zp Zp 0).2/\(Vp es 16 Zp Zp 0).2<=16:=by
 obtain ⟨d,tm,h1,h2,h3,h4⟩:=bf_go hok 16 0 Zp Zp 0 (fun _=>0) (by rw [Nat.zero_mul];exact Zpt es) rfl (.inl rfl) h
 exact ⟨h3,h4⟩
theorem ab_back {a:List Int} (h:AB a) {x:Int} (h0:0<=x) (h1:x<=16) (n:Nat):0<=Zy a n x/\Zy a n x<=16:=by
 cases n with
 | zero=>exact ⟨h0,h1⟩
 | succ n=>rw [X6];exact h _
theorem mem_flags {l:List Int} {pt:List Bool} (hpt:pt.length=17) (h:∀q:Nat,q<17->pt.getD q false=decide ((q:Int)∈l)) (x:Int) (h0:0<=x) (h1:x<=16):
 ∀q:Nat,q<17->(pt.set x.toNat true).getD q false=decide ((q:Int)∈l++[x]):=by
 intro q hq
 rw [List.getD_eq_getElem?_getD,List.getElem?_set]
 by_cases e:x.toNat=q
 ·rw [if_pos e,if_pos (by omega)]
  have:(q:Int)=x:=by omega
  simp [this]
 rw [if_neg e,<-List.getD_eq_getElem?_getD,h q hq]
 have:(q:Int)≠x:=by omega
 simp [this]
def lenV:Value->Nat
 | .slice _ n _=>n
 | _=>0
theorem round_any (base:Nat) (v:Value) (es:List Ed) (w:World) (h:Zn w base 3 v es.length (Yz es)) (hok:EOk es) (hl:es.length<=1000):
 Calls Tryz.prog 242 #[v] w (Zfk 1 (Vx es).length ((Vx es).map (.int .u8)) w):=by
 have hcl:=Zry base v es w h (by omega)
 go_enter Tryz.func242,Tryz.ntmps242
 go_wp2
 go_step3
 go_wp2_with fail
 refine hcl.mono ?_
 rintro e w1 ⟨v1,rfl,e1,hown⟩
 have hdl:=edel_any w.heap.size v1 es w1 (Zn.of_own hown) hok
 clear hcl
 go_wp2_with fail
 refine hdl.mono ?_
 rintro e w2 ⟨rfl,e2⟩
 have hown2:=Zo hown e2
 clear hdl hown
 go_wp2_with (first
  | (refine Zu rfl 405 rfl (.cells (Zdd Zp Zp) 405) _ rfl (by go_simp;rfl) ?_
     intro w3 e3 hb3))
 obtain ⟨sb,hsb⟩:∃sb,sb=w2.heap.size:=⟨_,rfl⟩
 have hS3:IsSr w3 sb Zp Zp:=⟨by rw [hsb];exact hb3,rfl,rfl⟩
 have hown3:=Zo hown2 e3
 have EW:=Xt e1 (Xt e2 e3)
 have hsbl:=Zg hS3.row
 have hapb:∀q,v1.ownBlock=some q->q∉[sb]:=fun q hq=>by
  have:=(hown2.lt q hq).2
  simp
  omega
 have hapart:∀g n c,v1= .slice (some ⟨g,0,none⟩) n c->g≠sb:=fun g n c hv=>by
  have:=hapb g (by rw [hv];rfl)
  simpa using this
 have hsbw:w.heap.size<=sb:=by have:=e1.size;have:=e2.size;omega
 rw [<-hsb]
 clear hsb hb3 hown2 e1 e2 e3
 go_step3
 go_wp2_with fail
 go_loopw [5,12,13,14,15,16,17] (fun xv iv _ _ _ _ _ wr=>∃(k:Nat) (d a:List Int) (x:Int),k<=16/\iv= .int .i64 k/\xv= .int .u8 x/\Keep [sb] w3 wr/\IsSr wr sb d a/\AB a/\Bd d ((k*es.length:Nat):Int)/\Vp es 16 Zp Zp 0=Vp es (16-k) d a x/\(k=0\/x≠0)) (fun _ iv _ _ _ _ _ _=>16-(intOf iv).toNat)
 case atStart=>exact ⟨0,Zp,Zp,0,by omega,rfl,rfl,Keep.refl _ _,hS3,ab_zero,by simpa using bd_zero,rfl,.inl rfl⟩
 obtain ⟨k,d,a,x,hk,rfl,rfl,kr,hSr,hab,hbd,hbf,hx⟩:=hrel
 by_cases hk16:k<16
 ·have hhk:(k:Int)<16:=by omega
  have hon:=once_any sb w.heap.size v1 es d a _ wr hSr (Zn.of_own (Zf1 hown3 kr hapb)) hok hapart hbd (by omega) (by
   have:k*es.length<=15*1000:=Nat.mul_le_mul (by omega) hl
   omega)
  have HU:=Lib.hid (show Vp es 16 Zp Zp 0=if (Uk es d a).2.2=0 then ((Uk es d a).2.1,0) else Vp es (16-(k+1)) (Uk es d a).1 (Uk es d a).2.1 (Uk es d a).2.2 from by
   rw [hbf,show 16-k=(16-(k+1))+1 by omega]
   rfl)
  have HAB:=Lib.hid (ab_once hok (d:=d) hab hSr.la)
  have HBL:=Lib.hid (show ((k*es.length:Nat):Int)+es.length=(((k+1)*es.length:Nat):Int) by rw [Nat.succ_mul];omega)
  generalize Uk es d a=st at *
  obtain ⟨d1,a1,x1⟩:=st
  clear hbf hab hbd hx hSr
  go_wp2_with fail
  refine hon.mono ?_
  rintro e w4 ⟨rfl,k4,hS4,hbd4⟩
  have k34:=kr.trans k4
  by_cases h0:x1=0
  ·subst h0
   have HR:=Lib.hid (show Vx es=[] by unfold Vx;rw [HU.out];simp)
   have EZ:=(Keep.trans_fresh (S:=[]) (Kx EW) k34 (fun y hy=>by right;simp at hy;omega)).ext
   go_wp2
   rw [Exit.noGoto_ret]
   go_ret
   rw [HR.out]
   exact ⟨.slice none 0 0,rfl,EZ,Zn.of_own (World.ownsRow_nil (e:=24) (base:=w.heap.size) (size:=1) w4)⟩
  have hx1:(x1==0)=false:=by simpa using h0
  have HX:=Lib.hid h0
  clear h0
  go_wp2
  refine ⟨⟨k+1,d1,a1,x1,by omega,by go_num,rfl,k34,hS4,HAB.out,?_,?_,.inr HX.out⟩,by simp [intOf];omega⟩
  ·rw [<-HBL.out];exact hbd4
  rw [HU.out];exact if_neg HX.out
 have hk':k=16:=by omega
 subst hk'
 have hx0:(x==0)=false:=by
  rcases hx with hx | hx
  ·omega
  simpa using hx
 simp only [Nat.sub_self] at hbf
 have hbf2:Vp es 16 Zp Zp 0=(a,x):=hbf
 clear hbf
 have hxne:x≠0:=by simpa using hx0
 have hrnd:=Zsa hok (by rw [hbf2];exact hxne)
 have hxr:=bf_x hok (by rw [hbf2];exact hxne)
 have HRR:=Lib.hid (show Vx es=Zhq (V6 a 17 [] (Zy a 16 x)).reverse (Zoy (V6 a 17 [] (Zy a 16 x)).reverse (Zkp (V6 a 17 [] (Zy a 16 x)).reverse)) by unfold Vx;rw [hbf2];rw [if_neg hxne])
 rw [hbf2] at hrnd hxr
 simp only at hrnd hxr
 have EZ:=(Keep.trans_fresh (S:=[]) (Kx EW) kr (fun y hy=>by right;simp at hy;omega)).ext
 have HABK:=Lib.hid (fun n=>ab_back hab (show 0<=x by omega) hxr.2 n)
 clear hbf2 hapart hapb hown3 hS3 kr EW hbd hab hx hxne hxr
 go_wp2_with fail
 go_loopw [5,21,22,23,24,25,26,27] (fun xv iv _ _ _ _ _ _ wq=>∃n:Nat,n<=16/\iv= .int .i64 n/\xv= .int .u8 (Zy a n x)/\Ext wr wq) (fun _ iv _ _ _ _ _ _ _=>16-(intOf iv).toNat)
 case atStart=>exact ⟨0,by omega,rfl,rfl,Ext.refl _⟩
 obtain ⟨n,hn,rfl,rfl,e5⟩:=hrel
 by_cases hn16:n<16
 ·have hnn:(n:Int)<16:=by omega
  have hbk:=HABK.out n
  have HBS:=Lib.hid (X6 a n x)
  generalize Zy a n x=q at *
  have q1:q<17:=by omega
  obtain ⟨q0,_⟩:=hbk
  have cc:=(hSr.ext e5).ahead q q0 (by omega)
  go_wp2
  exact ⟨⟨n+1,by omega,by go_num,by rw [HBS.out],e5⟩,by simp [intOf];omega⟩
 have hn':n=16:=by omega
 subst hn'
 have hS5:=hSr.ext e5
 have EZ5:=Xt EZ e5
 obtain ⟨y,hy⟩:∃y,y=Zy a 16 x:=⟨_,rfl⟩
 rw [<-hy] at hrnd HRR ⊢
 clear hSr EZ e5 HABK hy
 go_wp2_with (refine Zu rfl 201 rfl (.cells #[.bool false,.bool false,.bool false,.bool false,.bool false,.bool false,.bool false,.bool false,.bool false,.bool false,.bool false,.bool false,.bool false,.bool false,.bool false,.bool false,.bool false] 201) _ rfl (by go_simp) ?_
              intro w6 e6 hp6')
 obtain ⟨cb,hcb⟩:∃cb,cb=wr.heap.size:=⟨_,rfl⟩
 have hp6:w6.heap[cb]? =some (.cells ((List.replicate 17 false).map Value.bool).toArray 201 (0,0)):=by rw [hcb];exact hp6'
 have hcbw:w.heap.size<=cb:=by have:=EZ5.size;omega
 have hS6:=hS5.ext e6
 have hcs:sb≠cb:=by have:=Zg hS5.row;omega
 have EZ6:=Xt EZ5 e6
 have hpt0:∀q:Nat,q<17->(List.replicate 17 false).getD q false=decide ((q:Int)∈([]:List Int)):=fun q hq=>by
  rw [List.getD_eq_getElem?_getD,List.getElem?_replicate]
  simp [hq]
 rw [<-hcb]
 clear hcb hp6' hS5 EZ5 e6
 obtain ⟨i0,hi,hz0,hz1,hz2⟩:=info_parts Zbv
 go_loopw [5,7,28,29,30,31,32,33,34,35,36,37,38,39,40,41] (fun xv sv _ _ _ _ _ _ _ _ _ _ _ _ _ _ ws=>∃(l:List Int) (pt:List Bool),Coll a y l/\V6 a 17 [] y=V6 a (17-l.length) l (Zy a l.length y)/\xv= .int .u8 (Zy a l.length y)/\pt.length=17/\
  (∀q:Nat,q<17->pt.getD q false=decide ((q:Int)∈l))/\ws.heap[cb]? =some (.cells (pt.map Value.bool).toArray 201 (0,0))/\IsSr ws sb d a/\Ext w ws/\ws.ownsRow w.heap.size 24 1 sv l.length (l.map (Value.int .u8))/\lenV sv=l.length) (fun _ sv _ _ _ _ _ _ _ _ _ _ _ _ _ _ _=>17-lenV sv)
 case atStart=>exact ⟨[],_,Zjz a y,rfl,rfl,rfl,hpt0,hp6,hS6,EZ6,World.ownsRow_nil _ _ _ _,rfl⟩
 obtain ⟨l,pt,hc,hcg,rfl,hptl,hpt,hrow,hSr,EZ,hown,hlen⟩:=hrel
 rename World=>ws
 have hl16:=Zj0 hrnd hc
 have hq:=hrnd.ok l.length
 have hptq:=hpt (Zy a l.length y).toNat (by omega)
 have hcg2:V6 a (17-l.length) l (Zy a l.length y)=if Zy a l.length y∈l then l else V6 a (17-(l.length+1)) (l++[Zy a l.length y]) (Zy a (l.length+1) y):=by
  rw [show 17-l.length=(17-(l.length+1))+1 by omega,X6]
  rfl
 have hcst:=Zmc hrnd hc
 have hcend:=Zpp hrnd hc
 have hfl:=mem_flags hptl hpt (Zy a l.length y) (by omega) hq.2
 rw [show (((Zy a l.length y).toNat:Nat):Int)=Zy a l.length y by omega] at hptq
 have HBS:=Lib.hid (X6 a l.length y)
 by_cases hmem:Zy a l.length y∈l
 ·rw [if_pos hmem] at hcg2
  rw [hcg2] at hcg
  rw [hcg] at HRR
  have hl0:=(hcend hmem).2
  rw [decide_eq_true hmem] at hptq
  clear hcst hcend hfl hcg hcg2 HBS hmem hpt
  generalize Zy a l.length y=q at *
  have q1:q<17:=by omega
  have q0:0<=q:=by omega
  have cc:=Zlg ws cb q.toNat pt hrow (by omega)
  rw [hptq] at cc
  obtain ⟨g,cap,rfl⟩:∃g cap,u7= .slice (some ⟨g,0,none⟩) l.length cap:=by
   rcases hown.2 with ⟨_,h0⟩ | ⟨g,cap,_,h0,_⟩
   ·omega
   exact ⟨g,cap,h0⟩
  have hgw:w.heap.size<=g:=(hown.lt g rfl).1
  have hrv:=prev_any w.heap.size g cap l ws hown (by omega) (by omega)
  have hcapn:l.length<=cap:=by
   obtain ⟨_,c',hv,h5,_⟩:=Zn.of_own hown
   injection hv with _ _ hv
   omega
  obtain ⟨n,hn⟩:∃n,n=l.length:=⟨_,rfl⟩
  have hrn:l.reverse.length=n:=by rw [List.length_reverse,hn]
  rw [<-hn] at hrv hcapn hl0 hl16 ⊢
  generalize l.reverse=r at *
  clear hrnd hptq hptl hc hpt0 hown hn hlen hrow hSr
  go_wp2_with fail
  refine hrv.mono ?_
  rintro e w7 ⟨rfl,k7,hown7⟩
  have E7:=(Keep.trans_fresh (S:=[]) (Kx EZ) k7 (fun y hy=>by right;simp at hy;omega)).ext
  have hg7:=(Yc hown7).1
  have hcl7:=(Yc hown7).2
  have hs7:=Zn.of_own hown7
  rw [<-hrn] at hs7
  have hrne:r≠[]:=by intro e;rw [e] at hrn;simp at hrn;omega
  have hmn:=pmin_any w.heap.size _ r w7 hs7 hrne
  have hix:=fun W (kk:Ext w7 W)=>Zqr w.heap.size _ r (Zkp r) W (hs7.ext kk) (minL_in hrne)
  have hkl:=Zm5 hrne
  rw [hrn] at hmn hix hkl
  generalize Zoy r (Zkp r)=k at *
  generalize Zkp r=mr at *
  clear hrv k7 hown7 EZ hs7 hrne
  go_wp2_with fail
  refine hmn.mono ?_
  rintro e w8 ⟨rfl,e8⟩
  go_wp2_with fail
  refine (hix w8 e8).mono ?_
  rintro e w9 ⟨rfl,e9⟩
  have k0:(0:Int)<=(k:Int):=by omega
  have k1:(k:Int)<=(n:Int):=by omega
  have k2:(n:Int)<=(cap:Int):=by omega
  have k3:(k:Int)<=(cap:Int):=by omega
  clear hmn hix
  go_wp2_with fail
  refine Zh Zl 8 [6,7] (by kernel_rfl) (by kernel_rfl) ?_
  intro w1 hw1
  simp only [Zk,Rg.hsB,Nat.reduceBEq,Nat.reduceAdd,↓reduceIte]
  repeat (go_big_quiet_step (fail))
  refine wpQuiet_nil ?_
  refine Xb 6 _ (.cells #[.slice (some ⟨g,k,none⟩) (n-k) (cap-k),.slice (some ⟨g,0,none⟩) k cap] 43) (fun p=>.slice (some ⟨p,0,none⟩) 2 2) (by intro w;go_simp) rfl (by kernel_rfl) (by decide) rfl ?_
  intro gb wa h0a ha hgb0 hgb1 hgbb
  refine Zv 7 280 _ #[.slice (some ⟨gb,0,none⟩) 2 2] _ (by rfl) _ _ (by rfl) Tryz.func280 rfl rfl (by kernel_rfl) (by rfl) (by kernel_rfl) (by decide) ?_
  intro wb h0b hb
  have E79:=Xt e8 e9
  have hgl:g<wb.heap.size:=by have:=E79.size;have:=h0b.size;omega
  have hcb:∀m u,(r.map (Value.int .u8))[m]? =some u->wb.cell? ⟨g,m,none⟩=some u:=fun m u hu=>
   (Zf (a:=⟨g,m,none⟩) ((Xt E79 h0b).block hg7)).trans (hcl7 m u hu)
  refine (Zoc gb _ _ (r.drop k) (r.take k) _ _ wb (hb.at hgbb) ⟨⟨g,k,none⟩,cap-k,by rw [List.length_map,List.length_drop,hrn],hgl,fun j u hu=>by
   rw [show (⟨g,k,none⟩:Addr).add j=⟨g,k+j,none⟩ by unfold Addr.add;split<;>simp_all]
   exact hcb (k+j) u (by rw [List.map_drop,List.getElem?_drop] at hu;exact hu)⟩
   ⟨⟨g,0,none⟩,cap,by rw [List.length_map,List.length_take,hrn];congr 1;omega,hgl,fun j u hu=>by
    rw [show (⟨g,0,none⟩:Addr).add j=⟨g,j,none⟩ by unfold Addr.add;split<;>simp_all]
    have hj:j<k:=by have:=(List.getElem?_eq_some_iff.1 hu).1;rw [List.length_map,List.length_take] at this;omega
    exact hcb j u (by rw [List.map_take,List.getElem?_take_of_lt hj] at hu;exact hu)⟩ (by rw [List.length_drop];omega) (by rw [List.length_drop,List.length_take];omega)).mono ?_
  rintro e wc ⟨v',rfl,ec,hsl⟩
  refine ⟨_,rfl,Xt h0b ec,?_⟩
  refine Zj (by kernel_rfl) ?_
  intro wd ed ed'
  simp only [Act.put,Rg.puB]
  have EF:=Xt E7 (Xt E79 ed)
  have hslF:=Zn.low (base':=w.heap.size) (hsl.ext ed') (by have:=E7.size;have:=E79.size;have:=h0b.size;omega)
  clear hcb hsl hgbb
  go_wp2
  rw [Exit.noGoto_ret]
  go_ret
  rw [HRR.out]
  exact ⟨_,rfl,EF,hslF⟩
 rw [if_neg hmem] at hcg2
 rw [decide_eq_false hmem] at hptq
 have HC:=Lib.hid (hcst hmem)
 have HCG:=Lib.hid (hcg.trans hcg2)
 have HFL:=Lib.hid hfl
 clear hcst hcend hcg hcg2 hfl hpt hmem hc
 generalize Zy a l.length y=q at *
 have q1:q<17:=by omega
 have q0:0<=q:=by omega
 have hWs:u7.ownBlock≠some sb:=Y4 hown hSr.row (by decide)
 have hWc:u7.ownBlock≠some cb:=Y4 hown hrow (by decide)
 have hdone:=fun q' hq'=>(hown.lt q' hq').1
 have cc:=Zlg ws cb q.toNat pt hrow (by omega)
 rw [hptq] at cc
 have ff:=frozen_of_row ws cb q.toNat _ _ hrow
 have hp2:=part_row ws cb q.toNat pt hrow
 have hown1:=ownsRow_setCell_other hown (a:=⟨cb,q.toNat,none⟩) hWc (.bool true)
 have hS1:=hSr.keep ((Keep.refl [cb] ws).setCell (p:=⟨cb,q.toNat,none⟩) (Or.inl (by simp)) (.bool true)) (by simpa using hcs)
 have E1:Ext w (ws.setCell ⟨cb,q.toNat,none⟩ (.bool true)):=Below.setCell EZ (p:=⟨cb,q.toNat,none⟩) hcbw _
 have hsz:=EZ.size
 have hn1:∀j u,[Value.int .u8 q][j]? =some u->((ws.setCell ⟨cb,q.toNat,none⟩ (.bool true)).alloc (.cells #[.int .u8 q] 24)).cell? ((⟨ws.heap.size,0,none⟩:Addr).add j)=some u:=by
  have:=cell_one_new (ws.setCell ⟨cb,q.toNat,none⟩ (.bool true)) (.int .u8 q) 24
  rwa [World.size_setCell] at this
 have hb1:w.heap.size<=((ws.setCell ⟨cb,q.toNat,none⟩ (.bool true)).alloc (.cells #[.int .u8 q] 24)).heap.size:=by rw [size_alloc,World.size_setCell];omega
 have hns:sb∉u7.ownBlock.toList:=fun h=>hWs (by simpa using h)
 have hnc:cb∉u7.ownBlock.toList:=fun h=>hWc (by simpa using h)
 have hone:∀x∈[Value.int .u8 q],x.oneCell'=true:=fun x hx=>by simp at hx;subst hx;rfl
 have hm1:l.length+1<=maxLen:=by unfold maxLen;omega
 have hm2:(l.length+1)*1<=140737488355328:=by omega
 clear hptq hrow hSr EZ hown
 go_wp2_with (first
  | (at_builtin;refine wpList_append_own _ rfl _ _ 43 rfl w.heap.size 24 i0 (.int .u8 0) 1 1 Tryz.underlying43 hi hz0 hz1 hz2 rfl (by decide) _ _ _ rfl (hown1.alloc _) ⟨ws.heap.size,0,none⟩ 1 1 [.int .u8 q] rfl rfl hn1 hone hm1 hm2 hb1 ?_
     intro v' w3 hown' hgrow3 hnil3
     have hk3:=Y6 (S:=u7.ownBlock.toList) (Keep.refl _ _) hgrow3 (fun q' hq'=>.inl (Option.mem_toList.2 hq'))
     have hS3:=(hS1.ext (Zc _ (.cells #[.int .u8 q] 24))).keep hk3 hns
     have ca:=hS3.ahead q q0 (by omega)))
 obtain ⟨A',cap',rfl⟩:=Z7 hown'
 refine ⟨⟨l++[q],pt.set q.toNat true,HC.out,by rw [List.length_append];exact HCG.out,by rw [List.length_append];exact congrArg (Value.int .u8) HBS.out.symm,by simpa using hptl,HFL.out,hk3.at ((Zc _ _).at hp2) hnc,hS3,
  (Xt E1 (Zc _ _)).grown hgrow3 hb1 hdone,?_,by simp [lenV]⟩,?_⟩
 ·rw [List.map_append,List.length_append]
  exact hown'
 rw [hlen]
 simp only [lenV]
 omega
end Go.Proofs.YtipjchbdogmccaaGreat
