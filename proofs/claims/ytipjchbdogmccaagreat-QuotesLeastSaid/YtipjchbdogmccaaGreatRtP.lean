/- What the search for shortest ways keeps, in plain Lean. Ways and routes, in plain Lean: what a way is, what pushing along it leaves, and that it comes to an end. -/
import Derived.Test.YtipjchbdogmccaaGreatPay
namespace Go.Proofs.YtipjchbdogmccaaGreat
def dAt (d:List Int) (u:Nat):Int:=d.getD u 17
def Ua (d:List Int) (u:Nat):Bool:=decide (dAt d u<17)
def J1 (d:List Int):Nat:=(List.range 17).countP (Ua d)
def Uz (c:List Int) (a:Int) (d:List Int) (p:Nat):Bool:=decide (dAt d p=17/\0<Yi c p a)
theorem dAt_set (d:List Int) (p:Nat) (x:Int) (u:Nat) (hp:p<d.length):dAt (d.set p x) u=if u=p then x else dAt d u:=by
 unfold dAt
 rw [List.getD_eq_getElem?_getD,List.getD_eq_getElem?_getD,List.getElem?_set]
 by_cases h:p=u
 ·subst h;simp [hp]
 rw [if_neg h,if_neg (fun e=>h e.symm)]
theorem Zmo (c:List Int) (a:Nat):∀(ps:List Nat) (d q:List Int),d.length=17->dAt d a<17->a<17->(∀p∈ps,p<17)->ps.Nodup->
 (∀u,dAt (U4 c a ps (d,q)).1 u=if u∈ps/\Uz c a d u=true then dAt d a+1 else dAt d u)/\
 (U4 c a ps (d,q)).2=q++(ps.filter (Uz c a d)).map (fun p:Nat=>(p:Int))
 | [],d,q,_,_,_,_,_=>by simp [U4]
 | p::ps,d,q,hl,ha,ha17,hps,hn=>by
   have hpn:p∉ps:=(List.nodup_cons.1 hn).1
   have hn':=(List.nodup_cons.1 hn).2
   have hp17:=hps p (by simp)
   unfold U4
   by_cases hj:dAt d p=17/\0<Yi c p a
   ·have hj':(d,q).1.getD p 17=17/\0<Yi c p a:=hj
    rw [if_pos hj']
    have hpa:p≠a:=fun e=>by subst e;omega
    have hda:(d,q).1.getD (a:Int).toNat 0=dAt d a:=by
     unfold dAt
     simp only [Int.toNat_natCast,List.getD_eq_getElem?_getD]
     rw [List.getElem?_eq_getElem (by omega)]
     rfl
    rw [hda]
    have hset:=fun u=>dAt_set d p (dAt d a+1) u (by omega)
    obtain ⟨h1,h2⟩:=Zmo c a ps (d.set p (dAt d a+1)) (q++[(p:Int)]) (by simpa using hl) (by rw [hset a,if_neg (Ne.symm hpa)];exact ha) ha17 (fun x hx=>hps x (by simp [hx])) hn'
    have hjs:∀u∈ps,Uz c a (d.set p (dAt d a+1)) u=Uz c a d u:=fun u hu=>by
     unfold Uz
     rw [hset u,if_neg (fun e:u=p=>hpn (e▸hu))]
    refine ⟨fun u=> ?_,?_⟩
    ·rw [h1 u,hset a,if_neg (Ne.symm hpa),hset u]
     by_cases hu:u∈ps
     ·have hup:u≠p:=fun e=>hpn (e▸hu)
      simp [hu,hjs u hu,hup]
     by_cases hup:u=p
     ·subst hup
      simp [hu,Uz,hj]
     simp [hu,hup]
    rw [h2,List.filter_congr hjs]
    have:Uz c a d p=true:=by simp [Uz,hj]
    simp [this]
   have hj':¬((d,q).1.getD p 17=17/\0<Yi c p a):=hj
   rw [if_neg hj']
   obtain ⟨h1,h2⟩:=Zmo c a ps d q hl ha ha17 (fun x hx=>hps x (by simp [hx])) hn'
   have hjf:Uz c a d p=false:=by simp only [Uz,decide_eq_false_iff_not];exact hj
   refine ⟨fun u=> ?_,?_⟩
   ·rw [h1 u]
    by_cases hup:u=p
    ·subst hup;simp [hjf]
    simp [hup]
   rw [h2];simp [hjf]
theorem Zgn {α:Type} (p q:α->Bool):∀(l:List α),(∀x∈l,p x=true->q x=true)->l.countP p<=l.countP q
 | [],_=>by simp
 | x::l,h=>by
   have ih:=Zgn p q l (fun y hy=>h y (by simp [hy]))
   have hx:=h x (by simp)
   rw [List.countP_cons,List.countP_cons]
   cases hp:p x<;>cases hq:q x<;>simp_all<;>omega
theorem Zah {α:Type} (p q:α->Bool):∀(l:List α),(∀x∈l,p x=true->q x=true)->(∃x∈l,p x=false/\q x=true)->l.countP p+1<=l.countP q
 | [],_,h=>by simp at h
 | x::l,h,hx=>by
   have ih:=Zgn p q l (fun y hy=>h y (by simp [hy]))
   rw [List.countP_cons,List.countP_cons]
   obtain ⟨y,hy,h1,h2⟩:=hx
   rcases List.mem_cons.1 hy with rfl | hy
   ·simp [h1,h2];omega
   have:=Zah p q l (fun z hz=>h z (by simp [hz])) ⟨y,hy,h1,h2⟩
   have hx:=h x (by simp)
   cases hp:p x<;>cases hq:q x<;>simp_all<;>omega
structure BInv (c:List Int) (t:Nat) (d q:List Int):Prop where
 len:d.length=17
 rng:∀u:Nat,u<17->0<=dAt d u/\dAt d u<=17
 root:∀u:Nat,u<17->(dAt d u=0↔u=t)
 qin:∀x∈q,∃u:Nat,x=(u:Int)/\u<17/\dAt d u<17
 sorted:q.Pairwise (fun x y=>dAt d x.toNat<=dAt d y.toNat)
 close:∀x r,q=x::r->∀u:Nat,u<17->dAt d u<17->dAt d u<=dAt d x.toNat+1
 done:∀v:Nat,v<17->dAt d v<17->(v:Int)∉q->∀u:Nat,1<=u->u<17->0<Yi c u v->dAt d u<=dAt d v+1
 back:∀u:Nat,u<17->0<dAt d u->dAt d u<17->1<=u/\∃v:Nat,v<17/\0<Yi c u v/\dAt d v=dAt d u-1
 few:∀u:Nat,u<17->dAt d u<17->dAt d u<J1 d
theorem Yw (p:Nat):p∈List.range' 1 16↔1<=p/\p<17:=by rw [List.mem_range'_1]
theorem BInv.start (c:List Int) (t:Nat) (ht:t<=16):BInv c t ((List.replicate 17 17).set t 0) [(t:Int)]:=by
 have hd:∀u,dAt ((List.replicate 17 (17:Int)).set t 0) u=if u=t then 0 else 17:=fun u=>by
  rw [dAt_set _ _ _ _ (by simp;omega)]
  by_cases h:u=t
  ·simp [h]
  rw [if_neg h,if_neg h]
  unfold dAt
  rw [List.getD_eq_getElem?_getD,List.getElem?_replicate]
  split<;>rfl
 have hf:1<=J1 ((List.replicate 17 (17:Int)).set t 0):=by
  unfold J1
  refine List.countP_pos_iff.2 ⟨t,List.mem_range.2 (by omega),?_⟩
  unfold Ua
  rw [hd t]
  simp
 refine ⟨by simp,fun u hu=> ?_,fun u hu=> ?_,fun x hx=> ?_,by simp,fun x r h u hu hlt=> ?_,fun v hv hlt hn=> ?_,fun u hu h0 h1=> ?_,fun u hu hlt=> ?_⟩
 ·rw [hd];split<;>omega
 ·rw [hd];split<;>simp_all
 ·have:x=(t:Int):=by simpa using hx
  exact ⟨t,this,by omega,by rw [hd];simp⟩
 ·rw [hd u] at hlt ⊢
  injection h with h _
  subst h
  split at hlt
  ·rw [hd];simp [*]
  omega
 ·rw [hd] at hlt
  split at hlt
  ·subst v;simp at hn
  omega
 ·rw [hd] at h0 h1
  split at h0<;>omega
 rw [hd] at hlt ⊢
 split at hlt
 ·rename_i e
  rw [if_pos e];omega
 omega
theorem BInv.step {c:List Int} {t:Nat} {d q:List Int} {a:Int} (h:BInv c t d (a::q)):
 BInv c t (U4 c a (List.range' 1 16) (d,q)).1 (U4 c a (List.range' 1 16) (d,q)).2/\
 2*(17-J1 (U4 c a (List.range' 1 16) (d,q)).1)+(U4 c a (List.range' 1 16) (d,q)).2.length+1<=2*(17-J1 d)+(a::q).length:=by
 obtain ⟨k,rfl,hk,hfk⟩:=h.qin a (by simp)
 obtain ⟨h1,h2⟩:=Zmo c k (List.range' 1 16) d q h.len hfk hk (fun p hp=>((Yw p).1 hp).2) (List.nodup_range' ..)
 have hlen:(U4 c k (List.range' 1 16) (d,q)).1.length=17:=by rw [Zir];exact h.len
 generalize hd':(U4 c k (List.range' 1 16) (d,q)).1=d' at *
 generalize hq':(U4 c k (List.range' 1 16) (d,q)).2=q' at *
 have hclose:=h.close _ _ rfl
 simp only [Int.toNat_natCast] at hclose
 have hjd:∀u,Uz c k d u=true↔dAt d u=17/\0<Yi c u k:=fun u=>by simp [Uz]
 -- what stood stays
 have hold:∀u,dAt d u≠17->dAt d' u=dAt d u:=fun u hu=>by
  rw [h1 u,if_neg]
  rintro ⟨_,hj⟩
  exact hu ((hjd u).1 hj).1
 have hnew:∀u,u<17->dAt d' u≠dAt d u->1<=u/\dAt d u=17/\0<Yi c u k/\dAt d' u=dAt d k+1:=fun u hu hne=>by
  rw [h1 u] at hne ⊢
  split at hne
  ·rename_i hc
   rw [if_pos hc]
   exact ⟨((Yw u).1 hc.1).1,((hjd u).1 hc.2).1,((hjd u).1 hc.2).2,rfl⟩
  exact absurd rfl hne
 have hfk':dAt d' k=dAt d k:=hold k (by omega)
 have h0k:=(h.rng k hk).1
 have hle:J1 d<=J1 d':=by
  unfold J1
  refine Zgn _ _ _ (fun u _ hu=> ?_)
  simp only [Ua,decide_eq_true_eq] at hu ⊢
  rw [hold u (by omega)];exact hu
 have hcnt17:J1 d'<=17:=by unfold J1;exact Nat.le_trans (List.countP_le_length) (by simp)
 have hkf:=h.few k hk hfk
 -- one that comes in:it is counted
 have hone:∀u,u<17->dAt d' u≠dAt d u->J1 d+1<=J1 d'/\dAt d k+1<17:=fun u hu hne=>by
  obtain ⟨hu1,hu17,_,hv⟩:=hnew u hu hne
  -- the count of what is there bounds the new value
  have hlt:J1 d+1<=17:=by
   have:=Zah (Ua d) (fun _=>true) (List.range 17) (fun _ _ _=>rfl) ⟨u,by simpa using hu,by simp [Ua,hu17],rfl⟩
   simpa [J1] using this
  have h17:dAt d k+1<17:=by omega
  refine ⟨?_,h17⟩
  unfold J1
  refine Zah _ _ _ (fun x _ hx=> ?_) ⟨u,by simpa using hu,by simp [Ua,hu17],by simp [Ua,hv,h17]⟩
  simp only [Ua,decide_eq_true_eq] at hx ⊢
  rw [hold x (by omega)];exact hx
 have hmem:∀x,x∈q'↔x∈q\/∃p:Nat,x=(p:Int)/\1<=p/\p<17/\Uz c k d p=true:=fun x=>by
  rw [h2,List.mem_append,List.mem_map]
  refine or_congr Iff.rfl ⟨?_,?_⟩
  ·rintro ⟨p,hp,rfl⟩
   have:=List.mem_filter.1 hp
   exact ⟨p,rfl,((Yw p).1 this.1).1,((Yw p).1 this.1).2,this.2⟩
  rintro ⟨p,rfl,hp1,hp2,hj⟩
  exact ⟨p,List.mem_filter.2 ⟨(Yw p).2 ⟨hp1,hp2⟩,hj⟩,rfl⟩
 have hjn:∀p,1<=p->p<17->Uz c k d p=true->dAt d' p=dAt d k+1/\dAt d' p≠dAt d p:=fun p hp1 hp2 hj=>by
  have:dAt d' p=dAt d k+1:=by rw [h1 p,if_pos ⟨(Yw p).2 ⟨hp1,hp2⟩,hj⟩]
  refine ⟨this,fun e=> ?_⟩
  have h17:=((hjd p).1 hj).1
  have hlt:J1 d+1<=17:=by
   have:=Zah (Ua d) (fun _=>true) (List.range 17) (fun _ _ _=>rfl) ⟨p,by simpa using hp2,by simp [Ua,h17],rfl⟩
   simpa [J1] using this
  omega
 have hup:∀u,u<17->dAt d' u<17->dAt d' u<=dAt d k+1:=fun u hu hlt=>by
  by_cases e:dAt d' u=dAt d u
  ·rw [e];exact hclose u hu (by omega)
  rw [(hnew u hu e).2.2.2];exact Int.le_refl _
 have hsq:=List.pairwise_cons.1 h.sorted
 refine ⟨⟨hlen,fun u hu=> ?_,fun u hu=> ?_,fun x hx=> ?_,?_,fun x r hx u hu hlt=> ?_,fun v hv hlt hn u hu1 hu hc=> ?_,fun u hu h0 h17=> ?_,fun u hu hlt=> ?_⟩,?_⟩
 ·by_cases e:dAt d' u=dAt d u
  ·rw [e];exact h.rng u hu
  obtain ⟨_,_,_,hv⟩:=hnew u hu e
  have:=(hone u hu e).2
  omega
 ·by_cases e:dAt d' u=dAt d u
  ·rw [e];exact h.root u hu
  obtain ⟨_,h17,_,hv⟩:=hnew u hu e
  have:=h.root u hu
  constructor
  ·intro;omega
  intro e2
  have:=this.2 e2
  omega
 ·rcases (hmem x).1 hx with hx | ⟨p,rfl,hp1,hp2,hj⟩
  ·obtain ⟨u,rfl,hu,hlt⟩:=h.qin x (by simp [hx])
   exact ⟨u,rfl,hu,by rw [hold u (by omega)];exact hlt⟩
  obtain ⟨e1,e2⟩:=hjn p hp1 hp2 hj
  exact ⟨p,rfl,hp2,by have:=(hone p hp2 e2).2;omega⟩
 ·rw [h2]
  refine List.pairwise_append.2 ⟨?_,?_,fun x hx y hy=> ?_⟩
  ·refine hsq.2.imp_of_mem (fun {x y} hx hy hxy=> ?_)
   obtain ⟨u,rfl,hu,hlt⟩:=h.qin x (by simp [hx])
   obtain ⟨v,rfl,hv,hlt2⟩:=h.qin y (by simp [hy])
   simp only [Int.toNat_natCast] at hxy ⊢
   rw [hold u (by omega),hold v (by omega)];exact hxy
  ·refine List.pairwise_of_forall_mem_list (fun x hx y hy=> ?_)
   obtain ⟨p,hp,rfl⟩:=List.mem_map.1 hx
   obtain ⟨r,hr,rfl⟩:=List.mem_map.1 hy
   have hp:=List.mem_filter.1 hp
   have hr:=List.mem_filter.1 hr
   simp only [Int.toNat_natCast]
   rw [(hjn p ((Yw p).1 hp.1).1 ((Yw p).1 hp.1).2 hp.2).1,(hjn r ((Yw r).1 hr.1).1 ((Yw r).1 hr.1).2 hr.2).1]
   exact Int.le_refl _
  obtain ⟨u,rfl,hu,hlt⟩:=h.qin x (by simp [hx])
  obtain ⟨p,hp,rfl⟩:=List.mem_map.1 hy
  have hp:=List.mem_filter.1 hp
  simp only [Int.toNat_natCast]
  rw [(hjn p ((Yw p).1 hp.1).1 ((Yw p).1 hp.1).2 hp.2).1,hold u (by omega)]
  exact hclose u hu hlt
 ·have hxq:x∈q':=by rw [hx];simp
  have:=hup u hu hlt
  rcases (hmem x).1 hxq with hx2 | ⟨p,rfl,hp1,hp2,hj⟩
  ·have:=hsq.1 x hx2
   obtain ⟨v,rfl,hv,hlt2⟩:=h.qin x (by simp [hx2])
   simp only [Int.toNat_natCast] at this ⊢
   rw [hold v (by omega)]
   omega
  simp only [Int.toNat_natCast]
  rw [(hjn p hp1 hp2 hj).1]
  omega
 ·-- what is through
  have hvq:(v:Int)∉q:=fun hm=>hn ((hmem _).2 (.inl hm))
  have hve:dAt d' v=dAt d v:=by
   refine Classical.byContradiction fun e=> ?_
   obtain ⟨hv1,h17,hcv,_⟩:=hnew v hv e
   exact hn ((hmem _).2 (.inr ⟨v,rfl,hv1,hv,(hjd v).2 ⟨h17,hcv⟩⟩))
  have hvl:dAt d v<17:=by omega
  by_cases hvk:v=k
  ·subst hvk
   rw [hve]
   by_cases hu17:dAt d u=17
   ·have:=(hjn u hu1 hu ((hjd u).2 ⟨hu17,hc⟩)).1
    omega
   rw [hold u hu17]
   have:=(h.rng u hu).2
   exact hclose u hu (by omega)
  have hnot:(v:Int)∉(k:Int)::q:=by
   rw [List.mem_cons,not_or]
   exact ⟨fun e=>hvk (by omega),hvq⟩
  have hd:=h.done v hv hvl hnot u hu1 hu hc
  rw [hve,hold u ?_]
  ·exact hd
  intro e
  rw [e] at hd
  have:=h.few v hv hvl
  have hlt:J1 d+1<=17:=by
   have:=Zah (Ua d) (fun _=>true) (List.range 17) (fun _ _ _=>rfl) ⟨u,by simpa using hu,by simp [Ua,e],rfl⟩
   simpa [J1] using this
  omega
 ·by_cases e:dAt d' u=dAt d u
  ·rw [e] at h0 h17 ⊢
   obtain ⟨hu1,v,hv,hcv,hve⟩:=h.back u hu h0 h17
   exact ⟨hu1,v,hv,hcv,by rw [hold v (by omega)];exact hve⟩
  obtain ⟨hu1,_,hcu,hv⟩:=hnew u hu e
  exact ⟨hu1,k,hk,hcu,by rw [hfk',hv];omega⟩
 ·by_cases e:dAt d' u=dAt d u
  ·rw [e] at hlt ⊢
   have:=h.few u hu hlt
   omega
  obtain ⟨_,_,_,hv⟩:=hnew u hu e
  have:=(hone u hu e).1
  omega
 -- the measure
 rw [h2]
 simp only [List.length_append,List.length_map,List.length_cons]
 have hcount:J1 d'=J1 d+((List.range' 1 16).filter (Uz c k d)).length:=by
  have hsum:∀l:List Nat,(∀u∈l,u<17)->l.countP (Ua d')=l.countP (Ua d)+(l.filter (fun u=>decide (1<=u)&&Uz c k d u)).length:=by
   intro l
   induction l with
   | nil=>simp
   | cons u l ih=>
     intro hl
     have ihl:=ih (fun x hx=>hl x (by simp [hx]))
     have hu:=hl u (by simp)
     rw [List.countP_cons,List.countP_cons,ihl,List.filter_cons]
     by_cases hju:1<=u/\Uz c k d u=true
     ·have hj:=hjn u hju.1 hu hju.2
      have h17:=((hjd u).1 hju.2).1
      have hlt:=(hone u hu hj.2).2
      have e1:Ua d' u=true:=by simp [Ua,hj.1,hlt]
      have e2:Ua d u=false:=by simp [Ua,h17]
      simp [e1,e2,hju.1,hju.2]
      omega
     have hcond:(decide (1<=u)&&Uz c k d u)=false:=by
      rw [Bool.and_eq_false_iff]
      by_cases h:1<=u
      ·right;cases hjj:Uz c k d u
       ·rfl
       exact absurd ⟨h,hjj⟩ hju
      left;simp [h]
     have e1:dAt d' u=dAt d u:=by
      rw [h1 u,if_neg]
      rintro ⟨hm,hj⟩
      exact hju ⟨((Yw u).1 hm).1,hj⟩
     have e2:Ua d' u=Ua d u:=by unfold Ua;rw [e1]
     simp [e2,hcond]
     omega
  have:=hsum (List.range 17) (fun u hu=>by simpa using hu)
  have hr:(List.range 17)=0::List.range' 1 16:=by decide
  rw [hr] at this
  unfold J1
  rw [hr,this,List.filter_cons]
  simp only [Nat.reduceLeDiff,decide_false,Bool.false_and,Bool.false_eq_true,if_false]
  refine congrArg (fun l:List Nat=>_+l.length) (List.filter_congr fun x hx=> ?_)
  have:=((Yw x).1 hx).1
  simp [this]
 omega
theorem bfs_inv (c:List Int) (t:Nat):∀(f:Nat) (d q:List Int),BInv c t d q->2*(17-J1 d)+q.length<=f->BInv c t (bfs c f d q) []
 | 0,d,q,h,hf=>by
   have:q=[]:=List.eq_nil_of_length_eq_zero (by omega)
   subst this;exact h
 | f+1,d,[],h,_=>h
 | f+1,d,a::q,h,hf=>by
   obtain ⟨h1,h2⟩:=h.step
   exact bfs_inv c t f _ _ h1 (by omega)
theorem Zcw (c:List Int) (t:Nat) (ht:t<=16):BInv c t (Vr c t) []:=by
 unfold Vr
 rw [Int.toNat_natCast]
 exact bfs_inv c t 40 _ _ (BInv.start c t ht) (by simp;omega)
theorem Zae {c:List Int} {a b:Int} (h:0<Yi c a b):(1<=a/\a<=16)/\1<=b/\b<=16:=by
 unfold Yi at h
 split at h
 ·rename_i hp
  have h1:=hp.1
  have h2:=hp.2
  unfold Zm at h1 h2
  rw [decide_eq_true_eq] at h1 h2
  omega
 omega
def Zdv (c d:List Int) (a:Nat):Nat:=((List.range' 1 16).find? (fun p=>decide (dAt d p=dAt d a-1/\0<Yi c a p))).getD a
def Zd8 (c d:List Int):Nat->Nat->List Int
 | 0,_=>[]
 | n+1,a=>(Zdv c d a:Int)::Zd8 c d n (Zdv c d a)
def Zeb (c:List Int) (a t:Nat):List Int:=if dAt (Vr c t) a=17 then [] else (a:Int)::Zd8 c (Vr c t) (dAt (Vr c t) a).toNat a
def Zq (c:List Int) (a t:Int):List Int:=if Zm a&&Zm t&& !(a==t) then Zeb c a.toNat t.toNat else []
theorem Zih (c d:List Int):∀(n a:Nat),(Zd8 c d n a).length=n
 | 0,_=>rfl
 | n+1,a=>by simp [Zd8,Zih c d n]
theorem Zfs {c d:List Int} {t:Nat} (h:BInv c t d []) (a:Nat) (ha:a<17) (h0:0<dAt d a) (h17:dAt d a<17):
 1<=Zdv c d a/\Zdv c d a<17/\dAt d (Zdv c d a)=dAt d a-1/\0<Yi c a (Zdv c d a)/\
 (List.range' 1 16).find? (fun p=>decide (dAt d p=dAt d a-1/\0<Yi c a p))=some (Zdv c d a):=by
 obtain ⟨_,v,hv,hcv,hdv⟩:=h.back a ha h0 h17
 have hv1:=(Zae hcv).2.1
 unfold Zdv
 cases hf:(List.range' 1 16).find? (fun p=>decide (dAt d p=dAt d a-1/\0<Yi c a p)) with
 | none=>
   have:=List.find?_eq_none.1 hf v ((Yw v).2 ⟨by omega,hv⟩)
   simp [hdv,hcv] at this
 | some b=>
   have hm:=List.mem_of_find?_eq_some hf
   have hb:=List.find?_some hf
   have hb:dAt d b=dAt d a-1/\0<Yi c a b:=by simpa using hb
   have hr:=(Yw b).1 hm
   exact ⟨hr.1,hr.2,hb.1,hb.2,rfl⟩
def Um (c d:List Int):List Int->Prop
 | a::b::r=>(∃i j:Nat,a=(i:Int)/\b=(j:Int)/\i<17/\j<17/\0<Yi c a b/\dAt d i=dAt d j+1)/\Um c d (b::r)
 | _=>True
theorem way_adm {c d:List Int} {t:Nat} (h:BInv c t d []):∀(n a:Nat),a<17->dAt d a=(n:Int)->dAt d a<17->Um c d ((a:Int)::Zd8 c d n a)
 | 0,a,_,_,_=>by simp [Zd8,Um]
 | n+1,a,ha,hd,h17=>by
   obtain ⟨h1,h2,h3,h4,_⟩:=Zfs h a ha (by omega) h17
   unfold Zd8
   unfold Um
   exact ⟨⟨a,Zdv c d a,rfl,rfl,ha,h2,h4,by omega⟩,way_adm h n _ h2 (by omega) (by omega)⟩
theorem Zbg {c:List Int} {a t:Int} (hn:Zq c a t≠[]):∃i j:Nat,a=i/\t=j/\i<17/\j<17/\i≠j/\Zq c a t=Zeb c i j/\Um c (Vr c j) (Zq c a t)/\2<=(Zq c a t).length/\(Zq c a t).length<=17:=by
 unfold Zq at hn ⊢
 split at hn
 ·rename_i hc
  rw [if_pos hc]
  simp only [Bool.and_eq_true,Zm,decide_eq_true_eq,Bool.not_eq_true',beq_eq_false_iff_ne,ne_eq] at hc
  obtain ⟨⟨⟨h1,h2⟩,h3,h4⟩,h5⟩:=hc
  obtain ⟨i,rfl⟩:=Int.eq_ofNat_of_zero_le (show 0<=a by omega)
  obtain ⟨j,rfl⟩:=Int.eq_ofNat_of_zero_le (show 0<=t by omega)
  simp only [Int.toNat_natCast] at hn ⊢
  have hB:=Zcw c j (by omega)
  unfold Zeb at hn ⊢
  split at hn
  ·exact absurd rfl hn
  rename_i hf
  rw [if_neg hf]
  have hr:=hB.rng i (by omega)
  have hz:=hB.root i (by omega)
  have hne:i≠j:=fun e=>h5 (by rw [e])
  have hpos:0<dAt (Vr c j) i:=by
   rcases Int.lt_or_eq_of_le hr.1 with h | h
   ·exact h
   exact absurd (hz.1 h.symm) hne
  refine ⟨i,j,rfl,rfl,by omega,by omega,hne,(if_neg hf).symm,way_adm hB _ i (by omega) (by omega) (by omega),?_,?_⟩
  rotate_left
  all_goals simp only [List.length_cons,Zih];omega
 exact absurd rfl hn
def Xg:List Int->List Int->Int->List Int
 | a::b::r,c,n=>Xg (b::r) (Vn c a b n).2 n
 | _,c,_=>c
def Y3:List Int->Int->Int->Prop
 | a::b::r,i,j=>(i=a/\j=b)\/Y3 (b::r) i j
 | _,_,_=>False
theorem Zh4 (a b:Nat):gAt a b=a*17+b:=by unfold gAt;simp
theorem Zb5 (c:List Int) (i j:Nat) (h1:1<=i) (h2:i<17) (h3:1<=j) (h4:j<17):Yi c i j=c.getD (i*17+j) 0:=by
 unfold Yi
 rw [if_pos ⟨by unfold Zm;simp;omega,by unfold Zm;simp;omega⟩,Zh4]
theorem Zcy (c:List Int) (k:Nat) (x:Int) (j:Nat) (hk:k<c.length):(c.set k x).getD j 0=if j=k then x else c.getD j 0:=by
 rw [List.getD_eq_getElem?_getD,List.getD_eq_getElem?_getD,List.getElem?_set]
 by_cases h:k=j
 ·subst h;simp [hk]
 rw [if_neg h,if_neg (fun e=>h e.symm)]
theorem Zbq (c:List Int) (hl:c.length=289) (a b:Nat) (n:Int) (ha:a<17) (hb:b<17) (hab:a≠b) (k:Nat):
 (Vz c a b n).getD k 0=if k=b*17+a then c.getD k 0+n else if k=a*17+b then c.getD k 0-n else c.getD k 0:=by
 unfold Vz
 rw [Zh4,Zh4]
 have e1:a*17+b≠b*17+a:=by omega
 rw [Zcy _ _ _ _ (by simp;omega),Zcy _ _ _ _ (by omega),Zcy _ _ _ _ (by omega),if_neg (Ne.symm e1)]
 by_cases h1:k=b*17+a
 ·subst h1;simp
 rw [if_neg h1,if_neg h1]
 by_cases h2:k=a*17+b
 ·subst h2;simp
 rw [if_neg h2,if_neg h2]
theorem Zlz (c:List Int) (a b n:Int):(Vz c a b n).length=c.length:=by unfold Vz;simp
theorem Zl0 (c:List Int) (a b n:Int) (hn:1<=n) (hc:n<=Yi c a b):(Vn c a b n).2=Vz c a b n:=by
 unfold Vn;rw [if_neg (by omega),if_neg (by omega)]
theorem Zo1 {c:List Int} (h:WFG c) (a b:Nat) (n:Int) (ha:a<17) (hb:b<17) (hab:a≠b) (hn:0<=n) (hc:n<=c.getD (a*17+b) 0):WFG (Vz c a b n):=by
 refine ⟨by rw [Zlz];exact h.len,fun k=> ?_,fun x y hx hy=> ?_⟩
 ·rw [Zbq c h.len a b n ha hb hab]
  have:=h.pos k
  split
  ·omega
  split
  ·subst k;omega
  exact this
 rw [Zbq c h.len a b n ha hb hab,Zbq c h.len a b n ha hb hab]
 have:=h.two x y hx hy
 by_cases e1:x*17+y=b*17+a
 ·have e2:y*17+x=a*17+b:=by omega
  have e3:y*17+x≠b*17+a:=by omega
  rw [if_pos e1,if_neg e3,if_pos e2];omega
 by_cases e2:x*17+y=a*17+b
 ·have e3:y*17+x=b*17+a:=by omega
  rw [if_neg e1,if_pos e2,if_pos e3];omega
 have e3:y*17+x≠b*17+a:=by omega
 have e4:y*17+x≠a*17+b:=by omega
 rw [if_neg e1,if_neg e2,if_neg e3,if_neg e4];exact this
theorem gpushR_wf {c:List Int} (h:WFG c) (a b n:Int) (hab:a≠b):WFG (Vn c a b n).2:=by
 unfold Vn
 split
 ·exact h
 split
 ·exact h
 rename_i h1 h2
 obtain ⟨⟨h3,h4⟩,h5,h6⟩:=Zae (c:=c) (a:=a) (b:=b) (by omega)
 obtain ⟨i,rfl⟩:=Int.eq_ofNat_of_zero_le (show 0<=a by omega)
 obtain ⟨j,rfl⟩:=Int.eq_ofNat_of_zero_le (show 0<=b by omega)
 rw [Zb5 c i j (by omega) (by omega) (by omega) (by omega)] at h2
 exact Zo1 h i j n (by omega) (by omega) (fun e=>hab (by rw [e])) (by omega) (by omega)
theorem Zbz {c d:List Int}:∀(l:List Int) (a:Int),Um c d (a::l)->∀i j:Nat,Y3 (a::l) i j->i<17/\j<17/\0<Yi c i j/\dAt d i=dAt d j+1/\dAt d i<=dAt d a.toNat
 | [],_,_,_,_,h=>by simp [Y3] at h
 | b::r,a,h,i,j,hp=>by
   unfold Um at h
   obtain ⟨⟨x,y,rfl,rfl,hx,hy,hc,hd⟩,hr⟩:=h
   unfold Y3 at hp
   rcases hp with ⟨h1,h2⟩ | hp
   ·have e1:i=x:=by omega
    have e2:j=y:=by omega
    subst e1 e2
    exact ⟨hx,hy,hc,hd,by simp⟩
   obtain ⟨h1,h2,h3,h4,h5⟩:=Zbz r (y:Int) hr i j hp
   refine ⟨h1,h2,h3,h4,?_⟩
   simp only [Int.toNat_natCast] at h5 ⊢
   omega
theorem Zi2 {d:List Int} (n:Int) (hn:1<=n):∀(l:List Int) (a:Int) (c:List Int),WFG c->Um c d (a::l)->(∀i j:Nat,Y3 (a::l) i j->n<=Yi c i j)->
 WFG (Xg (a::l) c n)/\
 (∀i j:Nat,1<=i->i<17->1<=j->j<17->(Y3 (a::l) i j->Yi (Xg (a::l) c n) i j=Yi c i j-n)/\(Y3 (a::l) j i->Yi (Xg (a::l) c n) i j=Yi c i j+n)/\
   (¬Y3 (a::l) i j->¬Y3 (a::l) j i->Yi (Xg (a::l) c n) i j=Yi c i j))
 | [],a,c,hw,_,_=>by simp [Xg,Y3,hw]
 | b::r,a,c,hw,hadm,hle=>by
   have hadm0:=hadm
   unfold Um at hadm
   obtain ⟨⟨x,y,rfl,rfl,hx,hy,hc,hd⟩,hr⟩:=hadm
   obtain ⟨⟨hx1,_⟩,hy1,_⟩:=Zae hc
   have hxy:x≠y:=fun e=>by subst e;omega
   have hnxy:n<=Yi c x y:=hle x y (.inl ⟨rfl,rfl⟩)
   have hcxy:=Zb5 c x y (by omega) hx (by omega) hy
   have e1:(Vn c x y n).2=Vz c x y n:=Zl0 c x y n hn hnxy
   have hat:∀i j:Nat,1<=i->i<17->1<=j->j<17->Yi (Vz c x y n) i j=if i=y/\j=x then Yi c i j+n else if i=x/\j=y then Yi c i j-n else Yi c i j:=fun i j h1 h2 h3 h4=>by
    rw [Zb5 _ i j h1 h2 h3 h4,Zb5 _ i j h1 h2 h3 h4,Zbq c hw.len x y n hx hy hxy]
    by_cases g1:i=y/\j=x
    ·obtain ⟨rfl,rfl⟩:=g1;simp
    rw [if_neg g1,if_neg (show ¬i*17+j=y*17+x by omega)]
    by_cases g2:i=x/\j=y
    ·obtain ⟨rfl,rfl⟩:=g2;simp
    rw [if_neg g2,if_neg (show ¬i*17+j=x*17+y by omega)]
   have hw1:WFG (Vz c x y n):=Zo1 hw x y n hx hy hxy (by omega) (by rw [<-hcxy];exact hnxy)
   have hpd:=fun i j=>Zbz r (y:Int) hr i j
   -- the later pairs are not turned
   have hsame:∀i j:Nat,Y3 ((y:Int)::r) i j->Yi (Vz c x y n) i j=Yi c i j:=fun i j hp=>by
    obtain ⟨h1,h2,h3,h4,h5⟩:=hpd i j hp
    obtain ⟨⟨h6,_⟩,h7,_⟩:=Zae h3
    simp only [Int.toNat_natCast] at h5
    rw [hat i j (by omega) h1 (by omega) h2,if_neg,if_neg]
    ·rintro ⟨rfl,rfl⟩;omega
    rintro ⟨rfl,rfl⟩;omega
   have hadm1:∀(r:List Int) (y0:Int),Um c d (y0::r)->(∀i j:Nat,Y3 (y0::r) i j->Yi (Vz c x y n) i j=Yi c i j)->Um (Vz c x y n) d (y0::r):=by
    intro r
    induction r with
    | nil=>intro y0 _ _;simp [Um]
    | cons z r ih=>
      intro y0 h hs
      unfold Um at h ⊢
      obtain ⟨⟨i,j,rfl,rfl,h1,h2,h3,h4⟩,h5⟩:=h
      exact ⟨⟨i,j,rfl,rfl,h1,h2,by rw [hs i j (.inl ⟨rfl,rfl⟩)];exact h3,h4⟩,ih _ h5 (fun i j hp=>hs i j (.inr hp))⟩
   obtain ⟨ih1,ih2⟩:=Zi2 n hn r (y:Int) (Vz c x y n) hw1 (hadm1 r _ hr hsame) (fun i j hp=>by rw [hsame i j hp];exact hle i j (.inr hp))
   have hp0:Xg ((x:Int)::(y:Int)::r) c n=Xg ((y:Int)::r) (Vz c x y n) n:=by
    conv=>lhs;unfold Xg
    rw [e1]
   rw [hp0]
   refine ⟨ih1,fun i j h1 h2 h3 h4=> ?_⟩
   obtain ⟨k1,k2,k3⟩:=ih2 i j h1 h2 h3 h4
   have hpi:∀i j:Nat,Y3 ((x:Int)::(y:Int)::r) i j↔(i=x/\j=y)\/Y3 ((y:Int)::r) i j:=fun i j=>by
    conv=>lhs;unfold Y3
    constructor
    ·rintro (⟨g1,g2⟩ | g)
     ·exact .inl ⟨by omega,by omega⟩
     exact .inr g
    rintro (⟨rfl,rfl⟩ | g)
    ·exact .inl ⟨rfl,rfl⟩
    exact .inr g
   -- neither (x,y) nor (y,x) is a later pair
   have hno1:¬Y3 ((y:Int)::r) (x:Int) (y:Int):=fun hp=>by
    have:=hpd x y hp
    simp only [Int.toNat_natCast] at this
    omega
   have hno2:¬Y3 ((y:Int)::r) (y:Int) (x:Int):=fun hp=>by
    have:=(hpd y x hp).2.2.2.1
    omega
   refine ⟨fun hp=> ?_,fun hp=> ?_,fun hp1 hp2=> ?_⟩
   ·rcases (hpi i j).1 hp with ⟨rfl,rfl⟩ | hp
    ·rw [k3 hno1 hno2,hat _ _ h1 h2 h3 h4,if_neg (by omega),if_pos ⟨rfl,rfl⟩]
    rw [k1 hp,hsame i j hp]
   ·rcases (hpi j i).1 hp with ⟨rfl,rfl⟩ | hp
    ·rw [k3 hno2 hno1,hat _ _ h1 h2 h3 h4,if_pos ⟨rfl,rfl⟩]
    rw [k2 hp]
    have hq:=hpd j i hp
    simp only [Int.toNat_natCast] at hq
    rw [hat i j h1 h2 h3 h4,if_neg,if_neg]
    ·rintro ⟨rfl,rfl⟩;omega
    rintro ⟨rfl,rfl⟩;omega
   rw [hpi] at hp1 hp2
   simp only [not_or] at hp1 hp2
   rw [k3 hp1.2 hp2.2,hat i j h1 h2 h3 h4,if_neg (fun g=>hp2.1 ⟨g.2,g.1⟩),if_neg hp1.1]
def Za1 (f:Nat->Int):Nat->Int
 | 0=>0
 | k+1=>Za1 f k+f k
theorem Zcf (f g:Nat->Int):∀k,(∀u,u<k->f u<=g u)->Za1 f k<=Za1 g k
 | 0,_=>Int.le_refl _
 | k+1,h=>by have:=Zcf f g k (fun u hu=>h u (by omega));have:=h k (by omega);simp only [Za1];omega
theorem Znz (f g:Nat->Int):∀k,(∀u,u<k->f u<=g u)->Za1 g k<=Za1 f k->∀u,u<k->f u=g u
 | 0,_,_,u,hu=>by omega
 | k+1,h,he,u,hu=>by
   have h1:=Zcf f g k (fun u hu=>h u (by omega))
   have h2:=h k (by omega)
   simp only [Za1] at he
   by_cases e:u=k
   ·subst e;omega
   exact Znz f g k (fun u hu=>h u (by omega)) (by omega) u (by omega)
def Zse (c d:List Int) (k:Nat):Bool:=decide (0<Yi c ((k / 17:Nat):Int) ((k%17:Nat):Int)/\dAt d (k / 17)=dAt d (k%17)+1)
def Zsd (c d:List Int):Nat:=(List.range 289).countP (Zse c d)
def Zd9 (c:List Int) (t:Nat):Nat:=(289-(Za1 (dAt (Vr c t)) 17).toNat)*300+Zsd c (Vr c t)
theorem wayM_le (c:List Int) (t:Nat):Zd9 c t<=86989:=by
 unfold Zd9 Zsd
 have:(List.range 289).countP (Zse c (Vr c t))<=289:=by
  have:=List.countP_le_length (p:=Zse c (Vr c t)) (l:=List.range 289)
  simpa using this
 omega
theorem wayM_less {c c':List Int} {t:Nat} (ht:t<=16) (l:List Int) (a:Int) (hadm:Um c (Vr c t) (a::l))
 (hF1:∀i j:Nat,i<17->j<17->0<Yi c' i j->0<Yi c i j\/Y3 (a::l) j i)
 (hF2:∃i j:Nat,Y3 (a::l) i j/\Yi c' i j<=0):Zd9 c' t<Zd9 c t:=by
 have hB:=Zcw c t ht
 have hB':=Zcw c' t ht
 unfold Zd9
 generalize Vr c t=d at *
 generalize Vr c' t=d' at *
 have hge:∀(k:Nat) (u:Nat),u<17->dAt d' u=(k:Int)->dAt d u<=dAt d' u:=by
  intro k
  induction k using Nat.strongRecOn with
  | _ k ih=>
    intro u hu hk
    have hr:=hB.rng u hu
    by_cases h17:dAt d' u<17
    ·by_cases h0:dAt d' u=0
     ·have:=(hB'.root u hu).1 h0
      rw [(hB.root u hu).2 this]
      omega
     obtain ⟨hu1,v,hv,hcv,hdv⟩:=hB'.back u hu (by omega) h17
     have hv0:=(hB'.rng v hv).1
     have ihv:=ih (k-1) (by omega) v hv (by omega)
     rcases hF1 u v hu hv hcv with hc | hp
     ·have:=hB.done v hv (by omega) (by simp) u hu1 hu hc
      omega
     have:=(Zbz l a hadm v u hp).2.2.2.1
     omega
    omega
 have hge':∀u,u<17->dAt d u<=dAt d' u:=fun u hu=>by
  obtain ⟨k,hk⟩:=Int.eq_ofNat_of_zero_le (hB'.rng u hu).1
  exact hge k u hu hk
 have hs:=Zcf _ _ 17 hge'
 have hs0:0<=Za1 (dAt d) 17:=by
  have:=Zcf (fun _=>0) (dAt d) 17 (fun u hu=>(hB.rng u hu).1)
  have e:Za1 (fun _=>0) 17=0:=by decide
  omega
 have hs289:Za1 (dAt d') 17<=289:=by
  have:=Zcf (dAt d') (fun _=>17) 17 (fun u hu=>(hB'.rng u hu).2)
  have e:Za1 (fun _=>17) 17=289:=by decide
  omega
 by_cases he:Za1 (dAt d') 17<=Za1 (dAt d) 17
 ·have heq:=Znz _ _ 17 hge' he
  have hlt:Zsd c' d'+1<=Zsd c d:=by
   unfold Zsd
   refine Zah _ _ _ (fun k hk hx=> ?_) ?_
   ·have hk:k<289:=by simpa using hk
    simp only [Zse,decide_eq_true_eq] at hx ⊢
    rw [<-heq _ (show k / 17<17 by omega),<-heq _ (show k%17<17 by omega)] at hx
    refine ⟨?_,hx.2⟩
    rcases hF1 _ _ (by omega) (by omega) hx.1 with h | h
    ·exact h
    have:=(Zbz l a hadm _ _ h).2.2.2.1
    omega
   obtain ⟨i,j,hp,hz⟩:=hF2
   obtain ⟨hi,hj,hc,hd,_⟩:=Zbz l a hadm i j hp
   have e1:(i*17+j) / 17=i:=by omega
   have e2:(i*17+j)%17=j:=by omega
   refine ⟨i*17+j,by simp;omega,?_,?_⟩
   ·simp only [Zse,decide_eq_false_iff_not,e1,e2]
    omega
   simp only [Zse,decide_eq_true_eq,e1,e2]
   exact ⟨hc,hd⟩
  omega
 have h1:Zsd c' d'<=289:=by
  unfold Zsd
  have:=List.countP_le_length (p:=Zse c' d') (l:=List.range 289)
  simpa using this
 omega
theorem Zje (c:List Int):∀(l:List Int) (a:Int) (w v:Int),Z5 c (a::l) (min w v)=min w (Z5 c (a::l) v)
 | [],_,_,_=>rfl
 | b::r,a,w,v=>by
   rw [Jj,Jj,Int.min_assoc]
   exact Zje c r b w _
theorem Zgd (c:List Int):∀(l:List Int) (a:Int) (w:Int),Z5 c (a::l) w<=w
 | [],_,_=>Int.le_refl _
 | b::r,a,w=>by rw [Jj];exact Int.le_trans (Zgd c r b _) (Int.min_le_left _ _)
theorem Zcv (c:List Int):∀(l:List Int) (a:Int) (w:Int) (i j:Int),Y3 (a::l) i j->Z5 c (a::l) w<=Yi c i j
 | [],_,_,_,_,h=>by simp [Y3] at h
 | b::r,a,w,i,j,h=>by
   rw [Jj]
   unfold Y3 at h
   rcases h with ⟨rfl,rfl⟩ | h
   ·exact Int.le_trans (Zgd c r _ _) (Int.min_le_right _ _)
   exact Zcv c r b _ i j h
theorem Zge (c d:List Int):∀(l:List Int) (a:Int) (w:Int),Um c d (a::l)->Z5 c (a::l) w=w\/∃i j:Nat,Y3 (a::l) i j/\Z5 c (a::l) w=Yi c i j
 | [],_,_,_=>.inl rfl
 | b::r,a,w,h=>by
   unfold Um at h
   obtain ⟨⟨x,y,rfl,rfl,_⟩,hr⟩:=h
   rw [Jj]
   rcases Zge c d r (y:Int) (min w (Yi c x y)) hr with h1 | ⟨i,j,hp,h1⟩
   ·rw [h1]
    rcases Int.le_total w (Yi c x y) with h2 | h2
    ·exact .inl (Int.min_eq_left h2)
    exact .inr ⟨x,y,.inl ⟨rfl,rfl⟩,Int.min_eq_right h2⟩
   exact .inr ⟨i,j,.inr hp,h1⟩
theorem Zq9 (c d:List Int) (l:List Int) (a:Int) (w:Int) (h:Um c d (a::l)) (hw:1<=w):1<=Z5 c (a::l) w:=by
 rcases Zge c d l a w h with h1 | ⟨i,j,hp,h1⟩
 ·omega
 have:=(Zbz l a h i j hp).2.2.1
 omega
abbrev Flows:=List (Int×Int×Int)
def Yb:List Int->Int->Flows
 | a::b::r,n=>(a,b,n)::Yb (b::r) n
 | _,_=>[]
def Xw (a t want:Int):Nat->List Int->Int->Flows->Flows×Int
 | 0,_,got,acc=>(acc,got)
 | f+1,c,got,acc=>if Zq c a t=[] then (acc,got) else
    if got+Z5 c (Zq c a t) (want-got)=want then (acc++Yb (Zq c a t) (Z5 c (Zq c a t) (want-got)),want)
    else Xw a t want f (Xg (Zq c a t) c (Z5 c (Zq c a t) (want-got))) (got+Z5 c (Zq c a t) (want-got)) (acc++Yb (Zq c a t) (Z5 c (Zq c a t) (want-got)))
def Y9 (c:List Int) (a t want:Int):Flows×Int:=if want<=0 then ([],0) else Xw a t want 90000 c 0 []
def Zd0 (c:List Int) (a t:Int):Int:=(Y9 c a t 9223372036854775807).2
theorem Jg {c:List Int} {a t:Int} (hw:WFG c) (hn:Zq c a t≠[]) (r:Int) (hr:1<=r):
 1<=Z5 c (Zq c a t) r/\Z5 c (Zq c a t) r<=r/\WFG (Xg (Zq c a t) c (Z5 c (Zq c a t) r))/\
 (Z5 c (Zq c a t) r<r->Zd9 (Xg (Zq c a t) c (Z5 c (Zq c a t) r)) t.toNat<Zd9 c t.toNat):=by
 obtain ⟨i,j,rfl,rfl,hi,hj,hij,_,hadm,hl2,_⟩:=Zbg hn
 generalize Zq c i j=l at *
 match l,hl2 with
 | x::l,hl2=>
   have h1:=Zq9 c _ l x r hadm hr
   have h2:=Zgd c l x r
   have hsp:=Zi2 (Z5 c (x::l) r) h1 l x c hw hadm (fun i j hp=>Zcv c l x r i j hp)
   refine ⟨h1,h2,hsp.1,fun hlt=> ?_⟩
   rw [Int.toNat_natCast]
   have hin:∀u v:Nat,Y3 (x::l) u v->1<=u/\u<17/\1<=v/\v<17:=fun u v hp=>by
    have:=Zbz l x hadm u v hp
    have:=Zae this.2.2.1
    omega
   refine wayM_less (by omega) l x hadm (fun u v hu hv hc=> ?_) ?_
   ·by_cases hp:Y3 (x::l) v u
    ·exact .inr hp
    have hok:=Zae hc
    by_cases hp2:Y3 (x::l) u v
    ·exact .inl (Zbz l x hadm u v hp2).2.2.1
    rw [(hsp.2 u v (by omega) hu (by omega) hv).2.2 hp2 hp] at hc
    exact .inl hc
   rcases Zge c _ l x r hadm with h3 | ⟨u,v,hp,h3⟩
   ·omega
   refine ⟨u,v,hp,?_⟩
   obtain ⟨g1,g2,g3,g4⟩:=hin u v hp
   rw [(hsp.2 u v g1 g2 g3 g4).1 hp]
   omega
theorem Zc0:∀(l:List Int) (n:Int),(Yb l n).length=l.length-1
 | [],_=>rfl
 | [_],_=>rfl
 | a::b::r,n=>by have:=Zc0 (b::r) n;simp only [Yb,List.length_cons] at *;omega
theorem Zcm (a t:Int):∀(f:Nat) (c:List Int) (want wide got:Int) (acc acc':Flows),WFG c->got<want->want<=wide->(Xw a t want f c got acc).2=min want (Xw a t wide f c got acc').2/\got<=(Xw a t wide f c got acc').2
 | 0,c,want,wide,got,acc,acc',_,h1,h2=>by
   simp only [Xw]
   exact ⟨by omega,Int.le_refl _⟩
 | f+1,c,want,wide,got,acc,acc',hw,h1,h2=>by
   unfold Xw
   by_cases hn:Zq c a t=[]
   ·rw [if_pos hn,if_pos hn]
    exact ⟨by simp only;omega,Int.le_refl _⟩
   rw [if_neg hn,if_neg hn]
   obtain ⟨p1,p2,p3,_⟩:=Jg hw hn (want-got) (by omega)
   obtain ⟨q1,q2,q3,_⟩:=Jg hw hn (wide-got) (by omega)
   have hmin:Z5 c (Zq c a t) (want-got)=min (want-got) (Z5 c (Zq c a t) (wide-got)):=by
    have hne:=hn
    generalize Zq c a t=l at *
    match l,hne with
    | x::l,_=>rw [<-Zje,Int.min_eq_left (by omega)]
   by_cases g1:got+Z5 c (Zq c a t) (want-got)=want
   ·rw [if_pos g1]
    by_cases g2:got+Z5 c (Zq c a t) (wide-got)=wide
    ·rw [if_pos g2]
     exact ⟨by simp only;omega,by simp only;omega⟩
    rw [if_neg g2]
    have:=Zcm a t f (Xg (Zq c a t) c (Z5 c (Zq c a t) (wide-got))) wide wide (got+Z5 c (Zq c a t) (wide-got)) (acc'++Yb (Zq c a t) (Z5 c (Zq c a t) (wide-got))) (acc'++Yb (Zq c a t) (Z5 c (Zq c a t) (wide-got))) q3 (by omega) (Int.le_refl _)
    have h3:=this.2
    exact ⟨by simp only;omega,by omega⟩
   rw [if_neg g1]
   have e:Z5 c (Zq c a t) (wide-got)=Z5 c (Zq c a t) (want-got):=by omega
   rw [e]
   rw [if_neg (by omega)]
   have:=Zcm a t f (Xg (Zq c a t) c (Z5 c (Zq c a t) (want-got))) want wide (got+Z5 c (Zq c a t) (want-got)) (acc++Yb (Zq c a t) (Z5 c (Zq c a t) (want-got))) (acc'++Yb (Zq c a t) (Z5 c (Zq c a t) (want-got))) p3 (by omega) h2
   exact ⟨this.1,by omega⟩
theorem route_min (c:List Int) (a t want:Int) (hw:WFG c) (h1:1<=want) (h2:want<=9223372036854775807):(Y9 c a t want).2=min want (Zd0 c a t):=by
 unfold Zd0 Y9
 rw [if_neg (by omega),if_neg (by omega)]
 exact (Zcm a t 90000 c want _ 0 [] [] hw (by omega) h2).1
end Go.Proofs.YtipjchbdogmccaaGreat
