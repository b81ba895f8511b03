/- Journals, plain: what is written down of a command; what entries keep true. What else a machine keeps true: numbers of offers rise, owners are parties, there are few. Sound (countinghouselaw14), walked. What a step does to positions, plainly: payments, swaps, offers that are placed. What payments and nettings do to positions, plainly: a netting leaves each position as it was. MachinesMoves, plainly: whose positions a step changes, and what it answers. What MachinesMoves asks of states, walked: positions, owners, whether an offer has less left. Keys of lines stay one by one; what a step keeps, in one. Journals: books of positions and journals, as cells. -/
import Derived.Test.YtipjchbdogmccaaGreatRnd
import Derived.Test.YtipjchbdogmccaaGreatBatch
import Derived.Test.YtipjchbdogmccaaGreatStands
import Derived.Test.YtipjchbdogmccaaGreatJw4
namespace Go.Proofs.YtipjchbdogmccaaGreat
structure MX (L:Led) (B:Bk):Prop where
 up:(B.offs.map Off.seq).Pairwise (·<·)
 lo:∀o∈B.offs,1<=o.seq/\o.seq<B.next
 own:∀o∈B.offs,Ys L o.owner=true
 few:B.offs.length<=32
 nx:1<=B.next
theorem MX.par {L L':Led} {B:Bk} (h:MX L B) (hp:L'.par=L.par):MX L' B:=⟨h.up,h.lo,fun o ho=>by rw [Zkf hp];exact h.own o ho,h.few,h.nx⟩
theorem MX.erase {L:Led} {B:Bk} (h:MX L B) (i:Nat):MX L { B with offs:=B.offs.eraseIdx i }:=
 ⟨h.up.sublist ((List.eraseIdx_sublist ..).map _),fun o ho=>h.lo o (List.mem_of_mem_eraseIdx ho),fun o ho=>h.own o (List.mem_of_mem_eraseIdx ho),by have:=h.few;have:=List.length_eraseIdx_le B.offs i;simp only;omega,h.nx⟩
theorem Zlz (c:Int):∀(fl:Flows) (L:Led),(Yo L c fl).par=L.par
 | [],_=>rfl
 | x::fl,L=>by
   show (Yo (Um L x.1 x.2.1 c x.2.2).2 c fl).par=L.par
   rw [Zlz c fl]
   unfold Um Uj
   split
   ·rfl
   split<;>rfl
theorem Zna (L:Led) (a b c n:Int):(Ua L a b c n).2.par=L.par:=by
 unfold Ua
 split
 ·rfl
 split
 ·rfl
 split
 ·rfl
 exact Zlz _ _ _
theorem par_trust (L:Led) (a b c n:Int):(Xd L a b c n).2.par=L.par:=by
 unfold Xd
 split
 ·rfl
 split
 ·rfl
 split
 ·rfl
 split
 ·rfl
 split<;>rfl
theorem Zo1 (L:Led) (a b c n:Int):(Vl L a b c n).2.par=L.par:=by
 unfold Vl
 split
 ·rfl
 split
 ·rfl
 split<;>rfl
theorem Zgj {left:List Fw} {c:Int}:∀{l:List Fw} {L:Led} {g:Int},(Vu left c l L g).1.par=L.par
 | [],_,_=>rfl
 | x::l,L,g=>by
   unfold Vu
   split
   ·rw [Zgj (l:=l)];exact Zo1 _ _ _ _ _
   exact Zgj (l:=l)
theorem par_net (L:Led) (c quota:Int):(U3 L c quota).2.2.2.par=L.par:=by
 unfold U3
 split
 ·rfl
 split
 ·rfl
 exact Zgj
theorem par_do (L:Led) (B:Bk) (seq taker to n:Int):(doR L B seq taker to n).2.2.1.par=L.par:=by
 unfold doR
 split
 ·rfl
 simp only
 rw [Zna]
 split
 ·rfl
 exact Zna _ _ _ _ _
open Go.RowKit Go.Rg Go.BigFrame
theorem FrA.kp {A:Nat->Prop} {w w':World} {S:List Nat} (k:FrA A w w') (h:∀x,A x->x∈S):Keep S w w':=⟨k.os,k.tape,k.output,k.size,fun i hi hn=>k.block i hi (fun ha=>hn (h i ha))⟩
theorem take_at {B:Bk} (hs:Ux B) {seq n:Int} {o:Off} (hf:Z8 B.offs seq=some o) (h1:1<=n) (h2:n<=o.left):
 Z8 (Ui B seq n).2.offs seq=(if o.left=n then none else some { o with left:=o.left-n }):=by
 rcases Zd1 B.offs seq with ⟨_,h4⟩ | ⟨j,hj,h3,h4⟩
 ·rw [hf] at h4;cases h4
 have hoj:B.offs[j]'hj=o:=by rw [hf] at h4;injection h4 with h4;exact h4.symm
 have hoseq:=(Y2 hf).2
 unfold Ui
 rw [hf,h3]
 simp only [Int.toNat_natCast]
 rw [if_neg (by omega)]
 have hnd:(B.offs.map Off.seq).Nodup:=hs
 rw [List.nodup_iff_pairwise_ne,List.pairwise_iff_getElem] at hnd
 by_cases hz:o.left=n
 ·rw [if_pos hz,if_pos hz]
  unfold Z8
  rw [List.find?_eq_none]
  intro x hx
  obtain ⟨i,hi,rfl⟩:=List.getElem_of_mem hx
  simp only [List.length_eraseIdx,if_pos hj] at hi
  rw [List.getElem_eraseIdx]
  simp only [beq_iff_eq]
  intro e
  split at e
  focus
   rename_i hij
   have:=hnd i j (by simp;omega) (by simpa using hj) hij
  rotate_left
  focus
   rename_i hij
   have:=hnd j (i+1) (by simpa using hj) (by simp;omega) (by omega)
  all_goals
   simp only [List.getElem_map] at this
   exact this (by rw [e,hoj,hoseq])
 rw [if_neg hz,if_neg hz]
 unfold Z8
 rw [List.find?_eq_some_iff_getElem]
 refine ⟨by simp [hoseq],j,by simpa using hj,by simp,fun i hi=> ?_⟩
 rw [List.getElem_set_ne (by omega)]
 have:=hnd i j (by simp;omega) (by simpa using hj) hi
 simp only [List.getElem_map] at this
 simp only [Bool.not_eq_true',beq_eq_false_iff_ne,ne_eq]
 intro e
 exact this (by rw [e,hoj,hoseq])
theorem take_le {B:Bk} (hs:Ux B) {seq n s:Int} (h1:1<=n) {o':Off} (h:Z8 (Ui B seq n).2.offs s=some o'):
 ∃o,Z8 B.offs s=some o/\o.owner=o'.owner/\o'.left<=o.left:=by
 have hm:=(Y2 h).1
 have hq:=(Y2 h).2
 have hin:∀o∈B.offs,o.seq=s->Z8 B.offs s=some o:=fun o ho e=>by rw [<-e];exact Zae hs ho
 unfold Ui at hm
 cases hf:Z8 B.offs seq with
 | none=>rw [hf] at hm;exact ⟨o',hin o' hm hq,rfl,Int.le_refl _⟩
 | some x=>
   rw [hf] at hm
   simp only at hm
   have hx:=Y2 hf
   split at hm
   ·exact ⟨o',hin o' hm hq,rfl,Int.le_refl _⟩
   split at hm
   ·exact ⟨o',hin o' (List.mem_of_mem_eraseIdx hm) hq,rfl,Int.le_refl _⟩
   rcases List.mem_or_eq_of_mem_set hm with hm | rfl
   ·exact ⟨o',hin o' hm hq,rfl,Int.le_refl _⟩
   exact ⟨x,hin x hx.1 hq,rfl,by simp only;omega⟩
theorem Zqp {get give:Int} {falls:Bool} {s:Int}:∀{l:List Fl} {L:Led} {B:Bk} {n most:Int} {L':Led} {B':Bk},Ux B->J8 get give falls l L B n most L' B'->
 ∀{o':Off},Z8 B'.offs s=some o'->∃o,Z8 B.offs s=some o/\o.owner=o'.owner/\o'.left<=o.left
 | [],_,_,_,_,_,_,_,⟨_,h⟩,o',ho=>by rw [h];exact ⟨o',ho,rfl,Int.le_refl _⟩
 | g::l,L,B,_,_,_,_,hsn,⟨o,L1,B1,hst,hr⟩,o',ho=>by
   have hdo:=hst.fill.doo
   have hsn2:=Zds (L:=L) hsn g.1 g.2.1 g.2.2.1 g.2.2.2.1
   rw [hdo] at hsn2
   obtain ⟨o1,h1,h2,h3⟩:=Zqp hsn2 hr ho
   rw [hst.fill.bk] at h1
   obtain ⟨o2,k1,k2,k3⟩:=take_le hsn hst.fill.fair.g1 h1
   exact ⟨o2,k1,k2.trans h2,Int.le_trans h3 k3⟩
theorem Zkw {get give:Int} {falls:Bool}:∀{l:List Fl} {L:Led} {B:Bk} {n most:Int} {L':Led} {B':Bk},Ux B->J8 get give falls l L B n most L' B'->
 ∀f∈l,∃o,Z8 B.offs f.1=some o/\∀o',Z8 B'.offs f.1=some o'->o'.left<o.left
 | [],_,_,_,_,_,_,_,_=>by simp
 | g::l,L,B,_,_,_,_,hsn,⟨o,L1,B1,hst,hr⟩=>by
   have hdo:=hst.fill.doo
   have hsn2:=Zds (L:=L) hsn g.1 g.2.1 g.2.2.1 g.2.2.2.1
   rw [hdo] at hsn2
   intro f hf
   rcases List.mem_cons.1 hf with rfl | hf
   ·refine ⟨o,hst.fill.fnd,fun o' ho'=> ?_⟩
    obtain ⟨o1,h1,_,h3⟩:=Zqp hsn2 hr ho'
    have g1:=hst.fill.fair.g1
    have h4:=take_at hsn hst.fill.fnd g1 hst.fill.left
    rw [hst.fill.bk,h4] at h1
    split at h1
    ·cases h1
    injection h1 with h1
    subst h1
    simp only at h3
    omega
   obtain ⟨o1,h1,h2⟩:=Zkw hsn2 hr f hf
   rw [hst.fill.bk] at h1
   obtain ⟨o2,k1,_,k3⟩:=take_le hsn hst.fill.fair.g1 h1
   exact ⟨o2,k1,fun o' ho'=>Int.lt_of_lt_of_le (h2 o' ho') k3⟩
theorem Zmv {get give q c:Int} (h1:c≠get) (h2:c≠give) {falls:Bool}:∀{l:List Fl} {L:Led} {B:Bk} {n most:Int} {L':Led} {B':Bk},J8 get give falls l L B n most L' B'->Z1 L' q c=Z1 L q c
 | [],_,_,_,_,_,_,⟨h,_⟩=>by rw [h]
 | g::l,L,B,_,_,_,_,⟨o,L1,B1,hst,hr⟩=>by
   obtain ⟨j,hj,hjo,_⟩:=hst.best
   have hm:=Zgn (List.getElem_mem hj)
   rw [hjo] at hm
   rw [Zmv h1 h2 hr,hst.fill.pos q c,hm.2.1,hm.2.2]
   unfold mvP
   rw [if_neg h1,if_neg h2]
   omega
def lessR (B' B:Bk) (p:Int):Prop:=∃o∈B.offs,o.owner=p/\∀o'∈B'.offs,o'.seq=o.seq->o'.left<o.left
theorem Zhu {get give fr to:Int} {falls:Bool} {l:List Fl} {L:Led} {B:Bk} {n most:Int} {L':Led} {B':Bk} (hsn:Ux B) (hsn':Ux B') (h:J8 get give falls l L B n most L' B') (hft:∀f∈l,f.2.1=fr/\f.2.2.1=to) {q c:Int}
 (hp:Z1 L' q c≠Z1 L q c):(q=fr\/q=to\/lessR B' B q)/\(c=get\/c=give):=by
 refine ⟨?_,?_⟩
 ·by_cases h1:q=fr
  ·exact .inl h1
  by_cases h2:q=to
  ·exact .inr (.inl h2)
  refine .inr (.inr ?_)
  apply Classical.byContradiction
  intro hno
  refine hp (Zmu (c:=c) h1 h2 hsn h hft fun f hf o ho e=>hno ?_)
  obtain ⟨o1,k1,k2⟩:=Zkw hsn h f hf
  have:o1=o:=by rw [ho] at k1;exact (Option.some.inj k1).symm
  subst this
  have hs:=(Y2 ho).2
  exact ⟨o1,(Y2 ho).1,e,fun o' ho' hs'=>k2 o' (by rw [<-hs,<-hs'];exact Zae hsn' ho')⟩
 by_cases h1:c=get
 ·exact .inl h1
 by_cases h2:c=give
 ·exact .inr h2
 exact absurd (Zmv h1 h2 h) hp
theorem Zq5 {L:Led} {B:Bk} {fr to get give n most:Int} (hk:MOk L B) (h0:(Y6 L B fr to get give n most).1=0) {q c:Int} (hp:Z1 (Y6 L B fr to get give n most).2.1 q c≠Z1 L q c):
 (q=fr\/q=to\/lessR (Y6 L B fr to get give n most).2.2.1 B q)/\(c=get\/c=give):=by
 obtain ⟨h1,h2,_⟩:=Zi4 hk.wf hk.ok hk.sq.1 h0
 exact Zhu hk.sq.1 (Zjx hk fr to get give n most).sq.1 h1 h2 hp
theorem Zs1 {L:Led} {B:Bk} {o:Off} (hk:MOk L B) (h0:(Vm L B o).1=0) {q c:Int} (hp:Z1 (Vm L B o).2.2.1 q c≠Z1 L q c):
 (q=o.owner\/lessR (Vm L B o).2.2.2.1 B q)/\(c=o.buy\/c=o.sell):=by
 obtain ⟨B',left,hc⟩:=come_ok hk.wf hk.ok hk.sq h0
 obtain ⟨h1,h2⟩:=Zhu hk.sq.1 hc.seq.1 hc.chain hc.who hp
 refine ⟨?_,h2⟩
 rcases h1 with h1 | h1 | h1
 ·exact .inl h1
 ·exact .inl h1
 refine .inr ?_
 obtain ⟨x,hx,hxo,hxl⟩:=h1
 refine ⟨x,hx,hxo,fun o' ho' hs'=> ?_⟩
 rcases hc.fin with ⟨_,_,h3⟩ | ⟨_,_,h3,_⟩
 ·rw [h3] at ho';exact hxl o' ho' hs'
 rw [h3] at ho'
 rcases List.mem_append.1 ho' with ho' | ho'
 ·exact hxl o' ho' hs'
 simp at ho'
 subst ho'
 have:=hk.sq.2 x hx
 simp only at hs'
 omega
open Go.RowKit
theorem pay_gone {L:Led} (hw:WF L) {a b c n:Int} (h0:(Ua L a b c n).1.2=0):WayP L (Ua L a b c n).2 a b c n/\Zf1 a b c n=false:=by
 unfold Ua at h0
 by_cases h1:Zf1 a b c n=true
 ·rw [if_pos h1] at h0;exact absurd h0 (by simp)
 rw [if_neg h1] at h0
 by_cases h2:(!(Ys L a&&Ys L b))=true
 ·rw [if_pos h2] at h0;exact absurd h0 (by simp)
 rw [if_neg h2] at h0
 have hb:Zf1 a b c n=false:=by simpa using h1
 have hh:Ys L a=true/\Ys L b=true:=by simpa using h2
 by_cases h3:(Y9 (ofR L c) a b n).2<n
 ·rw [if_pos h3] at h0;exact absurd h0 (by simp)
 have hn:1<=n/\n<=1099511627776:=by
  unfold Zf1 at hb
  simp only [Bool.not_eq_false',Bool.and_eq_true,decide_eq_true_eq] at hb
  omega
 have hr:=Zls (ofR L c) a b n (Zl2 hw c) hn.1 (by omega)
 exact ⟨(Zrq hw a b c n hb hh.1 hh.2 (by omega)).2,hb⟩
def NB (d:Db):Prop:=0<=d.2.2.1/\0<=d.2.2.2/\d.2.2.1+d.2.2.2<=1099511627776
def Zg5 (l:List Db) (s:Nat×Bool) (p q:Int):Prop:=
 ∃hk:s.1<l.length,if s.2 then (l[s.1]'hk).1=q/\(l[s.1]'hk).2.1=p/\0<(l[s.1]'hk).2.2.2 else (l[s.1]'hk).1=p/\(l[s.1]'hk).2.1=q/\0<(l[s.1]'hk).2.2.1
theorem Zop {p q:Int}:∀(l:List Db) (i:Nat) (r:Option (Nat×Bool)) (j:Nat) (b:Bool),X0 l i p q r=some (j,b)->r=some (j,b)\/∃k,j=i+k/\Zg5 l (k,b) p q
 | [],i,r,j,b,h=>.inl h
 | d::l,i,r,j,b,h=>by
   unfold X0 at h
   split at h
   ·rename_i hc
    simp only [Option.some.injEq,Prod.mk.injEq] at h
    obtain ⟨rfl,rfl⟩:=h
    exact .inr ⟨0,rfl,by simp,by simpa using hc⟩
   have hrec:∀r',X0 l (i+1) p q r'=some (j,b)->r'=some (j,b)\/∃k,j=i+k/\Zg5 (d::l) (k,b) p q:=fun r' h'=>by
    rcases Zop l (i+1) r' j b h' with h1 | ⟨k,rfl,hk,hs⟩
    ·exact .inl h1
    exact .inr ⟨k+1,by omega,by simpa using hk,by simpa using hs⟩
   split at h
   ·rename_i hc
    rcases hrec _ h with h1 | h1
    ·simp only [Option.some.injEq,Prod.mk.injEq] at h1
     obtain ⟨rfl,rfl⟩:=h1
     exact .inr ⟨0,rfl,by simp,by simpa using hc⟩
    exact .inr h1
   rcases hrec _ h with h1 | h1
   ·exact .inl h1
   exact .inr h1
theorem Zs2 {a:List Int} {x:Int} {l:List Int} (h:Coll a x l):l.Nodup:=by
 rw [List.nodup_iff_pairwise_ne,List.pairwise_iff_getElem]
 intro i j hi hj hij
 rw [h.at' i hi,h.at' j hj]
 exact h.nd i j hij hj
theorem Zm7 {es:List Ed} (hok:EOk es):(X6 es).Nodup:=by
 unfold X6
 by_cases h:(Vn es 16 Zn Zn 0).2=0
 ·rw [if_pos h];exact List.nodup_nil
 rw [if_neg h]
 have hr:=Zn2 hok h
 generalize Zw (Vn es 16 Zn Zn 0).1 16 (Vn es 16 Zn Zn 0).2=x at *
 generalize (Vn es 16 Zn Zn 0).1=a at *
 obtain ⟨h1,_⟩:=Zip hr 17 [] (Zfz a x) rfl
 simp only [List.length_nil,Zw] at h1
 have hn:(V0 a 17 [] x).reverse.Nodup:=(List.reverse_perm _).nodup_iff.2 (Zs2 h1)
 generalize (V0 a 17 [] x).reverse=l at *
 unfold Zgi
 have hp:(l.drop (Zh9 l (Zfl l))++l.take (Zh9 l (Zfl l))).Perm l:=by
  have:=List.perm_append_comm (l₁:=l.drop (Zh9 l (Zfl l))) (l₂:=l.take (Zh9 l (Zfl l)))
  rwa [List.take_append_drop] at this
 exact hp.nodup_iff.2 hn
theorem Zfe {l:List Db} {way:List Int} (hc:Cyc (Yr l) way) (i:Nat) (hi:i<way.length):
 ∃h:i<(Yj l way).length,Zg5 l ((Yj l way)[i]'h) (way[i]'hi) (way[(i+1)%way.length]'(Nat.mod_lt _ (by omega))):=by
 have hlen:(Yj l way).length=way.length:=by unfold Yj;simp
 refine ⟨by omega,?_⟩
 obtain ⟨c,he⟩:=hc i hi
 have hm:(i+1)%way.length<way.length:=Nat.mod_lt _ (by omega)
 have e1:way.getD i 0=way[i]'hi:=by rw [List.getD_eq_getElem?_getD,List.getElem?_eq_getElem hi];rfl
 have e2:way.getD ((i+1)%way.length) 0=way[(i+1)%way.length]'hm:=by rw [List.getD_eq_getElem?_getD,List.getElem?_eq_getElem hm];rfl
 have hne:=Zet l 0 none he
 cases hs:X0 l 0 (way[i]'hi) (way[(i+1)%way.length]'hm) none with
 | none=>exact absurd hs hne
 | some jb=>
   obtain ⟨j,b⟩:=jb
   rcases Zop l 0 none j b hs with h1 | ⟨k,hk,h1⟩
   ·cases h1
   have hkj:k=j:=by omega
   subst hkj
   have:(Yj l way)[i]'(by omega)=(k,b):=by
    unfold Yj
    rw [List.getElem_map,List.getElem_range,e1,e2,hs]
    rfl
   rw [this]
   exact h1
theorem step_from {l:List Db} {s:Nat×Bool} {p q p' q':Int} (h:Zg5 l s p q) (h':Zg5 l s p' q'):p=p'/\q=q':=by
 obtain ⟨hk,h1⟩:=h
 obtain ⟨_,h2⟩:=h'
 split at h1
 ·rename_i hb
  rw [if_pos hb] at h2
  exact ⟨h1.2.1.symm.trans h2.2.1,h1.1.symm.trans h2.1⟩
 rename_i hb
 rw [if_neg hb] at h2
 exact ⟨h1.1.symm.trans h2.1,h1.2.1.symm.trans h2.2.1⟩
theorem Zos {l:List Db} {way:List Int} (hc:Cyc (Yr l) way) (hn:way.Nodup):(Yj l way).Nodup:=by
 have hlen:(Yj l way).length=way.length:=by unfold Yj;simp
 rw [List.nodup_iff_pairwise_ne,List.pairwise_iff_getElem] at hn ⊢
 intro i j hi hj hij e
 obtain ⟨_,h1⟩:=Zfe hc i (by omega)
 obtain ⟨_,h2⟩:=Zfe hc j (by omega)
 rw [e] at h1
 exact hn i j (by omega) (by omega) hij (step_from h1 h2).1
theorem Zmx (l:List Db):∀(ss:List (Nat×Bool)) (m:Int),ss.foldl (fun n s=>min n (Uo l s)) m<=m/\∀s∈ss,ss.foldl (fun n s=>min n (Uo l s)) m<=Uo l s
 | [],m=>⟨Int.le_refl _,fun s hs=>by simp at hs⟩
 | x::ss,m=>by
   obtain ⟨h1,h2⟩:=Zmx l ss (min m (Uo l x))
   refine ⟨by simp only [List.foldl_cons];omega,fun s hs=> ?_⟩
   simp only [List.foldl_cons]
   rcases List.mem_cons.1 hs with rfl | hs
   ·omega
   exact h2 s hs
theorem Zky (l:List Db):∀(ss:List (Nat×Bool)) (m:Int),0<m->(∀s∈ss,0<Uo l s)->0<ss.foldl (fun n s=>min n (Uo l s)) m
 | [],_,h,_=>h
 | x::ss,m,h,hs=>by
   simp only [List.foldl_cons]
   have:=hs x (by simp)
   exact Zky l ss _ (by omega) (fun s h'=>hs s (by simp [h']))
def owT (p:Int) (d:Db):Int:=(if d.2.1=p then d.2.2.1 else 0)-(if d.1=p then d.2.2.1 else 0)
def owL (p:Int) (l:List Db):Int:=Yl (l.map (owT p))
theorem Zol (f:Db->Int):∀(l:List Db) (k:Nat) (hk:k<l.length) (y:Db),Yl ((l.set k y).map f)=Yl (l.map f)-f (l[k]'hk)+f y
 | [],k,hk,_=>by simp at hk
 | x::l,0,_,y=>by simp [Yl];omega
 | x::l,k+1,hk,y=>by
   have:=Zol f l k (by simpa using hk) y
   simp only [List.set_cons_succ,List.map_cons,Yl,List.getElem_cons_succ,this]
   omega
structure RdI (l:List Db) (n:Int) (w0 wk:Int) (dn:List (Nat×Bool)) (m:List Db):Prop where
 len:m.length=l.length
 at':∀k (h:k<l.length),(m[k]'(by omega)).1=(l[k]'h).1/\(m[k]'(by omega)).2.1=(l[k]'h).2.1/\
  (m[k]'(by omega)).2.2.1=(l[k]'h).2.2.1-(if (k,false)∈dn then n else 0)+(if (k,true)∈dn then n else 0)/\
  (m[k]'(by omega)).2.2.2=(l[k]'h).2.2.2+(if (k,false)∈dn then n else 0)-(if (k,true)∈dn then n else 0)
 ow:∀p,owL p m=owL p l+(if w0=p then n else 0)-(if wk=p then n else 0)
theorem RdI.step {l:List Db} {n w0 p q:Int} {dn:List (Nat×Bool)} {m:List Db} (h:RdI l n w0 p dn m) (hb:∀d∈l,NB d) (h1:0<=n) (h2:n<=1099511627776) {s:Nat×Bool} (hs:Zg5 l s p q) (hnew:s∉dn):
 RdI l n w0 q (dn++[s]) (goD n m s):=by
 obtain ⟨j,b⟩:=s
 obtain ⟨hk,hst⟩:=hs
 simp only at hk hst
 have hjm:j<m.length:=by rw [h.len];exact hk
 obtain ⟨a1,a2,a3,a4⟩:=h.at' j hk
 have hnb:=hb _ (List.getElem_mem hk)
 unfold NB at hnb
 have hget:m.getD j db0=m[j]'hjm:=by rw [List.getD_eq_getElem?_getD,List.getElem?_eq_getElem hjm];rfl
 have hx1:(if (j,false)∈dn then n else 0)=0\/(if (j,false)∈dn then n else 0)=n:=by split<;>simp
 have hx2:(if (j,true)∈dn then n else 0)=0\/(if (j,true)∈dn then n else 0)=n:=by split<;>simp
 unfold goD
 rw [hget]
 simp only
 have hd:addD (m[j]'hjm) (if b then wrap64 (-n) else n)=((m[j]'hjm).1,(m[j]'hjm).2.1,(m[j]'hjm).2.2.1-(if b then -n else n),(m[j]'hjm).2.2.2+(if b then -n else n)):=by
  unfold addD
  have e:(if b then wrap64 (-n) else n)=if b then -n else n:=by split;unfold wrap64;omega;rfl
  rw [e]
  have:(if b then -n else n)=n\/(if b then -n else n)= -n:=by split<;>simp
  have e1:wrap64 ((m[j]'hjm).2.2.1-(if b then -n else n))=(m[j]'hjm).2.2.1-(if b then -n else n):=by unfold wrap64;omega
  have e2:wrap64 ((m[j]'hjm).2.2.2+(if b then -n else n))=(m[j]'hjm).2.2.2+(if b then -n else n):=by unfold wrap64;omega
  rw [e1,e2]
 rw [hd]
 refine ⟨by simp [h.len],fun k hk2=> ?_,fun p'=> ?_⟩
 ·by_cases hkj:j=k
  ·subst hkj
   simp only [List.getElem_set_self]
   refine ⟨a1,a2,?_,?_⟩
   focus
    rw [a3]
    cases b
    rotate_left
   rotate_left 2
   focus
    rw [a4]
    cases b
    rotate_left
   all_goals simp [List.mem_append];rw [if_neg hnew];omega
  have hm1:∀c,((k,c)∈dn++[(j,b)])=((k,c)∈dn):=fun c=>by
   have:((k,c):Nat×Bool)≠(j,b):=fun e=>hkj (by injection e with e1 _;exact e1.symm)
   simp [this]
  simp only [List.getElem_set_ne hkj,hm1]
  exact h.at' k hk2
 have e2:=h.ow p'
 unfold owL at e2 ⊢
 rw [Zol _ m j hjm,e2]
 generalize Yl (l.map (owT p'))=z
 unfold owT
 simp only [a1,a2]
 cases b
 focus simp only [Bool.false_eq_true,if_false] at hst ⊢
 rotate_left
 focus simp only [if_true] at hst ⊢
 all_goals
  rw [hst.1,hst.2.1]
  split<;>split<;>split<;>omega
theorem fold_ri {l:List Db} {way:List Int} {n:Int} (hc:Cyc (Yr l) way) (hn:way.Nodup) (hb:∀d∈l,NB d) (h1:0<=n) (h2:n<=1099511627776) (hw:0<way.length):
 ∀k,k<=way.length->RdI l n (way[0]'hw) (way[k%way.length]'(Nat.mod_lt _ hw)) ((Yj l way).take k) (((Yj l way).take k).foldl (goD n) l)
 | 0,_=>⟨rfl,fun k h=>by simp,fun p=>by simp only [Nat.zero_mod,List.take_zero,List.foldl_nil];omega⟩
 | k+1,hk=>by
   have ih:=fold_ri hc hn hb h1 h2 hw k (by omega)
   obtain ⟨hlk,hst⟩:=Zfe hc k (by omega)
   have hnd:=Zos hc hn
   have hnew:(Yj l way)[k]'hlk∉(Yj l way).take k:=fun hm=>by
    obtain ⟨j,hj,he⟩:=List.getElem_of_mem hm
    simp at hj
    rw [List.getElem_take] at he
    rw [List.nodup_iff_pairwise_ne,List.pairwise_iff_getElem] at hnd
    exact hnd j k (by omega) hlk (by omega) he
   have hmod:k%way.length=k:=Nat.mod_eq_of_lt (by omega)
   have e1:way[k%way.length]'(Nat.mod_lt _ hw)=way[k]'(by omega):=by congr 1
   rw [e1] at ih
   have:=ih.step hb h1 h2 hst hnew
   rw [List.take_succ_eq_append_getElem hlk,List.foldl_append]
   exact this
structure Nx (l0 l:List Db):Prop where
 len:l.length=l0.length
 at':∀k (h:k<l0.length),(l[k]'(by omega)).1=(l0[k]'h).1/\(l[k]'(by omega)).2.1=(l0[k]'h).2.1/\(l[k]'(by omega)).2.2.1+(l[k]'(by omega)).2.2.2=(l0[k]'h).2.2.1+(l0[k]'h).2.2.2
 nb:∀d∈l,NB d
 ow:∀p,owL p l=owL p l0
theorem Nx.trans {a b c:List Db} (h:Nx a b) (k:Nx b c):Nx a c:=
 ⟨k.len.trans h.len,fun i hi=>by
  obtain ⟨x1,x2,x3⟩:=h.at' i hi
  obtain ⟨y1,y2,y3⟩:=k.at' i (by rw [h.len];exact hi)
  exact ⟨y1.trans x1,y2.trans x2,y3.trans x3⟩,k.nb,fun p=>(k.ow p).trans (h.ow p)⟩
theorem round_nx {l:List Db} (hE:Zld l) (hb:∀d∈l,NB d):Nx l (Zar l (X6 (Yr l))):=by
 have hok:=ends_ok hE
 have hc:=(Zlt hok).1
 have hn:=Zm7 hok
 generalize X6 (Yr l)=way at *
 unfold Zar
 rcases Nat.eq_zero_or_pos way.length with hz | hw
 ·have:way=[]:=List.eq_nil_of_length_eq_zero hz
  subst this
  exact ⟨rfl,fun k h=>⟨rfl,rfl,rfl⟩,hb,fun p=>rfl⟩
 have hsl:(Yj l way).length=way.length:=by unfold Yj;simp
 have hm:=Zmx l (Yj l way) 1099511627776
 have hpos:∀s∈Yj l way,0<Uo l s:=fun s hs=>by
  obtain ⟨i,hi,rfl⟩:=List.getElem_of_mem hs
  obtain ⟨_,hk,h2⟩:=Zfe hc i (by omega)
  unfold Uo
  rw [List.getD_eq_getElem?_getD,List.getElem?_eq_getElem hk]
  simp only [Option.getD_some]
  split
  ·rename_i hbb;rw [if_pos hbb] at h2;exact h2.2.2
  rename_i hbb;rw [if_neg hbb] at h2;exact h2.2.2
 have hp:=Zky l (Yj l way) 1099511627776 (by omega) hpos
 have hn0:Zch l (Yj l way)=(Yj l way).foldl (fun n s=>min n (Uo l s)) 1099511627776:=rfl
 rw [<-hn0] at hm hp
 generalize Zch l (Yj l way)=n at *
 have hf:=fold_ri hc hn hb (by omega) hm.1 hw way.length (Nat.le_refl _)
 rw [List.take_of_length_le (by omega)] at hf
 have e0:way[way.length%way.length]'(Nat.mod_lt _ hw)=way[0]'hw:=by congr 1;exact Nat.mod_self _
 rw [e0] at hf
 generalize (Yj l way).foldl (goD n) l=m at *
 have hcase:∀k (h:k<l.length),(m[k]'(by rw [hf.len];exact h)).2.2.1+(m[k]'(by rw [hf.len];exact h)).2.2.2=(l[k]'h).2.2.1+(l[k]'h).2.2.2/\NB (m[k]'(by rw [hf.len];exact h)):=fun k h=>by
  obtain ⟨_,_,a3,a4⟩:=hf.at' k h
  have hnb:=hb _ (List.getElem_mem h)
  have hg:l.getD k db0=l[k]'h:=by rw [List.getD_eq_getElem?_getD,List.getElem?_eq_getElem h];rfl
  have hA:(if (k,false)∈Yj l way then n else 0)=0\/((if (k,false)∈Yj l way then n else 0)=n/\n<=(l[k]'h).2.2.1):=by
   split
   ·rename_i hin
    have:=hm.2 _ hin
    unfold Uo at this
    simp only [Bool.false_eq_true,if_false,hg] at this
    exact .inr ⟨rfl,this⟩
   exact .inl rfl
  have hB:(if (k,true)∈Yj l way then n else 0)=0\/((if (k,true)∈Yj l way then n else 0)=n/\n<=(l[k]'h).2.2.2):=by
   split
   ·rename_i hin
    have:=hm.2 _ hin
    unfold Uo at this
    simp only [if_true,hg] at this
    exact .inr ⟨rfl,this⟩
   exact .inl rfl
  unfold NB at hnb ⊢
  omega
 refine ⟨hf.len,fun k h=>⟨(hf.at' k h).1,(hf.at' k h).2.1,(hcase k h).1⟩,fun d hd=> ?_,fun p=> ?_⟩
 ·obtain ⟨k,hk,rfl⟩:=List.getElem_of_mem hd
  exact (hcase k (by rw [<-hf.len];exact hk)).2
 have:=hf.ow p
 omega
theorem Zpl (quota:Int):∀(f:Nat) (l:List Db) (many:Int),Zld l->(∀d∈l,NB d)->many<=quota->(Y3 quota f l many).1=0->
 Nx l (Y3 quota f l many).2.1/\many<=(Y3 quota f l many).2.2/\(Y3 quota f l many).2.2<=quota
 | 0,l,many,_,_,_,h=>by simp [Y3] at h
 | f+1,l,many,hE,hb,hq,h=>by
   unfold Y3 at h ⊢
   by_cases h1:X6 (Yr l)=[]
   ·rw [if_pos h1]
    exact ⟨⟨rfl,fun k h=>⟨rfl,rfl,rfl⟩,hb,fun p=>rfl⟩,Int.le_refl _,hq⟩
   rw [if_neg h1] at h ⊢
   by_cases h2:many=quota
   ·rw [if_pos h2] at h;simp at h
   rw [if_neg h2] at h ⊢
   have hr:=round_nx hE hb
   obtain ⟨k1,k2,k3⟩:=Zpl quota f _ (many+1) (Zkp hE _).1 hr.nb (by omega) h
   exact ⟨hr.trans k1,by omega,k3⟩
def Zsp (x:Fw):Int×Int:=(x.1,x.2.1)
theorem Zs0 {L:Led} (hk:(L.lines.map (·.1)).Nodup) (c:Int):((Xf L c).map Zsp).Nodup:=by
 have hp:(Xf L c).Perm ((Yh L.lines).filterMap (Zbz c)):=Xe _ _
 rw [(hp.map Zsp).nodup_iff]
 have hk2:((Yh L.lines).map (·.1)).Nodup:=((U0 L.lines).map _).nodup_iff.2 hk
 generalize Yh L.lines=S at *
 clear hp
 induction S with
 | nil=>simp
 | cons a S ih=>
   rw [List.map_cons,List.nodup_cons] at hk2
   have h2:=ih hk2.2
   rw [List.filterMap_cons]
   cases hd:Zbz c a with
   | none=>exact h2
   | some x=>
     simp only [List.map_cons,List.nodup_cons]
     refine ⟨fun hm=> ?_,h2⟩
     obtain ⟨y,hy,he⟩:=List.mem_map.1 hm
     obtain ⟨b,hb,hyb⟩:=List.mem_filterMap.1 hy
     unfold Zbz at hd hyb
     split at hd
     ·split at hyb
      ·rename_i g1 g2
       injection hd with hd
       injection hyb with hyb
       subst hd hyb
       unfold Zsp at he
       simp only [Prod.mk.injEq] at he
       have:b.1=a.1:=by
        obtain ⟨⟨a1,a2,a3⟩,a4⟩:=a
        obtain ⟨⟨b1,b2,b3⟩,b4⟩:=b
        simp only at *
        rw [he.1,he.2,g1.1,g2.1]
       exact hk2.1 (by rw [<-this];exact List.mem_map_of_mem hb)
      cases hyb
     cases hd
theorem Zqj {L:Led} (hk:(L.lines.map (·.1)).Nodup) {c:Int} {x:Fw} (hx:x∈Xf L c):∃lim,lkO L.lines (x.2.1,x.1,c)=some (lim,x.2.2)/\0<x.2.2:=by
 have hp:(Xf L c).Perm ((Yh L.lines).filterMap (Zbz c)):=Xe _ _
 obtain ⟨a,ha,hd⟩:=List.mem_filterMap.1 (hp.mem_iff.1 hx)
 have hm:=Ju.1 ha
 unfold Zbz at hd
 split at hd
 ·rename_i g
  injection hd with hd
  subst hd
  obtain ⟨⟨a1,a2,a3⟩,a4,a5⟩:=a
  simp only at *
  refine ⟨a4,?_,g.2⟩
  rw [Zj1 hk,<-g.1]
  exact hm
 cases hd
def gnT (p:Int) (x:Fw) (n:Int):Int:=(if x.1=p then n else 0)-(if x.2.1=p then n else 0)
def gnL (left:List Fw) (p:Int) (l:List Fw):Int:=Yl (l.map fun x=>gnT p x (leftOf left x))
theorem Zne {left:List Fw} {c:Int}:∀{l:List Fw} {L:Led} {g:Int},(l.map Zsp).Nodup->(∀x∈l,x.1≠x.2.1/\0<=leftOf left x/\leftOf left x<=x.2.2/\∃lim,lkO L.lines (x.2.1,x.1,c)=some (lim,x.2.2))->
 ∀p c',Z1 (Vu left c l L g).1 p c'=Z1 L p c'+(if c'=c then gnL left p l else 0)
 | [],L,g,_,_,p,c'=>by unfold Vu gnL;simp [Yl]
 | x::l,L,g,hn,h,p,c'=>by
   rw [List.map_cons,List.nodup_cons] at hn
   obtain ⟨hne,h0,h1,lim,hl⟩:=h x (by simp)
   have hrest:=fun y (hy:y∈l)=>h y (by simp [hy])
   have hgl:gnL left p (x::l)=gnT p x (leftOf left x)+gnL left p l:=by unfold gnL;simp [Yl]
   rw [hgl]
   unfold Vu
   generalize leftOf left x=n at *
   by_cases hz:0<n
   ·rw [if_pos hz]
    have hf:Vl L x.2.1 x.1 c n=(0,{ L with lines:=Uf L.lines (x.2.1,x.1,c) (-n) }):=by
     unfold Vl
     rw [if_neg (by omega),hl]
     simp only
     rw [if_neg (by omega)]
    rw [hf]
    simp only
    have hlk:∀y∈l,lkO (Uf L.lines (x.2.1,x.1,c) (-n)) (y.2.1,y.1,c)=lkO L.lines (y.2.1,y.1,c):=fun y hy=>by
     unfold Uf
     rw [if_neg (by omega),lkO_upd,if_neg]
     intro e
     simp only [Prod.mk.injEq] at e
     refine hn.1 (List.mem_map.2 ⟨y,hy,?_⟩)
     unfold Zsp
     rw [e.1,e.2.1]
    have ih:=Zne (left:=left) (c:=c) (l:=l) (L:={ L with lines:=Uf L.lines (x.2.1,x.1,c) (-n) }) (g:=wrap64 (g+n)) hn.2 (fun y hy=>by
     obtain ⟨y1,y2,y3,ly,hy4⟩:=hrest y hy
     exact ⟨y1,y2,y3,ly,(hlk y hy).trans hy4⟩) p c'
    rw [ih]
    have hp:Z1 { L with lines:=Uf L.lines (x.2.1,x.1,c) (-n) } p c'=Z1 L p c'+Un p c' ((x.2.1,x.1,c),(0,-n)):=Zjn L.lines (x.2.1,x.1,c) (-n) p c'
    rw [hp]
    unfold Un gnT
    simp only
    by_cases hc:c'=c
    ·subst hc
     simp only [if_true]
     by_cases e1:x.2.1=p
     ·have e2:¬x.1=p:=fun e=>hne (e.trans e1.symm)
      simp [e1,e2]
      omega
     by_cases e2:x.1=p
     ·simp [e1,e2]
      omega
     simp [e1,e2]
    rw [if_neg hc,if_neg (fun e=>hc e.symm),if_neg hc]
    omega
   rw [if_neg hz]
   have hn0:n=0:=by omega
   rw [Zne hn.2 hrest p c',hn0]
   unfold gnT
   simp
def Vk (D:List Db):List Fw:=(D.filter fun d=>decide (0<d.2.2.1)).map (fun d=>(d.1,d.2.1,d.2.2.1))
theorem Zr5 (x:Fw):∀(D:List Db),(∀d∈D,¬(d.1=x.1/\d.2.1=x.2.1))->(Vk D).find? (fun y=>y.1==x.1&&y.2.1==x.2.1)=none:=fun D h=>by
 rw [List.find?_eq_none]
 intro y hy
 unfold Vk at hy
 obtain ⟨d,hd,rfl⟩:=List.mem_map.1 hy
 have:=h d (List.mem_filter.1 hd).1
 simpa using this
theorem left_at {x:Fw}:∀{D:List Db},(D.map fun d=>(d.1,d.2.1)).Nodup->∀{d:Db},d∈D->d.1=x.1->d.2.1=x.2.1->NB d->d.2.2.1+d.2.2.2=x.2.2->leftOf (Vk D) x=x.2.2-d.2.2.1
 | [],_,d,hd,_,_,_,_=>by simp at hd
 | e::D,hn,d,hd,h1,h2,hb,hs=>by
   rw [List.map_cons,List.nodup_cons] at hn
   unfold NB at hb
   by_cases hk:e.1=x.1/\e.2.1=x.2.1
   ·have hde:d=e:=by
     rcases List.mem_cons.1 hd with hd | hd
     ·exact hd
     refine absurd (List.mem_map.2 ⟨d,hd,?_⟩) hn.1
     rw [h1,h2,hk.1,hk.2]
    subst hde
    unfold leftOf
    by_cases hz:0<d.2.2.1
    ·have e0:Vk (d::D)=(d.1,d.2.1,d.2.2.1)::Vk D:=by unfold Vk;rw [List.filter_cons_of_pos (by simpa using hz)];rfl
     rw [e0,List.find?_cons_of_pos (by simp [h1,h2])]
     simp only
     unfold wrap64
     omega
    have e0:Vk (d::D)=Vk D:=by unfold Vk;rw [List.filter_cons_of_neg (by simpa using hz)]
    rw [e0,Zr5 x D (fun y hy hyk=>hn.1 (List.mem_map.2 ⟨y,hy,by rw [hyk.1,hyk.2,h1,h2]⟩))]
    simp only
    omega
   have hd':d∈D:=by
    rcases List.mem_cons.1 hd with hd | hd
    ·subst hd;exact absurd ⟨h1,h2⟩ hk
    exact hd
   have ih:=left_at (x:=x) hn.2 hd' h1 h2 hb hs
   unfold leftOf at ih ⊢
   by_cases hz:0<e.2.2.1
   ·have e0:Vk (e::D)=(e.1,e.2.1,e.2.2.1)::Vk D:=by unfold Vk;rw [List.filter_cons_of_pos (by simpa using hz)];rfl
    rw [e0,List.find?_cons_of_neg (by simpa using hk)]
    exact ih
   have e0:Vk (e::D)=Vk D:=by unfold Vk;rw [List.filter_cons_of_neg (by simpa using hz)]
   rw [e0]
   exact ih
def Js (l:List Fw):List Db:=l.map fun x=>(x.1,x.2.1,x.2.2,0)
theorem Zpx (p:Int) (G:Fw->Int):∀(l:List Fw) (D:List Db),D.length=l.length->(∀k (h:k<l.length) (h':k<D.length),(D[k]'h').1=(l[k]'h).1/\(D[k]'h').2.1=(l[k]'h).2.1/\G (l[k]'h)=(l[k]'h).2.2-(D[k]'h').2.2.1)->
 Yl (l.map fun x=>gnT p x (G x))=owL p D-owL p (Js l)
 | [],D,hl,_=>by
   have:D=[]:=List.eq_nil_of_length_eq_zero (by simpa using hl)
   subst this
   simp [Yl,owL,Js]
 | x::l,[],hl,_=>by simp at hl
 | x::l,d::D,hl,h=>by
   have ih:=Zpx p G l D (by simpa using hl) (fun k hk hk'=>by
    have h5:=h (k+1) (by simpa using hk) (by simpa using hk')
    simp only [List.getElem_cons_succ] at h5
    exact h5)
   obtain ⟨h1,h2,h3⟩:=h 0 (by simp) (by simp)
   simp only [List.getElem_cons_zero] at h1 h2 h3
   unfold owL Js at ih ⊢
   simp only [List.map_cons,Yl] at ih ⊢
   rw [ih,h3]
   unfold gnT owT
   simp only
   rw [h1,h2]
   split<;>split<;>omega
theorem Zjv {left:List Fw} {c:Int}:∀{l:List Fw} {L:Led} {g:Int},(∀x∈l,leftOf left x<=1099511627776)->0<=g->g+1099511627776*(l.length:Int)<=4611686018427387904->0<=(Vu left c l L g).2
 | [],_,_,_,h,_=>h
 | x::l,L,g,hx,h,hb=>by
   have h1:=hx x (by simp)
   simp only [List.length_cons] at hb
   unfold Vu
   generalize leftOf left x=n at *
   split
   ·have e:wrap64 (g+n)=g+n:=by unfold wrap64;omega
    rw [e]
    exact Zjv (fun y hy=>hx y (by simp [hy])) (by omega) (by omega)
   exact Zjv (fun y hy=>hx y (by simp [hy])) h (by omega)
theorem net_keep {L:Led} (hw:WF L) (hk:(L.lines.map (·.1)).Nodup) {c quota:Int} (h0:(U3 L c quota).2.2.1=0):
 (∀p c',Z1 (U3 L c quota).2.2.2 p c'=Z1 L p c')/\0<=(U3 L c quota).1/\0<=(U3 L c quota).2.1/\(U3 L c quota).2.1<=max quota 0:=by
 unfold U3 at h0 ⊢
 by_cases hc:c<1\/8<c
 ·rw [if_pos hc] at h0;simp at h0
 rw [if_neg hc] at h0 ⊢
 by_cases he:(Yx (Xf L c) quota).1≠0
 ·rw [if_pos he] at h0;exact absurd h0 he
 rw [if_neg he]
 have hkeys:=Zs0 hk c
 have hln:=fun x hx=>Zqj (L:=L) hk (c:=c) (x:=x) hx
 have hlen:(Xf L c).length<=64:=by
  have h1:(Xf L c).length=((Yh L.lines).filterMap (Zbz c)).length:=(Xe _ _).length_eq
  have h2:=List.length_filterMap_le (Zbz c) (Yh L.lines)
  have h3:=Ub L.lines
  have h4:=hw.few
  omega
 generalize Xf L c=l at *
 unfold Yx at he ⊢
 by_cases hm:Zcm l=false\/quota<0
 ·rw [if_pos hm] at he;simp at he
 rw [if_neg hm] at he ⊢
 have hst:(l.map fun x=>(x.1,x.2.1,x.2.2,(0:Int)))=Js l:=rfl
 rw [hst] at he ⊢
 by_cases hg:(Y3 quota (quota.toNat+1) (Js l) 0).1≠0
 ·rw [if_pos hg] at he;simp at he
 rw [if_neg hg]
 have hmay:Zcm l=true:=by cases hq:Zcm l with | true=>rfl | false=>exact absurd (.inl hq) hm
 have hall:=Zgr hmay
 have hok:∀x∈l,1<=x.1/\x.1<=16/\1<=x.2.1/\x.2.1<=16/\x.1≠x.2.1/\1<=x.2.2/\x.2.2<=1099511627776:=fun x hx=>by
  have:=hall x hx
  unfold Zki at this
  simpa using this
 have hE:Zld (Js l):=fun d hd=>by
  obtain ⟨x,hx,rfl⟩:=List.mem_map.1 hd
  have:=hok x hx
  exact ⟨this.1,this.2.1,this.2.2.1,this.2.2.2.1,this.2.2.2.2.1⟩
 have hb:∀d∈Js l,NB d:=fun d hd=>by
  obtain ⟨x,hx,rfl⟩:=List.mem_map.1 hd
  have:=hok x hx
  unfold NB
  simp only
  omega
 obtain ⟨hnx,hc1,hc2⟩:=Zpl quota (quota.toNat+1) (Js l) 0 hE hb (by omega) (by simpa using hg)
 generalize hD:(Y3 quota (quota.toNat+1) (Js l) 0).2.1=D at *
 generalize (Y3 quota (quota.toNat+1) (Js l) 0).2.2=cnt at *
 simp only
 rw [show (D.filter fun d=>decide (0<d.2.2.1)).map (fun d=>(d.1,d.2.1,d.2.2.1))=Vk D from rfl]
 have hsl:(Js l).length=l.length:=by unfold Js;simp
 have hDl:D.length=l.length:=hnx.len.trans hsl
 have hat:∀k (h:k<l.length) (h':k<D.length),(D[k]'h').1=(l[k]'h).1/\(D[k]'h').2.1=(l[k]'h).2.1/\(D[k]'h').2.2.1+(D[k]'h').2.2.2=(l[k]'h).2.2:=fun k h h'=>by
  obtain ⟨a1,a2,a3⟩:=hnx.at' k (by omega)
  unfold Js at a1 a2 a3
  simp only [List.getElem_map] at a1 a2 a3
  exact ⟨a1,a2,by omega⟩
 have hDk:(D.map fun d=>(d.1,d.2.1)).Nodup:=by
  have:(D.map fun d=>(d.1,d.2.1))=l.map Zsp:=by
   refine List.ext_getElem (by simp [hDl]) fun k h1 h2=> ?_
   simp only [List.getElem_map]
   obtain ⟨a1,a2,_⟩:=hat k (by simpa using h2) (by simpa using h1)
   unfold Zsp
   rw [a1,a2]
  rw [this]
  exact hkeys
 have hG:∀k (h:k<l.length) (h':k<D.length),leftOf (Vk D) (l[k]'h)=(l[k]'h).2.2-(D[k]'h').2.2.1:=fun k h h'=>by
  obtain ⟨a1,a2,a3⟩:=hat k h h'
  exact left_at hDk (List.getElem_mem h') a1 a2 (hnx.nb _ (List.getElem_mem h')) a3
 have hbd:∀x∈l,0<=leftOf (Vk D) x/\leftOf (Vk D) x<=x.2.2:=fun x hx=>by
  obtain ⟨k,hk,rfl⟩:=List.getElem_of_mem hx
  have hk':k<D.length:=by omega
  have h1:=hG k hk hk'
  obtain ⟨_,_,a3⟩:=hat k hk hk'
  have hnb:=hnx.nb _ (List.getElem_mem hk')
  unfold NB at hnb
  omega
 refine ⟨fun p c'=> ?_,?_,hc1,by omega⟩
 ·rw [Zne hkeys (fun x hx=>⟨(hok x hx).2.2.2.2.1,(hbd x hx).1,(hbd x hx).2,(hln x hx).imp fun _ h=>h.1⟩) p c']
  have hs:=Zpx p (leftOf (Vk D)) l D hDl (fun k h h'=>⟨(hat k h h').1,(hat k h h').2.1,hG k h h'⟩)
  have ho:=hnx.ow p
  unfold gnL
  rw [hs,ho]
  split<;>omega
 exact Zjv (fun x hx=>by have:=(hbd x hx).2;have:=(hok x hx).2.2.2.2.2.2;omega) (by omega) (by omega)
theorem Zoz {k:K3} (p c:Int):∀{l:Zu},(l.map (·.1)).Nodup->Vt (del l k) p c=Vt l p c-Un p c (k,lk l k)
 | [],_=>by unfold del Vt;simp [Yl,lk,lkO,Zdt]
 | x::xs,hn=>by
   rw [List.map_cons,List.nodup_cons] at hn
   unfold del
   rw [lk_cons]
   by_cases hx:x.1==k
   ·have hx':x.1=k:=by simpa using hx
    rw [if_pos hx,if_pos hx]
    unfold Vt
    simp only [List.map_cons,Yl]
    have:(k,x.2)=x:=by rw [<-hx']
    rw [this]
    omega
   rw [if_neg hx,if_neg hx]
   have ih:=Zoz (k:=k) p c hn.2
   unfold Vt at ih ⊢
   simp only [List.map_cons,Yl,ih]
   omega
theorem trust_pos {L:Led} (hn:(L.lines.map (·.1)).Nodup) (hw:WF L) {a b c n:Int} (h0:(Xd L a b c n).1=0) (p c':Int):Z1 (Xd L a b c n).2 p c'=Z1 L p c':=by
 unfold Xd at h0 ⊢
 split at h0
 ·simp at h0
 rename_i g1
 rw [if_neg g1]
 split at h0
 ·simp at h0
 rename_i g2
 rw [if_neg g2]
 split at h0
 ·simp at h0
 rename_i g3
 rw [if_neg g3]
 split at h0
 ·simp at h0
 rename_i g4
 rw [if_neg g4]
 have hb:=hw.lk (a,b,c)
 split
 ·rename_i g5
  unfold Z1
  simp only
  rw [Zoz p c' hn]
  have h2:(lk L.lines (a,b,c)).2=0:=by omega
  have h3:lk L.lines (a,b,c)=((lk L.lines (a,b,c)).1,0):=by rw [<-h2]
  rw [h3,Zdt]
  omega
 unfold Z1
 simp only
 rw [Zjl]
 have h3:Un p c' ((a,b,c),(n,(lk L.lines (a,b,c)).2))=Un p c' ((a,b,c),lk L.lines (a,b,c)):=Zoy p c' (a,b,c) n (lk L.lines (a,b,c)).1 (lk L.lines (a,b,c)).2
 rw [h3]
 omega
structure MvOk (s:Stp) (L:Led) (B:Bk) (L':Led) (B':Bk) (q c:Int):Prop where
 kind:s.kd=3\/s.kd=4\/s.kd=5
 part:q=s.pa\/(s.kd≠5/\q=s.pb)\/(s.kd≠3/\lessR B' B q)
 cur:(s.kd=3->c=s.ca)/\(c=s.ca\/c=s.cb)
theorem Zq8 {L:Led} {B:Bk} (hk:MOk L B) (hn:(L.lines.map (·.1)).Nodup) {s:Stp} (h0:(Z0 s L B).2.1=0) {q c:Int} (hp:Z1 (Z0 s L B).2.2.1 q c≠Z1 L q c):
 MvOk s L B (Z0 s L B).2.2.1 (Z0 s L B).2.2.2 q c:=by
 unfold Z0 at h0 hp ⊢
 by_cases k1:s.kd=1
 ·rw [if_pos k1] at hp
  refine absurd ?_ hp
  unfold Jj
  split
  ·split<;>rfl
  rfl
 rw [if_neg k1] at h0 hp ⊢
 by_cases k2:s.kd=2
 ·rw [if_pos k2] at h0 hp
  exact absurd (trust_pos hn hk.wf h0 q c) hp
 rw [if_neg k2] at h0 hp ⊢
 by_cases k3:s.kd=3
 ·rw [if_pos k3] at h0 hp ⊢
  have hw:=(pay_gone hk.wf h0).1.pos q c
  simp only at hp
  rw [hw] at hp
  unfold mvP at hp
  refine ⟨.inl k3,?_,?_⟩
  ·by_cases e1:q=s.pa
   ·exact .inl e1
   by_cases e2:q=s.pb
   ·exact .inr (.inl ⟨by omega,e2⟩)
   exfalso
   rw [if_neg e1,if_neg e2] at hp
   split at hp<;>omega
  by_cases e1:c=s.ca
  ·exact ⟨fun _=>e1,.inl e1⟩
  rw [if_neg e1] at hp
  omega
 rw [if_neg k3] at h0 hp ⊢
 by_cases k4:s.kd=4
 ·rw [if_pos k4] at h0 hp ⊢
  obtain ⟨h1,h2⟩:=Zq5 hk h0 hp
  refine ⟨.inr (.inl k4),?_,fun e=>absurd e k3,h2⟩
  rcases h1 with h1 | h1 | h1
  ·exact .inl h1
  ·exact .inr (.inl ⟨by omega,h1⟩)
  exact .inr (.inr ⟨k3,h1⟩)
 rw [if_neg k4] at h0 hp ⊢
 by_cases k5:s.kd=5
 ·rw [if_pos k5] at h0 hp ⊢
  obtain ⟨h1,h2⟩:=Zs1 hk h0 hp
  refine ⟨.inr (.inr k5),?_,fun e=>absurd e k3,?_⟩
  ·rcases h1 with h1 | h1
   ·exact .inl h1
   exact .inr (.inr ⟨k3,h1⟩)
  rcases h2 with h2 | h2
  ·exact .inr h2
  exact .inl h2
 rw [if_neg k5] at h0 hp ⊢
 by_cases k6:s.kd=6
 ·rw [if_pos k6] at hp;exact absurd rfl hp
 rw [if_neg k6] at h0 hp ⊢
 by_cases k7:s.kd=7
 ·rw [if_pos k7] at h0 hp
  exact absurd ((net_keep hk.wf hn h0).1 q c) hp
 rw [if_neg k7] at h0 hp ⊢
 by_cases k8:s.kd=8
 ·rw [if_pos k8] at hp;exact absurd rfl hp
 rw [if_neg k8] at h0 hp ⊢
 by_cases k9:s.kd=9
 ·rw [if_pos k9] at hp;exact absurd rfl hp
 rw [if_neg k9] at h0 hp ⊢
 by_cases k10:s.kd=10
 ·rw [if_pos k10] at hp;exact absurd rfl hp
 rw [if_neg k10] at h0 hp ⊢
 by_cases k11:s.kd=11
 ·rw [if_pos k11] at hp
  refine absurd ?_ hp
  cases Z8 B.offs s.sq<;>rfl
 rw [if_neg k11] at h0
 simp at h0
open Go.RowKit Go.Rg Go.BigFrame
def NK (L:Led):Prop:=(L.lines.map (·.1)).Nodup
theorem nk_del {l:Zu} (h:(l.map (·.1)).Nodup) (k:K3):((del l k).map (·.1)).Nodup:=by
 rw [Zav k h]
 exact h.sublist (List.filter_sublist.map _)
theorem nk_upd {l:Zu} (h:(l.map (·.1)).Nodup) (k:K3) (v:V2):((upd l k v).map (·.1)).Nodup:=by
 rw [((Zid k v l).map (·.1)).nodup_iff,List.map_cons,List.nodup_cons]
 refine ⟨?_,nk_del h k⟩
 rw [Zav k h]
 intro hm
 obtain ⟨x,hx,hk⟩:=List.mem_map.1 hm
 have:=(List.mem_filter.1 hx).2
 simp only [Bool.not_eq_true',beq_eq_false_iff_ne,ne_eq] at this
 exact this hk
theorem Znd {l:Zu} (h:(l.map (·.1)).Nodup) (k:K3) (n:Int):((Uf l k n).map (·.1)).Nodup:=by
 unfold Uf
 split
 ·exact h
 exact nk_upd h _ _
theorem nk_push {L:Led} (h:NK L) (a b c n:Int):NK (Um L a b c n).2:=by
 unfold Um
 split
 ·exact h
 split
 ·exact h
 exact Znd (Znd h _ _) _ _
theorem nk_open {L:Led} (h:NK L) (x:Int):NK (Jj L x).2:=by
 unfold Jj
 split
 ·split<;>exact h
 exact h
theorem nk_trust {L:Led} (h:NK L) (a b c lim:Int):NK (Xd L a b c lim).2:=by
 unfold Xd
 repeat' split
 all_goals first | exact h | exact nk_del h _ | exact nk_upd h _ _
theorem Zru {L:Led} (h:NK L) (a b c n:Int):NK (Vl L a b c n).2:=by
 unfold Vl
 split
 ·exact h
 split
 ·exact h
 split
 ·exact h
 exact Znd h _ _
theorem nk_flows {L:Led} (h:NK L) (c:Int) (fl:Flows):NK (Yo L c fl):=by
 induction fl generalizing L with
 | nil=>exact h
 | cons x fl ih=>exact ih (nk_push h _ _ _ _)
theorem Znc {L:Led} (h:NK L) (a b c n:Int):NK (Ua L a b c n).2:=by
 unfold Ua
 split
 ·exact h
 split
 ·exact h
 split
 ·exact h
 exact nk_flows h _ _
theorem Zju {left:List Fw} {c:Int}:∀{l:List Fw} {L:Led} {g:Int},NK L->NK (Vu left c l L g).1
 | [],_,_,h=>h
 | x::l,L,g,h=>by
   unfold Vu
   split
   ·exact Zju (Zru h _ _ _ _)
   exact Zju h
theorem nk_net {L:Led} (h:NK L) (c quota:Int):NK (U3 L c quota).2.2.2:=by
 unfold U3
 split
 ·exact h
 split
 ·exact h
 exact Zju h
theorem nk_do {L:Led} {B:Bk} (h:NK L) (seq taker to n:Int):NK (doR L B seq taker to n).2.2.1:=by
 unfold doR
 split
 ·exact h
 split
 ·exact Znc h _ _ _ _
 exact Znc (Znc h _ _ _ _) _ _ _ _
theorem Zl4 (fr to get give:Int):∀(f:Nat) (L:Led) (B:Bk) (n:Int) (all:List Fl),NK L->NK (Y4 fr to get give f L B n all).2.1
 | 0,L,B,n,all,h=>h
 | f+1,L,B,n,all,h=>by
   unfold Y4
   split
   ·exact h
   split
   ·exact h
   split
   ·exact h
   exact Zl4 fr to get give f _ _ _ _ (nk_do h _ _ _ _)
theorem Zl5 (o:Off):∀(f:Nat) (L:Led) (B:Bk) (left:Int) (all:List Fl),NK L->NK (Yb o f L B left all).2.1
 | 0,L,B,n,all,h=>h
 | f+1,L,B,n,all,h=>by
   unfold Yb
   split
   ·exact h
   split
   ·exact h
   split
   ·exact h
   exact Zl5 o f _ _ _ _ (nk_do h _ _ _ _)
theorem nk_swap {L:Led} {B:Bk} (h:NK L) (fr to get give n most:Int):NK (Y6 L B fr to get give n most).2.1:=by
 unfold Y6
 split
 ·exact h
 split
 ·exact h
 split
 ·exact h
 split
 ·exact h
 exact Zl4 fr to get give _ _ _ _ _ h
theorem nk_come {L:Led} {B:Bk} (h:NK L) (o:Off):NK (Vm L B o).2.2.1:=by
 have hg:=Zl5 o 65 L B o.left [] h
 unfold Vm
 split
 ·exact h
 split
 ·exact h
 split
 ·exact h
 split
 ·split
  ·exact h
  exact hg
 exact hg
theorem Zjp (fr to get give:Int):∀(f:Nat) (L:Led) (B:Bk) (n:Int) (all:List Fl),(Y4 fr to get give f L B n all).2.1.par=L.par
 | 0,L,B,n,all=>rfl
 | f+1,L,B,n,all=>by
   unfold Y4
   split
   ·rfl
   split
   ·rfl
   split
   ·rfl
   exact (Zjp fr to get give f _ _ _ _).trans (par_do _ _ _ _ _ _)
theorem Zjq (o:Off):∀(f:Nat) (L:Led) (B:Bk) (left:Int) (all:List Fl),(Yb o f L B left all).2.1.par=L.par
 | 0,L,B,n,all=>rfl
 | f+1,L,B,n,all=>by
   unfold Yb
   split
   ·rfl
   split
   ·rfl
   split
   ·rfl
   exact (Zjq o f _ _ _ _).trans (par_do _ _ _ _ _ _)
theorem par_swap (L:Led) (B:Bk) (fr to get give n most:Int):(Y6 L B fr to get give n most).2.1.par=L.par:=by
 unfold Y6
 repeat' split
 all_goals first | rfl | exact Zjp _ _ _ _ _ _ _ _ _
theorem par_come (L:Led) (B:Bk) (o:Off):(Vm L B o).2.2.1.par=L.par:=by
 unfold Vm
 repeat' split
 all_goals first | rfl | exact Zjq _ _ _ _ _ _
theorem Zrs {L:Led} {B:Bk} (hl:L.par.length=17) (s:Stp):(Z0 s L B).2.2.1.par.length=17:=by
 unfold Z0
 by_cases k1:s.kd=1
 ·rw [if_pos k1]
  unfold Jj
  repeat' split
  all_goals simp [hl]
 rw [if_neg k1]
 by_cases k2:s.kd=2
 ·rw [if_pos k2];simp only;rw [par_trust];exact hl
 rw [if_neg k2]
 by_cases k3:s.kd=3
 ·rw [if_pos k3];simp only;rw [Zna];exact hl
 rw [if_neg k3]
 by_cases k4:s.kd=4
 ·rw [if_pos k4];simp only;rw [par_swap];exact hl
 rw [if_neg k4]
 by_cases k5:s.kd=5
 ·rw [if_pos k5];simp only;rw [par_come];exact hl
 rw [if_neg k5]
 by_cases k6:s.kd=6
 ·rw [if_pos k6];exact hl
 rw [if_neg k6]
 by_cases k7:s.kd=7
 ·rw [if_pos k7];simp only;rw [par_net];exact hl
 rw [if_neg k7]
 by_cases k8:s.kd=8
 ·rw [if_pos k8];exact hl
 rw [if_neg k8]
 by_cases k9:s.kd=9
 ·rw [if_pos k9];exact hl
 rw [if_neg k9]
 by_cases k10:s.kd=10
 ·rw [if_pos k10];exact hl
 rw [if_neg k10]
 by_cases k11:s.kd=11
 ·rw [if_pos k11]
  cases Z8 B.offs s.sq<;>exact hl
 rw [if_neg k11]
 exact hl
structure HsOk (L:Led) (B:Bk):Prop where
 ok:MOk L B
 par:L.par.length=17
theorem nk_step {L:Led} {B:Bk} (h:NK L) (s:Stp):NK (Z0 s L B).2.2.1:=by
 unfold Z0
 by_cases k1:s.kd=1
 ·rw [if_pos k1];exact nk_open h _
 rw [if_neg k1]
 by_cases k2:s.kd=2
 ·rw [if_pos k2];exact nk_trust h _ _ _ _
 rw [if_neg k2]
 by_cases k3:s.kd=3
 ·rw [if_pos k3];exact Znc h _ _ _ _
 rw [if_neg k3]
 by_cases k4:s.kd=4
 ·rw [if_pos k4];exact nk_swap h _ _ _ _ _ _
 rw [if_neg k4]
 by_cases k5:s.kd=5
 ·rw [if_pos k5];exact nk_come h _
 rw [if_neg k5]
 by_cases k6:s.kd=6
 ·rw [if_pos k6];exact h
 rw [if_neg k6]
 by_cases k7:s.kd=7
 ·rw [if_pos k7];exact nk_net h _ _
 rw [if_neg k7]
 by_cases k8:s.kd=8
 ·rw [if_pos k8];exact h
 rw [if_neg k8]
 by_cases k9:s.kd=9
 ·rw [if_pos k9];exact h
 rw [if_neg k9]
 by_cases k10:s.kd=10
 ·rw [if_pos k10];exact h
 rw [if_neg k10]
 by_cases k11:s.kd=11
 ·rw [if_pos k11]
  cases Z8 B.offs s.sq<;>exact h
 rw [if_neg k11]
 exact h
theorem HsOk.step {L:Led} {B:Bk} (h:HsOk L B) (s:Stp):HsOk (Z0 s L B).2.2.1 (Z0 s L B).2.2.2:=
 ⟨mok_step h.ok h.par s,Zrs h.par s⟩
theorem hs_run:∀(l:List Stp) (i:Int) (L:Led) (B:Bk) (g:List Gt),HsOk L B->HsOk (Us l i L B g).2.2.2.1 (Us l i L B g).2.2.2.2
 | [],_,_,_,_,h=>h
 | s::l,i,L,B,g,h=>by
   unfold Us
   split
   ·exact h
   exact hs_run l _ _ _ _ (h.step s)
theorem Zke {L:Led} {B:Bk} (h:HsOk L B) (l:List Stp):HsOk (Yd l L B).2.1 (Yd l L B).2.2:=by
 unfold Yd
 split
 ·exact h
 split
 ·exact h
 exact hs_run l 0 L B [] h
theorem Zsh:HsOk Zca ⟨[],1⟩:=⟨⟨wf_led0,fun o ho=>by simp at ho,by simp [Ux],fun o ho=>by simp at ho⟩,rfl⟩
structure HnOk (L:Led) (B:Bk):Prop where
 hs:HsOk L B
 nk:NK L
theorem hn_step {L:Led} {B:Bk} (h:HnOk L B) (s:Stp):HnOk (Z0 s L B).2.2.1 (Z0 s L B).2.2.2:=⟨h.hs.step s,nk_step h.nk s⟩
theorem hn_run:∀(l:List Stp) (i:Int) (L:Led) (B:Bk) (g:List Gt),HnOk L B->HnOk (Us l i L B g).2.2.2.1 (Us l i L B g).2.2.2.2
 | [],_,_,_,_,h=>h
 | s::l,i,L,B,g,h=>by
   unfold Us
   split
   ·exact h
   exact hn_run l _ _ _ _ (hn_step h s)
theorem Zpv {L:Led} {B:Bk} (h:HnOk L B) (l:List Stp):HnOk (Yd l L B).2.1 (Yd l L B).2.2:=by
 unfold Yd
 split
 ·exact h
 split
 ·exact h
 exact hn_run l 0 L B [] h
theorem hn_new:HnOk Zca ⟨[],1⟩:=⟨Zsh,by simp [NK,Zca]⟩
open Go.RowKit Go.Rg Go.BigFrame
def Zoq (upto:Int):List En->Int->Int
 | [],n=>n
 | e::l,n=>if upto<e.no then n else Zoq upto l e.sm
def Zbg (p c:Int):Bool:=decide (1<=p/\p<=16/\1<=c/\c<=8)
def stoF (f:Int->Int->Int) (es:List En) (p c upto:Int):Int:=if Zbg p c then Zoq upto (Zam es p c) (f p c) else 0
def Zlj (c:Int) (n:Int) (e:En):Int:=if e.cu=c then wrap64 (n+max 0 e.n) else n
def Zaq (es:List En) (c:Int):Int:=es.foldl (Zlj c) 0
def Xl (f:Int->Int->Int):List Value:=Zbj.map fun a=>.int .i64 (f a.1 a.2)
theorem Z3 (f:Int->Int->Int):(Xl f).length=153:=by unfold Xl;rw [List.length_map,Za1]
theorem Zdk (f:Int->Int->Int) (p c:Nat) (hp:p<17) (hc:c<9):(Xl f)[p*9+c]? =some (.int .i64 (f (p:Int) (c:Int))):=by
 have hk:p*9+c<Zbj.length:=by rw [Za1];omega
 unfold Xl
 rw [List.getElem?_map,List.getElem?_eq_getElem hk,accs_at _ hk,show (p*9+c) / 9=p by omega,show (p*9+c)%9=c by omega]
 rfl
def Zm4 (f:Int->Int->Int) (p c v:Int):Int->Int->Int:=fun p' c'=>if p'=p/\c'=c then v else f p' c'
theorem bookC_set (f:Int->Int->Int) (p c:Nat) (v:Int) (hp:p<17) (hc:c<9):(Xl f).set (p*9+c) (.int .i64 v)=Xl (Zm4 f (p:Int) (c:Int) v):=by
 refine List.ext_getElem? fun k=> ?_
 rw [List.getElem?_set]
 by_cases hk:k<153
 ·have e1:=Zdk f (k / 9) (k%9) (by omega) (by omega)
  have e2:=Zdk (Zm4 f (p:Int) (c:Int) v) (k / 9) (k%9) (by omega) (by omega)
  rw [show k / 9*9+k%9=k by omega] at e1 e2
  rw [e1,e2]
  unfold Zm4
  by_cases he:p*9+c=k
  ·rw [if_pos he,if_pos (by rw [Z3];omega),if_pos (by omega)]
  rw [if_neg he,if_neg (by omega)]
 rw [if_neg (by omega),List.getElem?_eq_none (by rw [Z3];omega),List.getElem?_eq_none (by rw [Z3];omega)]
theorem Zd6 (f:Int->Int->Int):(Xl f).toArray.all (·.oneCell')=true:=by
 refine Array.all_eq_true_iff_forall_mem.2 fun v hv=> ?_
 obtain ⟨a,_,rfl⟩:=List.mem_map.1 (show v∈Xl f by simpa using hv)
 rfl
theorem U2:(Tryz.prog.info? 97).map (·.size)=some 153:=by kernel_rfl
theorem Zb0 {w:World} {b:Nat} {f:Int->Int->Int} {p c:Nat} (h:w.heap[b]? =some (.cells (Xl f).toArray 97 (0,0))) (hp:p<17) (hc:c<9):w.cell? ⟨b,p*9+c,none⟩=some (.int .i64 (f (p:Int) (c:Int))):=
 Za h (by rw [List.getElem?_toArray];exact Zdk f p c hp hc)
theorem Zqr {w:World} {b:Nat} {f:Int->Int->Int} {p c:Nat} {v:Int} (h:w.heap[b]? =some (.cells (Xl f).toArray 97 (0,0))) (hp:p<17) (hc:c<9):
 (w.setCell ⟨b,p*9+c,none⟩ (.int .i64 v)).heap[b]? =some (.cells (Xl (Zm4 f (p:Int) (c:Int) v)).toArray 97 (0,0)):=by
 rw [heap_setCell_same w b (p*9+c) _ _ _ h,List.setIfInBounds_toArray,bookC_set f p c v hp hc]
def X8 (mv:Value) (f g:Int->Int->Int) (many:Int) (ev:Value):List Value:=mv::(Xl f++(Xl g++[.int .i64 many,ev]))
def Xn (w:World) (jb:Nat) (mv:Value) (f g:Int->Int->Int) (many:Int) (ev:Value):Prop:=w.heap[jb]? =some (.cells (X8 mv f g many ev).toArray 99 (0,0))
theorem Zj8 (mv:Value) (f g:Int->Int->Int) (many:Int) (ev:Value):(X8 mv f g many ev).length=309:=by
 unfold X8
 rw [List.length_cons,List.length_append,List.length_append,Z3,Z3]
 rfl
section
variable {w:World} {jb:Nat} {mv:Value} {f g:Int->Int->Int} {many:Int} {ev:Value}
theorem Xn.cm (h:Xn w jb mv f g many ev):w.cell? ⟨jb,0,none⟩=some mv:=Za h rfl
theorem Xn.cf (h:Xn w jb mv f g many ev) {p c:Nat} (hp:p<17) (hc:c<9):w.cell? ⟨jb,1+p*9+c,none⟩=some (.int .i64 (f (p:Int) (c:Int))):=
 Za h (by
  rw [List.getElem?_toArray,X8,show 1+p*9+c=(p*9+c)+1 by omega,List.getElem?_cons_succ,List.getElem?_append_left (by rw [Z3];omega)]
  exact Zdk f p c hp hc)
theorem Xn.cn (h:Xn w jb mv f g many ev) {p c:Nat} (hp:p<17) (hc:c<9):w.cell? ⟨jb,154+p*9+c,none⟩=some (.int .i64 (g (p:Int) (c:Int))):=
 Za h (by
  rw [List.getElem?_toArray,X8,show 154+p*9+c=(153+(p*9+c))+1 by omega,List.getElem?_cons_succ,List.getElem?_append_right (by rw [Z3];omega),Z3,show 153+(p*9+c)-153=p*9+c by omega,List.getElem?_append_left (by rw [Z3];omega)]
  exact Zdk g p c hp hc)
theorem jc_tail (mv:Value) (f g:Int->Int->Int) (many:Int) (ev:Value) (j:Nat) (hj:j<2):(X8 mv f g many ev)[307+j]? =[Value.int .i64 many,ev][j]? :=by
 rw [X8,show 307+j=(306+j)+1 by omega,List.getElem?_cons_succ,List.getElem?_append_right (by rw [Z3];omega),Z3,List.getElem?_append_right (by rw [Z3];omega),Z3,show 306+j-153-153=j by omega]
theorem Xn.ck (h:Xn w jb mv f g many ev):w.cell? ⟨jb,307,none⟩=some (.int .i64 many):=Za h (by rw [List.getElem?_toArray];exact jc_tail mv f g many ev 0 (by omega))
theorem Xn.ce (h:Xn w jb mv f g many ev):w.cell? ⟨jb,308,none⟩=some ev:=Za h (by rw [List.getElem?_toArray];exact jc_tail mv f g many ev 1 (by omega))
theorem Xn.lt (h:Xn w jb mv f g many ev):jb<w.heap.size:=Ze h
theorem Xn.ext {w':World} (h:Xn w jb mv f g many ev) (k:Ext w w'):Xn w' jb mv f g many ev:=k.at h
theorem Xn.free (h:Xn w jb mv f g many ev) (j:Nat):w.frozen? ⟨jb,j,none⟩=false:=frozen_of_row _ _ j _ _ h
theorem Xn.set_m (h:Xn w jb mv f g many ev) (mv':Value):Xn (w.setCell ⟨jb,0,none⟩ mv') jb mv' f g many ev:=by
 unfold Xn at *
 rw [heap_setCell_same w jb 0 _ _ _ h,List.setIfInBounds_toArray]
 rfl
theorem Zme (mv:Value) (f g:Int->Int->Int) (many many':Int) (ev ev':Value):(X8 mv f g many ev).set 307 (.int .i64 many')=X8 mv f g many' ev/\(X8 mv f g many ev).set 308 ev'=X8 mv f g many ev':=by
 have h1:∀x y,X8 mv f g x y=(mv::(Xl f++Xl g))++[.int .i64 x,y]:=fun x y=>by unfold X8;simp
 have h2:(mv::(Xl f++Xl g)).length=307:=by rw [List.length_cons,List.length_append,Z3,Z3]
 constructor
 rotate_left
 all_goals
  rw [h1,h1,List.set_append,if_neg (by rw [h2];omega),h2]
  rfl
theorem Xn.set_k (h:Xn w jb mv f g many ev) (many':Int):Xn (w.setCell ⟨jb,307,none⟩ (.int .i64 many')) jb mv f g many' ev:=by
 unfold Xn at *
 rw [heap_setCell_same w jb 307 _ _ _ h,List.setIfInBounds_toArray,(Zme mv f g many many' ev ev).1]
theorem Xn.set_e (h:Xn w jb mv f g many ev) (ev':Value):Xn (w.setCell ⟨jb,308,none⟩ ev') jb mv f g many ev':=by
 unfold Xn at *
 rw [heap_setCell_same w jb 308 _ _ _ h,List.setIfInBounds_toArray,(Zme mv f g many many ev ev').2]
end
def Zqc (no i kd:Int) (L L':Led) (a:Int×Int):Option En:=
 if Z1 L' a.1 a.2=Z1 L a.1 a.2 then none else some ⟨no,i,kd,a.1,a.2,Z1 L' a.1 a.2-Z1 L a.1 a.2,Z1 L' a.1 a.2⟩
def U1 (no i kd:Int) (L L':Led):List En:=Zbj.filterMap (Zqc no i kd L L')
def Zdh (no:Int):List Stp->Int->Led->Bk->List En
 | [],_,_,_=>[]
 | s::l,i,L,B=>U1 no i s.kd L (Z0 s L B).2.2.1++Zdh no l (i+1) (Z0 s L B).2.2.1 (Z0 s L B).2.2.2
structure Jn where
 L0:Led
 many:Int
 es:List En
 L:Led
 B:Bk
def Up (L:Led) (B:Bk):Jn:=⟨L,0,[],L,B⟩
def jdo (l:List Stp) (J:Jn):Jn:=
 if (Yd l J.L J.B).1.1≠0 then { J with many:=J.many+1 }
 else { J with many:=J.many+1,es:=J.es++Zdh (J.many+1) l 0 J.L J.B,L:=(Yd l J.L J.B).2.1,B:=(Yd l J.L J.B).2.2 }
theorem posT_out {x:Ln} (h:X9 x.1=true) {p c:Int} (ha:Zbg p c=false):Un p c x=0:=by
 unfold X9 at h
 unfold Zbg at ha
 rw [decide_eq_true_eq] at h
 rw [decide_eq_false_iff_not] at ha
 unfold Un
 repeat' split
 all_goals omega
theorem Zfh {L:Led} (hwf:WF L) {p c:Int} (ha:Zbg p c=false):Z1 L p c=0:=by
 have h:∀l:Zu,(∀x∈l,X9 x.1=true)->Vt l p c=0:=by
  intro l
  induction l with
  | nil=>intro _;rfl
  | cons x l ih=>
    intro hl
    have h1:=ih fun y hy=>hl y (by simp [hy])
    unfold Vt at h1 ⊢
    rw [List.map_cons,Yl,h1,posT_out (hl x (by simp)) ha]
    rfl
 exact h _ fun x hx=>(hwf.ends x hx).1
def enA (no i kd:Int) (L L':Led) (a:Int×Int):En:=⟨no,i,kd,a.1,a.2,Z1 L' a.1 a.2-Z1 L a.1 a.2,Z1 L' a.1 a.2⟩
theorem diffE_map (no i kd:Int) (L L':Led):U1 no i kd L L'=(Zbh (Z1 L') (Z1 L)).map (enA no i kd L L'):=by
 unfold U1 Zbh
 induction Zbj with
 | nil=>rfl
 | cons a l ih=>
   by_cases h:Z1 L' a.1 a.2=Z1 L a.1 a.2
   ·rw [List.filterMap_cons_none (by unfold Zqc;rw [if_pos h]),List.filter_cons_of_neg (by simpa using h),ih]
   rw [List.filterMap_cons_some (b:=enA no i kd L L' a) (by unfold Zqc;rw [if_neg h];rfl),List.filter_cons_of_pos (by simpa using h),ih]
   rfl
theorem Zg0 {no i kd:Int} {L L':Led} {e:En} (h:e∈U1 no i kd L L'):
 e.no=no/\e.st=i/\e.kd=kd/\e.n≠0/\e.n=Z1 L' e.pa e.cu-Z1 L e.pa e.cu/\e.sm=Z1 L' e.pa e.cu/\(e.pa,e.cu)∈Zbj:=by
 obtain ⟨a,ha,h2⟩:=List.mem_filterMap.1 h
 unfold Zqc at h2
 split at h2
 ·cases h2
 rename_i hne
 injection h2 with h2
 subst h2
 exact ⟨rfl,rfl,rfl,by simp only;omega,rfl,rfl,ha⟩
def cuT (c:Int) (e:En):Int:=if e.cu=c then e.n else 0
def Zag (l:List En) (c:Int):Int:=Yl (l.map (cuT c))
theorem Za6 (l l':List En) (c:Int):Zag (l++l') c=Zag l c+Zag l' c:=by unfold Zag;rw [List.map_append,Vd]
theorem Zlm:∀l:List Int,(∀x∈l,x=0)->Yl l=0
 | [],_=>rfl
 | x::l,h=>by rw [Yl,h x (by simp),Zlm l fun y hy=>h y (by simp [hy])];rfl
theorem sumI_bd (M:Int):∀l:List Int,(∀x∈l,-M<=x/\x<=M)-> -(M*(l.length:Int))<=Yl l/\Yl l<=M*(l.length:Int)
 | [],_=>by simp [Yl]
 | x::l,h=>by
   have h1:=h x (by simp)
   have h2:=sumI_bd M l fun y hy=>h y (by simp [hy])
   rw [Yl,List.length_cons]
   have h3:M*((l.length+1:Nat):Int)=M*(l.length:Int)+M:=by rw [Int.natCast_add,Int.mul_add];simp
   omega
def dfT (L L':Led) (c:Int) (a:Int×Int):Int:=if a.2=c then Z1 L' a.1 a.2-Z1 L a.1 a.2 else 0
theorem Zlo (no i kd:Int) (L L':Led) (c:Int):∀l:List (Int×Int),Zag (l.filterMap (Zqc no i kd L L')) c=Yl (l.map (dfT L L' c))
 | []=>rfl
 | a::l=>by
   have ih:=Zlo no i kd L L' c l
   rw [List.map_cons,Yl,<-ih]
   by_cases h:Z1 L' a.1 a.2=Z1 L a.1 a.2
   ·rw [List.filterMap_cons_none (by unfold Zqc;rw [if_pos h])]
    unfold dfT
    split<;>omega
   rw [List.filterMap_cons_some (b:=⟨no,i,kd,a.1,a.2,Z1 L' a.1 a.2-Z1 L a.1 a.2,Z1 L' a.1 a.2⟩) (by unfold Zqc;rw [if_neg h])]
   rfl
theorem Zln (f:Nat->List Int):∀n:Nat,Yl ((List.range n).flatMap f)=Yl ((List.range n).map fun k=>Yl (f k))
 | 0=>rfl
 | n+1=>by
   rw [List.range_succ,List.flatMap_append,List.map_append,Vd,Vd,Zln f n]
   simp [Yl]
theorem Zcs (f g:Nat->Int):∀n:Nat,Yl ((List.range n).map fun k=>f k-g k)=Yl ((List.range n).map f)-Yl ((List.range n).map g)
 | 0=>rfl
 | n+1=>by
   rw [List.range_succ,List.map_append,List.map_append,List.map_append,Vd,Vd,Vd,Zcs f g n]
   simp [Yl]
   omega
theorem Zom (f:Nat->Int) (c:Nat):∀n:Nat,Yl ((List.range n).map fun (k:Nat)=>if (k:Int)=(c:Int) then f k else 0)=if c<n then f c else 0
 | 0=>by simp [Yl]
 | n+1=>by
   rw [List.range_succ,List.map_append,Vd,Zom f c n]
   simp only [List.map_cons,List.map_nil,Yl]
   by_cases h:n=c
   ·subst h
    rw [if_neg (Nat.lt_irrefl n),if_pos rfl,if_pos (Nat.lt_succ_self n)]
    omega
   have h3:¬(n:Int)=(c:Int):=by omega
   rw [if_neg h3]
   by_cases h2:c<n
   ·rw [if_pos h2,if_pos (Nat.lt_succ_of_lt h2)];omega
   rw [if_neg h2,if_neg (by omega)];omega
theorem Zi6 (L:Led) (c:Int):∀n:Nat,Yl ((List.range (n+1)).map fun (k:Nat)=>Z1 L (k:Int) c)=Z1 L 0 c+Zok L c n
 | 0=>by simp [Yl,Zok,List.range_succ]
 | n+1=>by
   rw [List.range_succ,List.map_append,Vd,Zi6 L c n]
   simp only [List.map_cons,List.map_nil,Yl,Zok]
   omega
theorem Zks {no i kd:Int} {L L':Led} (h:WF L) (h':WF L') {e:En} (he:e∈U1 no i kd L L'): -140737488355328<=e.n/\e.n<=140737488355328/\1<=e.pa/\e.pa<=16/\1<=e.cu/\e.cu<=8:=by
 obtain ⟨_,_,_,h0,h1,_,h2⟩:=Zg0 he
 have b1:=Zie h e.pa e.cu
 have b2:=Zie h' e.pa e.cu
 have ha:Zbg e.pa e.cu=true:=by
  cases hc:Zbg e.pa e.cu with
  | true=>rfl
  | false=>
    rw [Zfh h hc,Zfh h' hc] at h1
    exact absurd h1 h0
 unfold Zbg at ha
 rw [decide_eq_true_eq] at ha
 omega
theorem sumC_step {L L':Led} (h:WF L) (h':WF L') (no i kd:Int) (c:Int):Zag (U1 no i kd L L') c=0:=by
 unfold U1
 rw [Zlo]
 by_cases hc:0<=c/\c<=8
 ·obtain ⟨d,rfl⟩:∃d:Nat,c=(d:Int):=⟨c.toNat,by omega⟩
  have hd:d<9:=by omega
  have e1:Zbj.map (dfT L L' (d:Int))=(List.range 17).flatMap fun (p:Nat)=>(List.range 9).map fun (k:Nat)=>if (k:Int)=(d:Int) then Z1 L' (p:Int) (k:Int)-Z1 L (p:Int) (k:Int) else 0:=by
   unfold Zbj dfT
   rw [List.map_flatMap]
   refine congrArg (fun f=>(List.range 17).flatMap f) (funext fun p=> ?_)
   rw [List.map_map]
   rfl
  have e2:∀p:Nat,Yl ((List.range 9).map fun (k:Nat)=>if (k:Int)=(d:Int) then Z1 L' (p:Int) (k:Int)-Z1 L (p:Int) (k:Int) else 0)=Z1 L' (p:Int) (d:Int)-Z1 L (p:Int) (d:Int):=fun p=>by
   rw [Zom (fun k=>Z1 L' (p:Int) (k:Int)-Z1 L (p:Int) (k:Int)) d 9,if_pos hd]
  rw [e1,Zln]
  simp only [e2]
  have e3:=Zcs (fun (p:Nat)=>Z1 L' (p:Int) (d:Int)) (fun (p:Nat)=>Z1 L (p:Int) (d:Int)) 17
  rw [e3,Zi6,Zi6,Zll h,Zll h',Zfh h (by unfold Zbg;simp),Zfh h' (by unfold Zbg;simp)]
  rfl
 refine Zlm _ fun x hx=> ?_
 obtain ⟨a,ha,rfl⟩:=List.mem_map.1 hx
 have:=Zo9.1 ha
 unfold dfT
 rw [if_neg (by omega)]
def Zsv (a b:En):Prop:=a.no<b.no\/(a.no=b.no/\(a.st<b.st\/(a.st=b.st/\(a.pa<b.pa\/(a.pa=b.pa/\a.cu<b.cu)))))
theorem diffE_up (no i kd:Int) (L L':Led):(U1 no i kd L L').Pairwise Zsv:=by
 unfold U1
 rw [List.pairwise_filterMap]
 refine accs_up.imp fun {a b} hab x hx y hy=> ?_
 unfold Zqc at hx hy
 split at hx
 ·cases hx
 split at hy
 ·cases hy
 injection hx with hx
 injection hy with hy
 subst hx;subst hy
 exact .inr ⟨rfl,.inr ⟨rfl,hab⟩⟩
structure EvS (es:List En):Prop where
 bd:∀i c,-21532835718365184<=Zag (es.take i) c/\Zag (es.take i) c<=21532835718365184
 zero:∀c,Zag es c=0
 cut:∀i (h0:0<i) (h:i<es.length),((es[i-1]'(by omega)).no≠(es[i]'h).no\/(es[i-1]'(by omega)).st≠(es[i]'h).st)->∀c,Zag (es.take i) c=0
theorem evs_nil:EvS []:=⟨fun i c=>by simp [Zag,Yl],fun c=>rfl,fun i _ h=>absurd h (by simp)⟩
theorem evs_app {es G:List En} (h:EvS es) {no st:Int} (hk:∀e∈G,e.no=no/\e.st=st) (hb:∀e∈G,-140737488355328<=e.n/\e.n<=140737488355328) (hl:G.length<=153) (hz:∀c,Zag G c=0):EvS (es++G):=by
 have hbd:∀j c,-21532835718365184<=Zag (G.take j) c/\Zag (G.take j) c<=21532835718365184:=fun j c=>by
  have h1:=sumI_bd 140737488355328 ((G.take j).map (cuT c)) fun x hx=>by
   obtain ⟨e,he,rfl⟩:=List.mem_map.1 hx
   have:=hb e (List.mem_of_mem_take he)
   unfold cuT
   split<;>omega
  rw [List.length_map,List.length_take] at h1
  unfold Zag
  omega
 refine ⟨fun i c=> ?_,fun c=>by rw [Za6,h.zero,hz];rfl,fun i h0 hi hne c=> ?_⟩
 ·rw [List.take_append,Za6]
  by_cases hi:i<=es.length
  ·rw [show i-es.length=0 by omega,List.take_zero,show Zag [] c=0 from rfl]
   have:=h.bd i c
   omega
  rw [List.take_of_length_le (show es.length<=i by omega),h.zero]
  have:=hbd (i-es.length) c
  omega
 rw [List.take_append,Za6]
 by_cases hlt:i<es.length
 ·rw [show i-es.length=0 by omega,List.take_zero,show Zag [] c=0 from rfl]
  rw [List.getElem_append_left hlt,List.getElem_append_left (by omega)] at hne
  have:=h.cut i h0 hlt hne c
  omega
 by_cases heq:i=es.length
 ·subst heq
  rw [Nat.sub_self,List.take_zero,List.take_length,h.zero]
  rfl
 exfalso
 rw [List.getElem_append_right (by omega),List.getElem_append_right (by omega)] at hne
 have k1:=hk _ (List.getElem_mem (l:=G) (n:=i-1-es.length) (by rw [List.length_append] at hi;omega))
 have k2:=hk _ (List.getElem_mem (l:=G) (n:=i-es.length) (by rw [List.length_append] at hi;omega))
 rw [k1.1,k1.2,k2.1,k2.2] at hne
 simp at hne
theorem Zg1 (no i kd:Int) (L L':Led):(U1 no i kd L L').length<=153:=by
 unfold U1
 exact Nat.le_trans (List.length_filterMap_le _ _) (Nat.le_of_eq Za1)
structure EnOk (more:List (List Stp)) (e:En):Prop where
 n0:e.n≠0
 pa:1<=e.pa/\e.pa<=16
 cu:1<=e.cu/\e.cu<=8
 at_:∃(k i:Nat) (l:List Stp) (s:Stp),e.no=((k+1:Nat):Int)/\e.st=(i:Int)/\more[k]? =some l/\l[i]? =some s/\s.kd=e.kd
 kd:e.kd=3\/e.kd=4\/e.kd=5
theorem en_app {more:List (List Stp)} {e:En} (h:EnOk more e) (l:List (List Stp)):EnOk (more++l) e:=
 ⟨h.n0,h.pa,h.cu,by
  obtain ⟨k,i,l1,s,h1,h2,h3,h4,h5⟩:=h.at_
  exact ⟨k,i,l1,s,h1,h2,by rw [List.getElem?_append_left (List.getElem?_eq_some_iff.1 h3).1];exact h3,h4,h5⟩,h.kd⟩
structure EsOk (more:List (List Stp)) (es:List En):Prop where
 up:es.Pairwise Zsv
 ev:EvS es
 ok:∀e∈es,EnOk more e
theorem es_cmd (more:List (List Stp)) (l:List Stp) (k:Nat) (hk:more[k]? =some l):∀(d:List Stp) (i:Nat) (L:Led) (B:Bk) (g:List Gt) (es:List En),d=l.drop i->HnOk L B->(Us d (i:Int) L B g).1=0->
 EsOk more es->(∀e∈es,e.no<((k+1:Nat):Int)\/(e.no=((k+1:Nat):Int)/\e.st<(i:Int)))->EsOk more (es++Zdh ((k+1:Nat):Int) d (i:Int) L B)
 | [],i,L,B,g,es,_,_,_,h,_=>by rw [Zdh,List.append_nil];exact h
 | s::d,i,L,B,g,es,hd,hh,hr,h,hlo=>by
   have hi:l[i]? =some s:=by
    have:(s::d)[0]? =(l.drop i)[0]? :=by rw [hd]
    rw [List.getElem?_drop] at this
    simpa using this.symm
   have h0:(Z0 s L B).2.1=0:=by
    by_cases he:(Z0 s L B).2.1=0
    ·exact he
    rw [Zbr _ _ _ _ _ _ he] at hr
    exact absurd hr he
   rw [Zbq _ _ _ _ _ _ h0,show (i:Int)+1=((i+1:Nat):Int) by omega] at hr
   have hh':=hn_step hh s
   have hmem:=fun {e:En} (he:e∈U1 ((k+1:Nat):Int) (i:Int) s.kd L (Z0 s L B).2.2.1)=>Zg0 he
   have h2:EsOk more (es++U1 ((k+1:Nat):Int) (i:Int) s.kd L (Z0 s L B).2.2.1):=by
    refine ⟨?_,evs_app h.ev (no:=((k+1:Nat):Int)) (st:=(i:Int)) (fun e he=>⟨(hmem he).1,(hmem he).2.1⟩) (fun e he=>⟨(Zks hh.hs.ok.wf hh'.hs.ok.wf he).1,(Zks hh.hs.ok.wf hh'.hs.ok.wf he).2.1⟩) (Zg1 ..) (fun c=>sumC_step hh.hs.ok.wf hh'.hs.ok.wf _ _ _ c),fun e he=> ?_⟩
    ·rw [List.pairwise_append]
     refine ⟨h.up,diffE_up ..,fun a ha b hb=> ?_⟩
     obtain ⟨b1,b2,_⟩:=hmem hb
     rcases hlo a ha with g | ⟨g1,g2⟩
     ·exact .inl (by omega)
     exact .inr ⟨by omega,.inl (by omega)⟩
    rcases List.mem_append.1 he with he | he
    ·exact h.ok e he
    obtain ⟨b1,b2,b3,b4,b5,_,_⟩:=hmem he
    have hb:=Zks hh.hs.ok.wf hh'.hs.ok.wf he
    have hmv:=Zq8 hh.hs.ok hh.nk h0 (q:=e.pa) (c:=e.cu) (by omega)
    exact ⟨b4,⟨by omega,by omega⟩,⟨by omega,by omega⟩,⟨k,i,l,s,b1,b2,hk,hi,b3.symm⟩,by rw [b3];exact hmv.kind⟩
   rw [Zdh,<-List.append_assoc]
   have h3:=es_cmd more l k hk d (i+1) _ _ _ (es++U1 ((k+1:Nat):Int) (i:Int) s.kd L (Z0 s L B).2.2.1) (by
    have:(l.drop i).drop 1=d:=by rw [<-hd];rfl
    rw [List.drop_drop] at this
    exact this.symm) hh' hr h2 (fun e he=>by
     rcases List.mem_append.1 he with he | he
     ·rcases hlo e he with g | ⟨g1,g2⟩
      ·exact .inl g
      exact .inr ⟨g1,by omega⟩
     obtain ⟨b1,b2,_⟩:=hmem he
     exact .inr ⟨b1,by omega⟩)
   rw [show (((i+1:Nat)):Int)=(i:Int)+1 by omega] at h3
   exact h3
def U4 (more:List (List Stp)) (J:Jn):Jn:=more.foldl (fun J l=>jdo l J) J
theorem jrun_take (more:List (List Stp)) (J:Jn) (k:Nat) (hk:k<more.length):U4 (more.take (k+1)) J=jdo (more[k]'hk) (U4 (more.take k) J):=by
 unfold U4
 rw [List.take_succ_eq_append_getElem hk,List.foldl_append]
 rfl
theorem Zm6 {l:List Stp} {L:Led} {B:Bk} (h:¬(Yd l L B).1.1≠0):(Us l 0 L B []).1=0:=by
 unfold Yd at h
 split at h
 ·simp at h
 split at h
 ·rename_i h1;exact absurd h1 h
 rename_i h1;simpa using h1
structure JOk (more:List (List Stp)) (J:Jn):Prop where
 many:J.many=(more.length:Int)
 es:EsOk more J.es
 hs:HnOk J.L J.B
 lo:∀e∈J.es,e.no<=(more.length:Int)
theorem jok_new {L:Led} {B:Bk} (h:HnOk L B):JOk [] (Up L B):=⟨rfl,⟨List.Pairwise.nil,evs_nil,fun e he=>by simp [Up] at he⟩,h,fun e he=>by simp [Up] at he⟩
theorem Znz:∀(l:List Stp) (no i:Int) (L:Led) (B:Bk) (e:En),e∈Zdh no l i L B->e.no=no
 | [],_,_,_,_,e,he=>by simp [Zdh] at he
 | s::l,no,i,L,B,e,he=>by
   rw [Zdh] at he
   rcases List.mem_append.1 he with he | he
   ·exact (Zg0 he).1
   exact Znz l no _ _ _ e he
theorem jok_do {more:List (List Stp)} {J:Jn} (h:JOk more J) (l:List Stp):JOk (more++[l]) (jdo l J):=by
 unfold jdo
 split
 focus
  refine ⟨by simp only [List.length_append,List.length_singleton];rw [h.many];omega,⟨h.es.up,h.es.ev,fun e he=>en_app (h.es.ok e he) _⟩,h.hs,fun e he=> ?_⟩
  have:=h.lo e he
 rotate_left
 focus
  rename_i hr
  have h1:EsOk (more++[l]) J.es:=⟨h.es.up,h.es.ev,fun e he=>en_app (h.es.ok e he) _⟩
  have h2:=es_cmd (more++[l]) l more.length (by simp) l 0 J.L J.B [] J.es (by simp) h.hs (Zm6 hr) h1 (fun e he=>.inl (by have:=h.lo e he;omega))
  refine ⟨by simp only [List.length_append,List.length_singleton];rw [h.many];omega,?_,Zpv h.hs l,fun e he=> ?_⟩
  ·simp only
   rw [h.many,show (more.length:Int)+1=((more.length+1:Nat):Int) by omega]
   exact h2
  simp only at he
  rcases List.mem_append.1 he with he | he
  focus have:=h.lo e he
  rotate_left
  focus
   have h3:=Znz l _ _ _ _ e he
   have:=h.many
 all_goals
  simp only [List.length_append,List.length_singleton]
  omega
theorem jok_run:∀(more more0:List (List Stp)) (J:Jn),JOk more0 J->JOk (more0++more) (U4 more J)
 | [],more0,J,h=>by rw [List.append_nil];exact h
 | l::more,more0,J,h=>by
   have h1:=jok_run more (more0++[l]) (jdo l J) (jok_do h l)
   rw [List.append_assoc] at h1
   exact h1
structure JLo (more:List (List Stp)) (J:Jn):Prop where
 many:J.many=(more.length:Int)
 hs:HsOk J.L J.B
 lo:∀e∈J.es,e.no<=(more.length:Int)
theorem jlo_new {L:Led} {B:Bk} (h:HsOk L B):JLo [] (Up L B):=⟨rfl,h,fun e he=>by simp [Up] at he⟩
theorem jlo_do {more:List (List Stp)} {J:Jn} (h:JLo more J) (l:List Stp):JLo (more++[l]) (jdo l J):=by
 have hlo:∀e∈J.es,e.no<=((more++[l]).length:Int):=fun e he=>by
  have:=h.lo e he
  simp only [List.length_append,List.length_singleton]
  omega
 have hm:J.many+1=((more++[l]).length:Int):=by simp only [List.length_append,List.length_singleton];rw [h.many];omega
 unfold jdo
 split
 ·exact ⟨hm,h.hs,hlo⟩
 refine ⟨hm,Zke h.hs l,fun e he=> ?_⟩
 simp only at he
 rcases List.mem_append.1 he with he | he
 ·exact hlo e he
 have h3:=Znz l _ _ _ _ e he
 omega
theorem jlo_run:∀(more more0:List (List Stp)) (J:Jn),JLo more0 J->JLo (more0++more) (U4 more J)
 | [],more0,J,h=>by rw [List.append_nil];exact h
 | l::more,more0,J,h=>by
   have h1:=jlo_run more (more0++[l]) (jdo l J) (jlo_do h l)
   rw [List.append_assoc] at h1
   exact h1
def Ch:List En->Int->Int->Prop
 | [],a,b=>a=b
 | e::l,a,b=>e.sm=a+e.n/\Ch l e.sm b
theorem Zgw (l:List Stp) (J:Jn):(jdo l J).L=(Yd l J.L J.B).2.1/\(jdo l J).B=(Yd l J.L J.B).2.2/\(jdo l J).L0=J.L0/\(jdo l J).many=J.many+1:=by
 unfold jdo
 split
 focus
  rename_i h
  have:(Yd l J.L J.B).2=(J.L,J.B):=by
   unfold Yd at h ⊢
   split
   ·rfl
   split
   ·rfl
   rename_i h1 h2
   rw [if_neg h1,if_neg h2] at h
   exact absurd rfl h
  rw [this]
 rotate_left
 all_goals exact ⟨rfl,rfl,rfl,rfl⟩
def Ran (L:Led) (B:Bk):Prop:=∃cs:List (List Stp),L=(U4 cs (Up Zca ⟨[],1⟩)).L/\B=(U4 cs (Up Zca ⟨[],1⟩)).B
theorem Ran.new:Ran Zca ⟨[],1⟩:=⟨[],rfl,rfl⟩
theorem Ran.step {L:Led} {B:Bk} (h:Ran L B) (l:List Stp):Ran (Yd l L B).2.1 (Yd l L B).2.2:=by
 obtain ⟨cs,rfl,rfl⟩:=h
 have e:U4 (cs++[l]) (Up Zca ⟨[],1⟩)=jdo l (U4 cs (Up Zca ⟨[],1⟩)):=by unfold U4;rw [List.foldl_append];rfl
 have h1:=Zgw l (U4 cs (Up Zca ⟨[],1⟩))
 exact ⟨cs++[l],by rw [e,h1.1],by rw [e,h1.2.1]⟩
theorem jrun_hs:∀(cs:List (List Stp)) (J:Jn),HsOk J.L J.B->HsOk (U4 cs J).L (U4 cs J).B
 | [],_,h=>h
 | l::cs,J,h=>by
   have h1:=Zgw l J
   exact jrun_hs cs (jdo l J) (by rw [h1.1,h1.2.1];exact Zke h l)
theorem jrun_hn:∀(cs:List (List Stp)) (J:Jn),HnOk J.L J.B->HnOk (U4 cs J).L (U4 cs J).B
 | [],_,h=>h
 | l::cs,J,h=>by
   have h1:=Zgw l J
   exact jrun_hn cs (jdo l J) (by rw [h1.1,h1.2.1];exact Zpv h l)
theorem Ran.hs {L:Led} {B:Bk} (h:Ran L B):HsOk L B:=by
 obtain ⟨cs,rfl,rfl⟩:=h
 exact jrun_hs cs _ Zsh
theorem ran_keys {L:Led} {B:Bk} (h:Ran L B):HnOk L B:=by
 obtain ⟨cs,rfl,rfl⟩:=h
 exact jrun_hn cs _ hn_new
end Go.Proofs.YtipjchbdogmccaaGreat
