/- As RgK, where a quiet operation may be a call: asked twice, over the worlds that keep all but S, and over the worlds behind one of these. Program independent. Quiet steps that the walk's set lacks: a load of many cells, a call. Program independent. Appends onto a row of one's own, in a region whose middle turns that row. Program independent. Regions that draw their order, in a round of a range over a function: what holds of a region outside holds of it there, where nothing is deferred. Program independent. A range over a function whose rounds turn what the iterator reads: a law over states. Program independent. -/
import Derived.Test.YtipjchbdogmccaaGreatRgK
import Derived.Laws.AppendOwn
import Derived.Laws.OwnMore
import Derived.OrdersIn
import Derived.RangeFuncNested
import Derived.RangeFuncBound
import Derived.RangeFuncCalls
import Derived.RangeFuncLeaves
import Derived.OwnWalkIn
import Derived.TacticsInMore
import Derived.LoopNIn
import Derived.LoopIn
namespace Go.RgK
open Go.RowKit Go.Rg
variable {S:List Nat} {P:Program} {ops:Array Oper} {md:Region.Mode}
theorem Zka (W:Y2 P) {w0:World} {o:Oper} {l:List Oper} {a:Act} {K:World->Act->Prop}
 (h:∀w1,Keep S w0 w1->wpQuiet P ops (U9 S w1) (K w1) (o::l) a) (h2:∀w1,Keep S w0 w1->wpQuiet P ops (Cls w1) (fun _=>True) (o::l) a):
 ∃v,Ya S P ops w0 o v a/\(∀w1,Keep S w0 w1->wpQuiet P ops (U9 S w1) (K w1) l (a.put o.dst v))/\(∀w1,Keep S w0 w1->wpQuiet P ops (Cls w1) (fun _=>True) l (a.put o.dst v)):=by
 by_cases hw:Region.wanted o (yielded ops a.tmps)=true
 ·have h':∀w1,Keep S w0 w1->o.quiet P a (U9 S w1) (wpQuiet P ops (U9 S w1) (K w1) l):=fun w1 hw1=>by
   have:=h w1 hw1
   unfold wpQuiet at this
   simpa only [hw,if_true] using this
  have h2':∀w1,Keep S w0 w1->o.quiet P a (Cls w1) (wpQuiet P ops (Cls w1) (fun _=>True) l):=fun w1 hw1=>by
   have:=h2 w1 hw1
   unfold wpQuiet at this
   simpa only [hw,if_true] using this
  obtain ⟨v0,hv0,_⟩:=h' w0 (Keep.refl S _)
  have hagree:∀w1,Keep S w0 w1->o.quietAt P a (U9 S w1) w1 v0/\wpQuiet P ops (U9 S w1) (K w1) l (a.put o.dst v0):=fun w1 hw1=>by
   obtain ⟨v1,hv1,hk⟩:=h' w1 hw1
   have q1:=hv1 w1 ⟨⟨w1,Keep.refl S _⟩,rfl⟩
   have:=Vm W (hv0 w1 ⟨⟨w1,hw1⟩,rfl⟩) q1
   subst this
   exact ⟨q1,hk⟩
  have hagree2:∀w1,Keep S w0 w1->o.quietAt P a (Cls w1) w1 v0/\wpQuiet P ops (Cls w1) (fun _=>True) l (a.put o.dst v0):=fun w1 hw1=>by
   obtain ⟨v1,hv1,hk⟩:=h2' w1 hw1
   have q1:=hv1 w1 ⟨⟨w1,Ext.refl _⟩,rfl⟩
   have:=Vm W (hagree w1 hw1).1 q1
   subst this
   exact ⟨q1,hk⟩
  refine ⟨v0,.inl ⟨hw,fun w' hw'=> ?_⟩,fun w1 hw1=>(hagree w1 hw1).2,fun w1 hw1=>(hagree2 w1 hw1).2⟩
  have q1:=(hagree2 w' hw').1
  unfold Oper.quietAt at q1
  unfold Xn
  generalize hr:(execOp a.eval o).run P w'=r at *
  cases r with
  | ok n w2=>
    cases n<;>simp only [Oper.quietUpon] at q1<;>simp only [Xz]
    case value u=>obtain ⟨rfl,rfl⟩:=q1;exact ⟨rfl,Ext.refl _⟩
    case skip=>obtain ⟨rfl,rfl⟩:=q1;exact ⟨rfl,Ext.refl _⟩
    case enter f args=>
     obtain ⟨rfl,c1⟩:=q1
     exact c1.mono fun e w3 ⟨he,p,hp⟩=>⟨_,he,rfl,by rw [hp];exact p.h⟩
  | halt x w2=>simp only [Oper.quietUpon] at q1
 refine ⟨undef,.inr ⟨by simpa using hw,rfl⟩,fun w1 hw1=> ?_,fun w1 hw1=> ?_⟩
 focus have:=h w1 hw1
 rotate_left
 focus have:=h2 w1 hw1
 all_goals
  unfold wpQuiet at this
  rwa [if_neg hw] at this
theorem Zd5 (W:Y2 P) {w0:World} {n e:Nat} {L:Array Bool->Act->World->Prop} {es:List Nat} (hsel:Region.noSelect ops=true) (hs:Region.sinkB md ops n=true) (hc:Region.chainB md ops n=true) (hn:n<ops.size)
 (hdone:∀listed a w,L listed a w->∀j∈Region.ready md ops listed,n<=j):
 ∀(l:List Oper) (k:Nat) (listed:Array Bool) (a:Act) (w:World),(∀j,j<l.length->l[j]? =ops[k+j]?)->k+l.length=n->HeadInv md ops n listed->Keep S w0 w->Ext w0 w->
 Yv md ops es l.length k listed=true->
 (∀w1,Keep S w0 w1->wpQuiet P ops (Cls w1) (fun _=>True) (Zk es k l) a)->
 (∀w1,Keep S w0 w1->wpQuiet P ops (U9 S w1) (fun a'=>Ext w0 w1->wpX S P md ops w0 n L e (Z1 es l.length k listed) a' w1) (Zk es k l) a)->
 wpX S P md ops w0 n L (Zz es l.length k+e) listed a w
 | [],k,listed,a,w,_,_,_,h0,hx,_,_,h=>by
   have:=h w h0
   simp only [Zk,Z1,Zz,Nat.zero_add,List.length_nil] at this ⊢
   exact this hx
 | o::l,k,listed,a,w,hl,hk,inv,h0,hx,hB,h2,h=>by
   have ho:ops[k]? =some o:=by simpa using (hl 0 (by simp)).symm
   have hl':∀j,j<l.length->l[j]? =ops[k+1+j]? :=fun j hj=>by have:=hl (j+1) (by simp;omega);simpa [Nat.add_assoc,Nat.add_comm 1 j] using this
   have hk':k+1+l.length=n:=by simp only [List.length_cons] at hk;omega
   by_cases he:es.contains k=true
   ·simp only [List.length_cons,Yv,Zk,Z1,Zz,he,if_true] at hB h2 h ⊢
    exact Zd5 W hsel hs hc hn hdone l (k+1) listed a w hl' hk' inv h0 hx hB h2 h
   simp only [List.length_cons,Yv,Zk,Z1,Zz,he,if_false,Bool.and_eq_true,Bool.false_eq_true] at hB h2 h ⊢
   obtain ⟨⟨hr,hf⟩,hB'⟩:=hB
   have hkn:k<n:=by omega
   have hr':k∈Region.ready md ops listed:=by simpa using hr
   obtain ⟨v,hy,hK,hK2⟩:=Zka W h h2
   have:=Zd5 W hsel hs hc hn hdone l (k+1) _ (a.put o.dst v) w hl' hk' (inv.set hr' hkn) h0 hx hB' hK2 hK
   rw [show Zz es l.length (k+1)+1+e=(Zz es l.length (k+1)+e)+1 by omega]
   exact Zaf ho (Region.noSelect_spec hsel) hs hc hn hkn hdone _ listed a w h0 inv (Region.free_spec ho hf) hr' hy this
theorem Zp4 (S:List Nat) (W:Y2 P) {Q:Exit->Act->World->Prop} {a:Act} {w:World} {l:List Oper} (n:Nat) (es:List Nat) (hB:Zgj l.toArray n es=true)
 (h2:∀w1,Keep S w w1->wpQuiet P l.toArray (Cls w1) (fun _=>True) (Zk es 0 (l.take n)) a)
 (h:∀w1,Keep S w w1->wpQuiet P l.toArray (U9 S w1) (fun a'=>Ext w w1->wpX S P .any l.toArray w n (Yu P l.toArray Q n) es.length (Z1 es n 0 (Array.replicate l.toArray.size false)) a' w1) (Zk es 0 (l.take n)) a):
 wpAny P .any l.toArray Q l.toArray.size (Array.replicate l.toArray.size false) a { w with drawn:=w.drawn+1 }:=by
 simp only [Zgj,Bool.and_eq_true,decide_eq_true_eq] at hB
 obtain ⟨⟨⟨⟨⟨hsel,hn⟩,hs⟩,hc⟩,hlex⟩,hnum⟩:=hB
 have hn':n<l.length:=by simpa using hn
 have htl:(l.take n).length=n:=by simp;omega
 have inv0:HeadInv .any l.toArray n (Array.replicate l.toArray.size false):=
  ⟨by simp,fun j oj _ hl=>(by rw [getD_replicate_false] at hl;cases hl),fun t _ ht=>getD_in (by simpa using ht) (getD_replicate_false _ _)⟩
 have H:=Zd5 (S:=S) (md:= .any) W (w0:=w) (L:=Yu P l.toArray Q n) (e:=es.length) (es:=es) hsel hs hc hn (fun listed a w hL=>seqB_ready hL.1) (l.take n) 0 (Array.replicate l.toArray.size false) a
  { w with drawn:=w.drawn+1 } (fun j hj=>by
    have hj':j<n:=by rw [htl] at hj;exact hj
    simp [hj']) (by simpa using htl) inv0 (Kx ((Ext.refl w).drew)) ((Ext.refl w).drew) (by rw [htl];exact hlex) h2 (by rw [htl];exact h)
 rw [htl,hnum] at H
 have H2:=Xe (Q:=Q) (g:=l.toArray.size-n) (fun listed a' w' hL=>by
  have:=wpAny_of_seq (md:= .any) (ops:=l.toArray) (Q':=Q) (l.drop n) n listed a' w' (fun j=>by simp [List.getElem?_drop]) (by rw [show (l.drop n).length=l.toArray.size-n by simp];exact hL.1) (by simpa using hL.2)
  rwa [show (l.drop n).length=l.toArray.size-n by simp] at this) _ _ _ _ (Kx ((Ext.refl w).drew)) H
 rw [show n+(l.toArray.size-n)=l.toArray.size by omega] at H2
 exact H2
theorem Vt (S:List Nat) (W:Y2 P) {id:Nat} {Q:Exit->Act->World->Prop} {a:Act} {w:World} {l:List Oper} (n:Nat) (es:List Nat) (hm:P.follows .mixedOrders=true) (hB:Zgj l.toArray n es=true)
 (h2:∀w1,Keep S w w1->wpQuiet P l.toArray (Cls w1) (fun _=>True) (Zk es 0 (l.take n)) a)
 (h:∀w1,Keep S w w1->wpQuiet P l.toArray (U9 S w1) (fun a'=>Ext w w1->wpX S P .any l.toArray w n (Yu P l.toArray Q n) es.length (Z1 es n 0 (Array.replicate l.toArray.size false)) a' w1) (Zk es 0 (l.take n)) a):
 (Code.region id l.toArray true).wp P Q a w:=
 wp_region_any hm (Zp4 S W n es hB h2 h)
theorem wpX_row {n f:Nat} {L:Array Bool->Act->World->Prop} {listed:Array Bool} {a:Act} {w0 w:World} (i:Nat) (o:Oper) (ty:TypeId) (x y:Operand) (hop:o.op= .store ty x y) (hg:o.guard=none) (hd:o.dst=none)
 (hr:Region.ready md ops listed=[i]) (hin:i<n) (ho:ops[i]? =some o) (g:Nat) (cells:Array Value) (hx:a.eval x= .pointer (some ⟨g,0,none⟩)) (hy:a.eval y= .agg cells)
 (t:TypeId) (old:Array Value) (hi:(P.info? ty).map (·.size)=some cells.size) (hold:old.size=cells.size) (h1:cells.toList.all (·.oneCell')=true) (hgw:w.heap[g]? =some (.cells old t (0,0))) (hgS:g∈S)
 (h:∀w':World,Keep S w0 w'->Keep [g] w w'->w'.heap[g]? =some (.cells cells t (0,0))->wpX S P md ops w0 n L f (listed.setIfInBounds i true) a w'):wpX S P md ops w0 n L (f+1) listed a w:=by
 refine Vq i o hr hin ho (by simp [Region.wanted,hg]) fun w' h0 hw'=> ?_
 have hgw':=hw'.at hgw
 unfold Xn execOp
 simp only [hop,hx,hy,Instr.storeAt,Instr.sureAddr,Sem.run_bind,Sem.run_pure,Result.andThen_ok,run_storeVar_row w' g t ty old cells hgw' hi hold (by rw [<-Array.all_toList];exact h1),Xz]
 have e0:Keep [g] w' (w'.setRow g cells):=by
  have hb:Below w'.heap.size w' w':=Below.refl _ _
  exact ⟨rfl,rfl,rfl,by simp [World.setRow],fun k _ hk=>setRow_other _ _ _ _ (by simpa using hk)⟩
 have hsub:∀x∈[g],x∈S:=by
  intro x hx
  have hxg:x=g:=by simpa using hx
  rw [hxg];exact hgS
 have e1:Keep S w0 (w'.setRow g cells):=h0.trans (e0.mono hsub)
 refine ⟨e1,?_⟩
 rw [hd]
 exact h _ e1 ((Kx hw').trans e0) (setRow_heap _ _ _ _ _ _ hgw')
end Go.RgK
namespace Go.Rg
variable {P:Program}
theorem Zs (w:World) (g off:Nat) (ty:TypeId) (cs:List Value) (d:TypeDesc) (h:∀j v,cs[j]? =some v->w.cell? ⟨g,off+j,none⟩=some v)
 (hu:P.underlying ty=some d) (hd:(match d with | .struct _ | .array _ _=>true | _=>false)=true) (hi:(P.info? ty).map (·.size)=some cs.length):
 (loadVar ty ⟨g,off,none⟩).run P w= .ok (.agg cs.toArray) w:=by
 have hl:(loadCells ⟨g,off,none⟩ cs.length).run P w= .ok cs.toArray w:=
  run_loadCells_list (P:=P) w ⟨g,off,none⟩ cs (fun j v hv=>by
   have hadd:(⟨g,off,none⟩:Addr).add j=⟨g,off+j,none⟩:=by unfold Addr.add;split<;>simp_all
   rw [hadd];exact h j v hv)
 cases hq:P.info? ty with
 | none=>simp [hq] at hi
 | some i=>
   have hs:i.size=cs.length:=by simpa [hq] using hi
   have hagg:(isAgg ty).run P w= .ok true w:=by
    unfold isAgg
    rw [Sem.run_bind,run_underlying hu w]
    cases d<;>simp_all
   simp [loadVar,Sem.run_bind,hagg,sizeOf,typeInfo,hq,hs,hl]
theorem Ve {ρ:Operand->Value} {o:Oper} {w:World} (ty:TypeId) (x:Operand) (v:Value) (p:Addr) (hop:o.op= .load ty x) (hx:ρ x= .pointer (some p)) (hr:(loadVar ty p).run P w= .ok v w):
 (execOp ρ o).run P w= .ok (.value v) w:=by
 unfold execOp
 simp only [hop,hx,Instr.loadAt,Instr.sureAddr,Sem.run_bind,Sem.run_pure,Result.andThen_ok,hr]
theorem Z0 {o:Oper} {a:Act} {C:World->Prop} {K:Act->Prop} (ty:TypeId) (x:Operand) (v:Value) (p:Addr) (hop:o.op= .load ty x) (hx:a.eval x= .pointer (some p)) (hr:∀w,C w->(loadVar ty p).run P w= .ok v w)
 (hk:K (a.put o.dst v)):o.quiet P a C K:=
 ⟨v,fun w hc=>by unfold Oper.quietAt;rw [Ve ty x v p hop hx (hr w hc)];exact ⟨rfl,rfl⟩,hk⟩
theorem Zd {ops:Array Oper} {rest:List Oper} {o:Oper} {a:Act} {w:World} {Q:Exit->Act->World->Prop} (hgd:o.guard=none) (ty:TypeId) (x:Operand) (v:Value) (p:Addr) (hop:o.op= .load ty x) (hx:a.eval x= .pointer (some p))
 (hr:(loadVar ty p).run P w= .ok v w) (h:wpList P ops Q rest (a.put o.dst v) w):wpList P ops Q (o::rest) a w:=
 wpList_plain hgd fun K hK=>by
  unfold Oper.wp
  rw [Ve ty x v p hop hx hr]
  exact hK _ _ h
theorem Xb {ops:Array Oper} {md:Region.Mode} {n f:Nat} {L:Array Bool->Act->World->Prop} {listed:Array Bool} {a:Act} {w0 w:World} (i:Nat) (o:Oper) (ob:Obj) (F:Nat->Value)
 (hm:∀w:World,(execOp a.eval o).run P w= .ok (.value (F w.heap.size)) (w.alloc ob)) (hg:o.guard=none) (hr:Region.ready md ops listed=[i]) (hin:i<n) (ho:ops[i]? =some o)
 (h:∀(p:Nat) (w2:World),Ext w0 w2->Ext w w2->w0.heap.size<=p->w.heap.size<=p->w2.heap[p]? =some ob->wpX P md ops w0 n L f (listed.setIfInBounds i true) (a.put o.dst (F p)) w2):wpX P md ops w0 n L (f+1) listed a w:=by
 refine Vq i o hr hin ho (by simp [Region.wanted,hg]) fun w' h0 hw'=> ?_
 unfold Xn
 rw [hm w']
 have e1:=Zc w' ob
 exact ⟨Xt h0 e1,h _ _ (Xt h0 e1) (Xt hw' e1) h0.size hw'.size (Zb w' ob)⟩
open Go.RowKit
variable {P:Program}
theorem Zfi (w:World) (base:Nat) (t ty e:TypeId) (i:TypeInfo) (z:Value) (size bytes:Nat) (ht:P.underlying t=some (.slice e)) (hi:P.info? e=some i) (hz:i.zero=some z)
 (hsize:i.size=size) (hby:i.bytes=bytes)
 (v:Value) (n:Nat) (xs:List Value) (hown:w.ownsRow base e size v n xs)
 (a:Addr) (m c:Nat) (news:List Value) (hl:news.length=m*size) (hnews:∀j u,news[j]? =some u->w.cell? (a.add j)=some u) (h1:∀u∈news,u.oneCell'=true)
 (h63:n+m<=maxLen) (hbytes:(n+m)*bytes<=140737488355328) (v':Value) (w':World)
 (hr:(Builtin.append_ #[t,t] ty #[v,.slice (some a) m c]).run P w= .ok v' w'):v'.ownBlock=v.ownBlock\/v'.ownBlock=some w.heap.size:=by
 subst hsize
 subst hby
 rcases hown.2 with ⟨rfl,rfl⟩ | ⟨g,cap,cur,rfl,hbg,hg,hnc,hcm,hcs,htake⟩
 focus
  by_cases hm:m=0
  ·subst hm
   have hn:news=[]:=List.eq_nil_of_length_eq_zero (by simpa using hl)
   subst hn
   have hr2:(Builtin.append_ #[t,t] ty #[.slice none 0 0,.slice (some a) 0 c]).run P w= .ok (.slice none 0 0) w:=by
    simp [Builtin.append_,run_underlying ht,sizeOf,typeInfo,hi,Builtin.lenOf,Builtin.firstCells,loadCells,loadCellsFrom]
   rw [hr2] at hr
   injection hr with hv _
   subst hv
   exact .inl rfl
  have hr2:=run_append_nil (P:=P) w t ty e i z ht hi hz a m c news hl hnews (by omega) (by simp only [maxLen] at h63;omega) (by have hb:=hbytes;simp only [Nat.zero_add] at hb;omega)
 rotate_left
 focus
  by_cases hroom:n+m<=cap
  ·have hr2:=run_append_room (P:=P) w t ty e i ht hi g n cap cur hg a m c news hl hnews h1 hroom (by rw [hl,hcs,<-Nat.add_mul];exact Nat.mul_le_mul_right _ hroom)
   rw [hr2] at hr
   injection hr with hv _
   subst hv
   exact .inl rfl
  have holds:∀j u,xs[j]? =some u->w.cell? ((⟨g,0,none⟩:Addr).add j)=some u:=hown.cells (g:=g) rfl
  have hr2:=run_append_grow (P:=P) w t ty e i z ht hi hz ⟨g,0,none⟩ n cap xs hown.1 holds a m c news hl hnews (by omega) (by simp only [maxLen] at h63;omega) (growslice_fits (by omega) hbytes)
 all_goals
  rw [hr2] at hr
  injection hr with hv _
  subst hv
  exact .inr rfl
theorem Y6 {S:List Nat} {w0 w w':World} {row:Option Nat} (h:Keep S w0 w) (hg:w.grownBy w' row) (hr:∀q,row=some q->q∈S\/w0.heap.size<=q):Keep S w0 w':=
 ⟨hg.os.trans h.os,hg.tape.trans h.tape,hg.output.trans h.output,Nat.le_trans h.size hg.size,fun k hk hn=>by
  rw [hg.block k (Nat.lt_of_lt_of_le hk h.size) (fun e=>by rcases hr k e.symm with h1 | h1;exact hn h1;omega)]
  exact h.block k hk hn⟩
theorem Zo {w w':World} {base size n:Nat} {e:TypeId} {v:Value} {xs:List Value} (h:w.ownsRow base e size v n xs) (k:Ext w w'):w'.ownsRow base e size v n xs:=by
 refine ⟨h.1,?_⟩
 rcases h.2 with h4 | ⟨b,cap,cur,rfl,hb,hh,rest⟩
 ·exact .inl h4
 exact .inr ⟨b,cap,cur,rfl,hb,k.at hh,rest⟩
theorem Zd6 {ops:Array Oper} {rest:List Oper} {o:Oper} {a:Act} {w:World} {Q:Exit->Act->World->Prop} (hgd:o.guard=none) (v:Value) (w':World) (hr:(execOp a.eval o).run P w= .ok (.value v) w')
 (h:wpList P ops Q rest (a.put o.dst v) w'):wpList P ops Q (o::rest) a w:=
 wpList_plain hgd fun K hK=>by
  unfold Oper.wp
  rw [hr]
  exact hK _ _ h
theorem Jd {ops:Array Oper} {rest:List Oper} {o:Oper} {a:Act} {w:World} {Q:Exit->Act->World->Prop} (hgd:o.guard=none) (s x:Operand) (t:TypeId)
 (ho:o.op= .call { callee:= .builtin .append,args:=#[s,x],argTypes:=#[t,t] }) (v1 v2 v':Value) (w':World) (hs:a.eval s=v1) (hx:a.eval x=v2) (hr:(Builtin.append_ #[t,t] o.type #[v1,v2]).run P w= .ok v' w')
 (h:wpList P ops Q rest (a.put o.dst v') w'):wpList P ops Q (o::rest) a w:=
 wpList_plain hgd fun K hK=>by
  unfold Oper.wp execOp
  simp only [ho,resolve,invoke,builtin,Sem.run_bind,Sem.run_pure,Result.andThen_ok,List.map_toArray,List.map_cons,List.map_nil,hs,hx,hr]
  exact hK _ _ h
theorem J3 {ops:Array Oper} {rest:List Oper} {o:Oper} {a:Act} {w:World} {Q:Exit->Act->World->Prop} (hgd:o.guard=none) (hd:o.dst=none) (x:Operand) (t:TypeId)
 (ho:o.op= .call { callee:= .builtin .clear,args:=#[x],argTypes:=#[t] }) (v1 v':Value) (w':World) (hx:a.eval x=v1) (hr:(Builtin.clear_ #[t] o.type #[v1]).run P w= .ok v' w')
 (h:wpList P ops Q rest a w'):wpList P ops Q (o::rest) a w:=
 wpList_plain hgd fun K hK=>by
  unfold Oper.wp execOp
  simp only [ho,resolve,invoke,builtin,Sem.run_bind,Sem.run_pure,Result.andThen_ok,List.map_toArray,List.map_cons,List.map_nil,hx,hr]
  show K (a.put o.dst v') w'
  rw [hd]
  exact hK _ _ h
theorem Y4 {w:World} {base size n p:Nat} {e t:TypeId} {v:Value} {xs:List Value} {cs:Array Value} {fr:Nat×Nat} (h:w.ownsRow base e size v n xs) (hp:w.heap[p]? =some (.cells cs t fr)) (hne:e≠t):v.ownBlock≠some p:=by
 intro hq
 rcases h.2 with ⟨rfl,_⟩ | ⟨b,c2,cur,rfl,_,hh,_⟩
 ·simp [Value.ownBlock] at hq
 simp only [Value.ownBlock,Option.some.injEq] at hq
 subst hq
 rw [hh] at hp
 injection hp with hp
 injection hp with _ ht
 exact hne ht
end Go.Rg
namespace Go.RgK
open Go.RowKit Go.Rg
variable {S:List Nat} {P:Program} {ops:Array Oper} {md:Region.Mode}
theorem Xb {n f:Nat} {L:Array Bool->Act->World->Prop} {listed:Array Bool} {a:Act} {w0 w:World} (i:Nat) (o:Oper) (ob:Obj) (F:Nat->Value)
 (hm:∀w:World,(execOp a.eval o).run P w= .ok (.value (F w.heap.size)) (w.alloc ob)) (hg:o.guard=none) (hr:Region.ready md ops listed=[i]) (hin:i<n) (ho:ops[i]? =some o)
 (h:∀(p:Nat) (w2:World),Keep S w0 w2->Ext w w2->w0.heap.size<=p->w.heap.size<=p->w2.heap[p]? =some ob->wpX S P md ops w0 n L f (listed.setIfInBounds i true) (a.put o.dst (F p)) w2):wpX S P md ops w0 n L (f+1) listed a w:=by
 refine Vq i o hr hin ho (by simp [Region.wanted,hg]) fun w' h0 hw'=> ?_
 unfold Xn
 rw [hm w']
 have e1:=Zc w' ob
 exact ⟨h0.trans (Kx e1),h _ _ (h0.trans (Kx e1)) (Xt hw' e1) h0.size hw'.size (Zb w' ob)⟩
theorem Zaj {n f:Nat} {L:Array Bool->Act->World->Prop} {listed:Array Bool} {a:Act} {w0 w:World} (i:Nat) (o:Oper) (s x:Operand) (t:TypeId)
 (hop:o.op= .call { callee:= .builtin .append,args:=#[s,x],argTypes:=#[t,t] }) (hg:o.guard=none) (hr:Region.ready md ops listed=[i]) (hin:i<n) (ho:ops[i]? =some o)
 (base:Nat) (e:TypeId) (ti:TypeInfo) (z:Value) (size bytes:Nat) (ht:P.underlying t=some (.slice e)) (hi:P.info? e=some ti) (hz:ti.zero=some z)
 (hsize:ti.size=size) (hby:ti.bytes=bytes) (hzs:z.cells.size=size) (hsz:0<size)
 (v:Value) (k:Nat) (xs:List Value) (hs:a.eval s=v) (hown:w.ownsRow base e size v k xs) (hS:∀q,v.ownBlock=some q->q∈S)
 (b:Nat) (m c:Nat) (cs:Array Value) (fr:Nat×Nat) (u:TypeId) (hx:a.eval x= .slice (some ⟨b,0,none⟩) m c) (hb:w.heap[b]? =some (.cells cs u fr)) (hl:cs.size=m*size) (h1:∀u∈cs.toList,u.oneCell'=true)
 (h63:k+m<=maxLen) (hbytes:(k+m)*bytes<=140737488355328) (hbase:base<=w.heap.size)
 (h:∀v' w2,Keep S w0 w2->Keep v.ownBlock.toList w w2->w2.ownsRow base e size v' (k+m) (xs++cs.toList)->(v'.ownBlock=v.ownBlock\/∃q,v'.ownBlock=some q/\w.heap.size<=q)->wpX S P md ops w0 n L f (listed.setIfInBounds i true) (a.put o.dst v') w2):
 wpX S P md ops w0 n L (f+1) listed a w:=by
 refine Vq i o hr hin ho (by simp [Region.wanted,hg]) fun w' h0 hw'=> ?_
 have hown':=Zo hown hw'
 have hb':=hw'.at hb
 have hnews:∀j y,cs.toList[j]? =some y->w'.cell? ((⟨b,0,none⟩:Addr).add j)=some y:=by
  intro j y hy
  have hadd:(⟨b,0,none⟩:Addr).add j=⟨b,j,none⟩:=by unfold Addr.add;split<;>simp_all
  rw [hadd]
  exact Za hb' (by simpa using hy)
 obtain ⟨v',w2,hrun,h2,h3,_⟩:=run_append_own (P:=P) w' base t o.type e ti z size bytes ht hi hz hsize hby hzs hsz v k xs hown' ⟨b,0,none⟩ m c cs.toList (by simpa using hl) hnews h1 h63 hbytes (Nat.le_trans hbase hw'.size)
 have hwhere:=Zfi w' base t o.type e ti z size bytes ht hi hz hsize hby v k xs hown' ⟨b,0,none⟩ m c cs.toList (by simpa using hl) hnews h1 h63 hbytes v' w2 hrun
 unfold Xn execOp
 simp only [hop,resolve,invoke,builtin,Sem.run_bind,Sem.run_pure,Result.andThen_ok,List.map_toArray,List.map_cons,List.map_nil,hs,hx,hrun,Xz]
 have hk:Keep S w0 w2:=Y6 h0 h3 (fun q hq=>.inl (hS q hq))
 refine ⟨hk,h v' w2 hk (Y6 (Kx hw') h3 (fun q hq=>.inl (by rw [hq];simp))) h2 ?_⟩
 rcases hwhere with hh | hh
 ·exact .inl hh
 exact .inr ⟨_,hh,hw'.size⟩
end Go.RgK
namespace Go.Rg
open Go.RowKit
variable {P:Program} {ops:Array Oper} {md:Region.Mode} {Q:Exit->Act->World->Prop}
def Zdh (ops:Array Oper):Bool:=ops.all fun o=>match o.op with | .defer _=>false | _=>true
theorem upon_in (l n:Nat) (o:Oper) (a:Act) (next:Act->World->Prop) (r:Result Next) (h:o.upon P a next Q r):o.uponIn (Fence.wide.inRound l) n P a next Q r:=by
 cases r with
 | ok x w'=>
   cases x with
   | value v=>exact h
   | skip=>exact h
   | defer d=>exact h
   | enter f args=>exact ⟨fun hd=>by simp [Fence.wide] at hd,CallsIn.inRound l (callsIn_wide.2 h)⟩
   | row row args=>
     refine ⟨fun hd=>by simp [Fence.wide] at hd,fun c cs _=> ?_⟩
     obtain ⟨v,w'',hv,hs⟩:=h c cs
     exact ⟨v,w'',hv,stepsIn_wide.2 hs⟩
   | round l f tmps assign body=>exact h.elim
   | _=>exact h.elim
 | halt x w'=>cases x<;>exact h
theorem wpOp_in (l n:Nat) (hnd:Zdh ops=true) (hout:¬LetsOut Q) {K K':Act->World->Prop} (hK:∀a w,K a w->K' a w) {i:Nat} {a:Act} {w:World} (h:wpOp P ops Q i K a w):wpOpIn (Fence.wide.inRound l) n P ops Q i K' a w:=by
 refine wpOpIn_mono hK ?_
 unfold wpOp at h
 unfold wpOpIn
 cases ho:ops[i]? with
 | none=>simpa [ho] using h
 | some o=>
   simp only [ho] at h ⊢
   split
   ·rename_i hw
    simp only [hw,if_true] at h
    rcases h with h | ⟨_,h⟩
    ·refine ⟨fun _ _=>trivial,?_⟩
     have hd:∀c,o.op≠ .defer c:=fun c hc=>by
      unfold Zdh at hnd
      rw [Array.all_eq_true'] at hnd
      have:=hnd o (Array.mem_of_getElem? ho)
      rw [hc] at this
      cases this
     rw [Oper.semAt_eq _ _ _ hd]
     exact upon_in l n o a _ _ h
    exact absurd h hout
   rename_i hw
   simp only [hw] at h
   exact ⟨fun _ _=>trivial,h⟩
theorem Zns (l n:Nat) (hnd:Zdh ops=true) (hout:¬LetsOut Q):∀(f:Nat) (listed:Array Bool) (a:Act) (w:World),wpAny P md ops Q f listed a w->wpAnyIn (Fence.wide.inRound l) n P md ops Q f listed a w
 | 0,_,_,_,h=>h
 | f+1,_,_,_,h=>⟨h.1,fun i hi=>wpOp_in l n hnd hout (fun a w hk=>Zns l n hnd hout f _ a w hk) (h.2 i hi)⟩
theorem Uo {l n id:Nat} {a:Act} {w:World} (hm:P.follows .mixedOrders=true) (hnd:Zdh ops=true) (hout:¬LetsOut Q)
 (h:wpAny P .any ops Q ops.size (Array.replicate ops.size false) a { w with drawn:=w.drawn+1 }):(Code.region id ops true).wpIn (Fence.wide.inRound l) n P Q a w:=
 wpIn_region_any hm (Zns l n hnd hout _ _ _ _ h)
variable {P:Program}
def IterSt (P:Program) {σ:Type} (gf:Nat) (lb:Array Value) (Base:σ->World->Prop) (Given:σ->World->World->Value->Prop) (rel:σ->σ->Prop) (End:σ->Prop):Prop:=
 ∀(l:Nat) (J:σ->World->Prop) (Jx:World->Prop) (s0:σ) (W:World),(∀s A B,J s A->Ext A B->J s B)->(∀s A,J s A->Base s A)->
  (∀s A B x,J s A->Ext A B->Given s A B x->YieldAt Fence.wide 0 P l #[x] B fun e W'=>(e= .returned (.bool true)/\∃s',J s' W'/\rel s s')\/(e= .returned (.bool false)/\Jx W'))->
  J s0 W->Calls P gf (#[.func (.yield l) #[] #[]]++lb) W fun e W'=>(∃v,e= .returned v)/\((∃s',J s' W'/\End s')\/Jx W')
theorem Xs {w:World} {S:List Nat} {k:Nat} (o:Obj) (h:k∈S):Keep S w (w.putObj k o):=
 ⟨rfl,rfl,rfl,by simp,fun j _ hn=>World.putObj_heap_other (fun e=>hn (e▸h))⟩
def stPost {σ:Type} (D:Nat) (B:World) (I:σ->World->Prop) (Ix:Code->World->Prop) (rel:σ->Prop):Exit->Act->World->Prop
 | .normal,_,W'=>(W'.heap[D]? =B.heap[D]? /\W'.heap[D+1]? =B.heap[D+1]?)/\∃s',I s' W'/\rel s'
 | .ret,_,W'=>(W'.heap[D]? =B.heap[D]? /\W'.heap[D+1]? =B.heap[D+1]?)/\Ix .ret W'
 | .exit id,_,W'=>(W'.heap[D]? =B.heap[D]? /\W'.heap[D+1]? =B.heap[D+1]?)/\Ix (.exit id) W'
 | .goto t,_,W'=>(W'.heap[D]? =B.heap[D]? /\W'.heap[D+1]? =B.heap[D+1]?)/\Ix (.goto t) W'
 | .panic _,_,_=>False
 | .outgrown,_,_=>False
set_option maxHeartbeats 400000 in
theorem Zer {σ:Type} {g:Operand} {ps:Array Tmp} {assign body:Code} {Q:Exit->Act->World->Prop} {a:Act} {w:World} {gf:Nat} {lb:Array Value}
 (hg:a.eval g= .func (.func gf) #[] lb) (eg:∀args w,(callFunc gf args).run P w= .ok (.enter gf args) w) (hps:ps.size=1)
 {Base:σ->World->Prop} {Given:σ->World->World->Value->Prop} {rel:σ->σ->Prop} {End:σ->Prop} (hit:IterSt P gf lb Base Given rel End)
 (I:σ->World->Prop) (Ix:Code->World->Prop) (s0:σ)
 (hI:∀s A B,I s A->Keep [w.heap.size,w.heap.size+1] A B->I s B) (hIx:∀c A B,Ix c A->Keep [w.heap.size,w.heap.size+1] A B->Ix c B) (hB:∀s A,I s A->Base s A)
 (hG:∀s A B B' x,Given s A B x->w.heap.size+2<=A.heap.size->Keep [w.heap.size,w.heap.size+1] B B'->Given s A B' x)
 (h0:I s0 w) (a₁:Value->Act)
 (hassign:∀(l:Nat) (x:Value) (W:World) (K:Act->World->Prop),K (a₁ x) W->
   assign.wpIn (Fence.wide.inRound l) 0 P (Exit.then K (fun _ _ _=>False)) { tmps:=(ps.zip #[x]).foldl (fun t (p,v)=>t.setIfInBounds p v) a.tmps,defers:=[] } W)
 (hbody:∀(s:σ) (A B:World) (x:Value),I s A->Keep [w.heap.size,w.heap.size+1] A B->Given s A B x->w.heap.size+2<=A.heap.size->
   body.wpIn (Fence.wide.inRound (w.heap.size+1)) 0 P (stPost w.heap.size B I Ix (rel s)) (a₁ x) B)
 (hdone:∀(s:σ) (W:World),End s->I s W->W.heap[w.heap.size]? =some (.deferred (some []))->Q .normal { a with defers:={ target:= .collected w.heap.size,args:=#[] }::a.defers } W)
 (hstop:∀(c:Code) (W:World),Ix c W->W.heap[w.heap.size]? =some (.deferred (some []))->c.wpIn Fence.wide 0 P Q { a with defers:={ target:= .collected w.heap.size,args:=#[] }::a.defers } W):
 (Code.rangeFunc g ps assign body).wpIn Fence.wide 0 P Q a w:=by
 refine wpIn_rangeFunc ?_
 intro fn hfn
 rw [show Fence.wide.round=none from rfl]
 -- the loop's record,by its state and its pending jump
 obtain ⟨rec,hrec⟩:∃rec:LoopState->Option Code->Loop,rec=fun st pe=>{ state:=st,pending:=pe,fn,tmps:=a.tmps,params:=ps,assign,body,defers:=w.heap.size }:=⟨_,rfl⟩
 obtain ⟨W1,hW1⟩:∃W1,(w.alloc (.deferred (some []))).alloc (.loop (rec .ready none))=W1:=⟨_,rfl⟩
 have e1:Ext w W1:=by rw [<-hW1];exact Xt (Zc _ _) (Zc _ _)
 have hs1:W1.heap.size=w.heap.size+2:=by rw [<-hW1];simp [World.size_alloc]
 have hl1:W1.heap[w.heap.size+1]? =some (.loop (rec .ready none)):=by
  rw [<-hW1];have:=Zb (w.alloc (.deferred (some []))) (.loop (rec .ready none));rwa [size_alloc] at this
 have hd1:W1.heap[w.heap.size]? =some (.deferred (some [])):=by
  rw [<-hW1];exact (Zc _ _).at (Zb w _)
 -- what is kept between two rounds
 obtain ⟨J,hJ⟩:∃J:σ->World->Prop,∀s W,J s W↔I s W/\W.heap[w.heap.size+1]? =some (.loop (rec .ready none))/\W.heap[w.heap.size]? =some (.deferred (some []))/\w.heap.size+2<=W.heap.size:=⟨_,fun _ _=>Iff.rfl⟩
 obtain ⟨Jx,hJx⟩:∃Jx:World->Prop,∀W,Jx W↔∃c,Ix c W/\W.heap[w.heap.size+1]? =some (.loop (rec .done (some c)))/\W.heap[w.heap.size]? =some (.deferred (some [])):=⟨_,fun _=>Iff.rfl⟩
 have hround:∀s A B x,J s A->Ext A B->Given s A B x->YieldAt Fence.wide 0 P (w.heap.size+1) #[x] B fun e W'=>(e= .returned (.bool true)/\∃s',J s' W'/\rel s s')\/(e= .returned (.bool false)/\Jx W'):=by
  intro s A B x h k hx
  obtain ⟨hIs,hl,hd,hsz⟩:=(hJ _ _).1 h
  have hlB:=k.at hl
  have hdB:=k.at hd
  have hltB:w.heap.size+1<B.heap.size:=Zg hlB
  have hy:=run_yield (P:=P) (args:=#[x]) hlB (by rw [hrec];simp [hps])
  rw [hrec] at hy
  refine ⟨fn,_,assign,body,hy,roundIn_of_wpIn hfn (hassign _ x B _ ⟨_,run_beginRound hlB (by rw [hrec]),?_⟩)⟩
  have kB:Keep [w.heap.size,w.heap.size+1] B (B.putObj (w.heap.size+1) (.loop { rec .ready none with state:= .busy })):=Xs _ (by simp)
  have hl2:(B.putObj (w.heap.size+1) (.loop { rec .ready none with state:= .busy })).heap[w.heap.size+1]? =some (.loop { rec .ready none with state:= .busy }):=World.putObj_heap_same hltB
  have hd2:(B.putObj (w.heap.size+1) (.loop { rec .ready none with state:= .busy })).heap[w.heap.size]? =some (.deferred (some [])):=(World.putObj_heap_other (by omega)).trans hdB
  generalize hB2:B.putObj (w.heap.size+1) (.loop { rec .ready none with state:= .busy })=B2 at *
  refine wpIn_mono (hbody s A B2 x hIs ((Kx k).trans kB) (hG s A B B2 x hx hsz kB) hsz) ?_
  have fin:∀(jump:Option Code) (W3:World),W3.heap[w.heap.size]? =B2.heap[w.heap.size]? /\W3.heap[w.heap.size+1]? =B2.heap[w.heap.size+1]? ->
   ∃W4,(Instr.endRound (w.heap.size+1) jump).run P W3= .ok (.bool jump.isNone) W4/\Keep [w.heap.size,w.heap.size+1] W3 W4/\
   W4.heap[w.heap.size+1]? =some (.loop (rec (if jump.isNone then .ready else .done) jump))/\W4.heap[w.heap.size]? =some (.deferred (some [])):=fun jump W3 hk=>by
   have hl3:W3.heap[w.heap.size+1]? =some (.loop { rec .ready none with state:= .busy }):=hk.2.trans hl2
   have hr:=run_endRound (P:=P) jump hl3
   refine ⟨_,hr,Xs _ (by simp),?_,(World.putObj_heap_other (by omega)).trans (hk.1.trans hd2)⟩
   have:=World.putObj_heap_same (w:=W3) (o:= .loop { { rec .ready none with state:= .busy } with state:=if jump.isNone then .ready else .done,pending:=jump }) (Zg hl3)
   rw [this,hrec]
  have szk:∀{W4:World},W4.heap[w.heap.size+1]? =some (.loop (rec .ready none))->w.heap.size+2<=W4.heap.size:=fun h=>Zg h
  rintro e a3 W3 hp
  cases e with
  | normal=>
    obtain ⟨hk,s',hI',hr'⟩:=hp
    obtain ⟨W4,hr4,k4,h4,h5⟩:=fin none W3 hk
    exact ⟨_,W4,hr4,.inl ⟨rfl,s',(hJ _ _).2 ⟨hI s' W3 W4 hI' k4,h4,h5,szk h4⟩,hr'⟩⟩
  | ret=>
    obtain ⟨W4,hr4,k4,h4,h5⟩:=fin (some .ret) W3 hp.1
    exact ⟨_,W4,hr4,.inr ⟨rfl,(hJx _).2 ⟨.ret,hIx _ W3 W4 hp.2 k4,h4,h5⟩⟩⟩
  | exit id=>
    obtain ⟨W4,hr4,k4,h4,h5⟩:=fin (some (.exit id)) W3 hp.1
    exact ⟨_,W4,hr4,.inr ⟨rfl,(hJx _).2 ⟨.exit id,hIx _ W3 W4 hp.2 k4,h4,h5⟩⟩⟩
  | goto t=>
    obtain ⟨W4,hr4,k4,h4,h5⟩:=fin (some (.goto t)) W3 hp.1
    exact ⟨_,W4,hr4,.inr ⟨rfl,(hJx _).2 ⟨.goto t,hIx _ W3 W4 hp.2 k4,h4,h5⟩⟩⟩
  | panic ch=>exact hp.elim
  | outgrown=>exact hp.elim
 have hcall:=hit (w.heap.size+1) J Jx s0 W1
  (fun s A B h k=>by
    have h:=(hJ _ _).1 h
    exact (hJ _ _).2 ⟨hI s A B h.1 (Kx k),k.at h.2.1,k.at h.2.2.1,Nat.le_trans h.2.2.2 k.size⟩) (fun s A h=>hB s A ((hJ _ _).1 h).1)
  hround ((hJ _ _).2 ⟨hI s0 w W1 h0 (Kx e1),hl1,hd1,by omega⟩)
 refine ⟨w.heap.size+1,[{ target:= .collected w.heap.size,args:=#[] }],W1,{ target:= .fn (.func gf) lb,args:=#[.func (.yield (w.heap.size+1)) #[] #[]] },W1,gf,
  #[.func (.yield (w.heap.size+1)) #[] #[]]++lb,W1,?_,?_,?_,?_,?_,?_⟩
 ·rw [<-hW1,hrec];exact run_enterLoop_outer _ _ _ _ _
 ·simp only [resolve,hg]
  simp [go_sem]
 ·intro f' _;trivial
 ·simp [invoke,go_sem,eg]
 ·intro hd;simp [Fence.wide] at hd
 refine CallsIn.mono (callsIn_wide.2 hcall) ?_
 rintro e W2 ⟨⟨v,rfl⟩,(⟨s',hj,hE⟩ | hj)⟩
 ·obtain ⟨hI',hl,hd,_⟩:=(hJ _ _).1 hj
  have hr:=run_endLoop (P:=P) hl (by rw [hrec];simp)
  have hp:(rec .ready none).pending=none:=by rw [hrec]
  rw [hp] at hr
  exact ⟨none,_,hr,hdone s' _ hE (hI s' W2 _ hI' (Xs _ (by simp))) ((World.putObj_heap_other (by omega)).trans hd)⟩
 obtain ⟨c,hc,hl,hd⟩:=(hJx _).1 hj
 have hr:=run_endLoop (P:=P) hl (by rw [hrec];simp)
 have hp:(rec .done (some c)).pending=some c:=by rw [hrec]
 rw [hp] at hr
 exact ⟨some c,_,hr,hstop c _ (hIx c W2 _ hc (Xs _ (by simp))) ((World.putObj_heap_other (by omega)).trans hd)⟩
end Go.Rg
