/- As Rg, where an operation ahead of the tail may turn blocks that the quiet ones do not read (S): append in place. A region that draws its order: quiet operations in the order of the text, then the few that make new memory, then the tail, whose order is forced. What is asked of the world is that nothing that was there turns till the tail begins. Nothing here depends on a program. -/
import Derived.StillTail
import Derived.BigQuiet
import Derived.Below
import Derived.Barred
import Derived.Laws.Rows
import Derived.Laws.CopyOwn
namespace Go.Rg
open Go.RowKit
abbrev Ext (w w':World):Prop:=Below w.heap.size w w'
theorem Ext.trans {a b c:World} (h:Ext a b) (k:Ext b c):Ext a c:=Below.trans h (Below.mono k h.size)
theorem Ext.refl (a:World):Ext a a:=Below.refl _ _
structure ExtOf (w:World) where
 to:World
 h:Ext w to
instance (w:World):Inhabited (ExtOf w):=⟨⟨w,Ext.refl w⟩⟩
section
variable {P:Program} {ops:Array Oper} {md:Region.Mode}
def Xz (P:Program) (R:Value->World->Prop):Result Next->Prop
 | .ok (.value u) w'=>R u w'
 | .ok .skip w'=>R undef w'
 | .ok (.enter f args) w'=>Calls P f args w' (fun e w''=>∃v,e= .returned v/\R v w'')
 | _=>False
def Xn (P:Program) (o:Oper) (a:Act) (w:World) (R:Value->World->Prop):Prop:=Xz P R ((execOp a.eval o).run P w)
def xOp (P:Program) (ops:Array Oper) (w0:World) (i:Nat) (K:Act->World->Prop) (a:Act) (w:World):Prop:=
 match ops[i]? with
 | none=>K a w
 | some o=>if Region.wanted o (yielded ops a.tmps) then Xn P o a w (fun v w''=>Ext w0 w''/\K (a.put o.dst v) w'') else K (a.put o.dst undef) w
theorem Y0 {R R':Value->World->Prop} (h:∀v w,R v w->R' v w) {r:Result Next} (hr:Xz P R r):Xz P R' r:=by
 cases r with
 | ok n w'=>
   cases n<;>simp only [Xz] at hr ⊢
   case value u=>exact h _ _ hr
   case skip=>exact h _ _ hr
   case enter f args=>exact hr.mono fun e w'' ⟨v,he,hv⟩=>⟨v,he,h _ _ hv⟩
 | halt x w'=>simp only [Xz] at hr
theorem Un {w0:World} {i:Nat} {K K':Act->World->Prop} {a:Act} {w:World} (h0:Ext w0 w) (h:∀a' w',Ext w0 w'->K a' w'->K' a' w') (hh:xOp P ops w0 i K a w):xOp P ops w0 i K' a w:=by
 unfold xOp at *
 split
 ·exact h _ _ h0 (by simpa [*] using hh)
 rename_i o ho
 simp only [ho] at hh
 split
 ·rename_i hw
  simp only [hw,if_true] at hh
  exact Y0 (fun v w'' ⟨h1,h2⟩=>⟨h1,h _ _ h1 h2⟩) hh
 rename_i hw
 simp only [hw] at hh
 exact h _ _ h0 hh
theorem Jr {w0:World} {i:Nat} {K:Act->World->Prop} {Q:Exit->Act->World->Prop} {a:Act} {w:World} (hh:xOp P ops w0 i K a w):wpOp P ops Q i K a w:=by
 unfold xOp at hh
 unfold wpOp
 split
 ·rename_i ho;simpa [ho] using hh
 rename_i o ho
 simp only [ho] at hh
 split
 ·rename_i hw
  simp only [hw,if_true] at hh
  refine .inl ?_
  unfold Oper.wp
  unfold Xn at hh
  generalize (execOp a.eval o).run P w=r at *
  cases r with
  | ok n w'=>
    cases n<;>simp only [Xz] at hh<;>simp only [Oper.upon]
    case value u=>exact hh.2
    case skip=>exact hh.2
    case enter f args=>exact hh.mono fun e w'' ⟨v,he,hv⟩=>by subst he;exact hv.2
  | halt x w'=>simp only [Xz] at hh
 rename_i hw
 simp only [hw] at hh
 exact hh
def wpX (P:Program) (md:Region.Mode) (ops:Array Oper) (w0:World) (n:Nat) (L:Array Bool->Act->World->Prop):Nat->Array Bool->Act->World->Prop
 | 0,listed,a,w=>∀w',Ext w0 w'->Ext w w'->L listed a w'
 | f+1,listed,a,w=>
   Region.ready md ops listed≠[]/\∀i∈Region.ready md ops listed,i<n/\∀w',Ext w0 w'->Ext w w'->xOp P ops w0 i (wpX P md ops w0 n L f (listed.setIfInBounds i true)) a w'
theorem Jo {w0:World} {n:Nat} {L:Array Bool->Act->World->Prop}:∀{f:Nat} {listed:Array Bool} {a:Act} {w w1:World},Ext w w1->wpX P md ops w0 n L f listed a w->wpX P md ops w0 n L f listed a w1
 | 0,_,_,_,_,h,H=>fun w' h0 h'=>H w' h0 (Ext.trans h h')
 | _+1,_,_,_,_,h,H=>⟨H.1,fun i hi=>⟨(H.2 i hi).1,fun w' h0 h'=>(H.2 i hi).2 w' h0 (Ext.trans h h')⟩⟩
theorem Xe {w0:World} {n g:Nat} {L:Array Bool->Act->World->Prop} {Q:Exit->Act->World->Prop} (hL:∀listed a w,L listed a w->wpAny P md ops Q g listed a w):
 ∀(f:Nat) (listed:Array Bool) (a:Act) (w:World),Ext w0 w->wpX P md ops w0 n L f listed a w->wpAny P md ops Q (f+g) listed a w
 | 0,listed,a,w,h0,h=>by rw [Nat.zero_add];exact hL _ _ _ (h w h0 (Ext.refl _))
 | f+1,listed,a,w,h0,h=>by
   rw [show f+1+g=(f+g)+1 by omega]
   exact ⟨fun e=>absurd e h.1,fun i hi=>wpOp_mono (fun a' w' ⟨h1,h2⟩=>Xe hL f _ a' w' h1 h2)
    (Jr (Un (K':=fun a' w'=>Ext w0 w'/\wpX P md ops w0 n L f (listed.setIfInBounds i true) a' w') h0 (fun _ _ h1 h2=>⟨h1,h2⟩) ((h.2 i hi).2 w h0 (Ext.refl _))))⟩
def Ya (P:Program) (ops:Array Oper) (w0:World) (o:Oper) (v:Value) (a:Act):Prop:=
 (Region.wanted o (yielded ops a.tmps)=true/\∀w',Ext w0 w'->Xn P o a w' (fun u w''=>u=v/\Ext w' w''))\/
 (Region.wanted o (yielded ops a.tmps)=false/\v=undef)
theorem Ya.of_same {w0:World} {o:Oper} {v:Value} {a a':Act} (hy:Ya P ops w0 o v a) (he:execOp a'.eval o=execOp a.eval o)
 (hw:Region.wanted o (yielded ops a'.tmps)=Region.wanted o (yielded ops a.tmps)):Ya P ops w0 o v a':=by
 unfold Ya Xn at *
 rw [he,hw]
 exact hy
theorem Ya.xOp {w0:World} {i:Nat} {o:Oper} {v:Value} {a:Act} {w:World} (hi:ops[i]? =some o) (hy:Ya P ops w0 o v a) (h0:Ext w0 w) {K:Act->World->Prop}
 (h:∀w',Ext w w'->K (a.put o.dst v) w'):xOp P ops w0 i K a w:=by
 unfold Rg.xOp
 simp only [hi]
 rcases hy with ⟨hw,hv⟩ | ⟨hw,rfl⟩
 ·simp only [hw,if_true]
  exact Y0 (fun u w'' ⟨e,hx⟩=>⟨Ext.trans h0 hx,by subst e;exact h _ hx⟩) (hv w h0)
 simp only [hw,Bool.false_eq_true,if_false]
 exact h _ (Ext.refl _)
theorem Zdc {w0:World} {j:Nat} {oi oj:Oper} {v:Value} (hj:ops[j]? =some oj) (hap:oi.apart ops oj=true)
 (hsi:∀cs b,oi.op≠ .select cs b) (hsj:∀cs b,oj.op≠ .select cs b) {K:Act->World->Prop} {a:Act} {w:World}
 (hy:Ya P ops w0 oi v a) (h:xOp P ops w0 j K (a.put oi.dst v) w):
 xOp P ops w0 j (fun a' w'=>Ya P ops w0 oi v a'/\K (a'.put oi.dst v) w') a w:=by
 obtain ⟨h1,h2,h3⟩:=Oper.apart_spec hap
 have keep:∀(a:Act),Ya P ops w0 oi v a->∀u,Ya P ops w0 oi v (a.put oj.dst u):=fun a hy u=>
  hy.of_same (execOp_put oi hsi a oj.dst u h3) (wanted_put oi a oj.dst u h3)
 unfold xOp at *
 simp only [hj] at *
 rw [wanted_put oj a oi.dst v h1] at h
 split
 ·rename_i hw
  simp only [hw,if_true] at h
  unfold Xn at *
  rw [execOp_put oj hsj a oi.dst v h1] at h
  exact Y0 (fun u w'' ⟨hx,hk⟩=>⟨hx,keep a hy u,by rw [<-Act.put_comm a v u h2];exact hk⟩) h
 rename_i hw
 simp only [hw] at h
 exact ⟨keep a hy _,by rw [<-Act.put_comm a v undef h2];exact h⟩
theorem Zaf {w0:World} {n i:Nat} {oi:Oper} {v:Value} {L:Array Bool->Act->World->Prop} (hi:ops[i]? =some oi) (hsel:∀(j:Nat) (o:Oper) cs b,ops[j]? =some o->o.op≠ .select cs b)
 (hs:Region.sinkB md ops n=true) (hc:Region.chainB md ops n=true) (hn:n<ops.size) (hin:i<n)
 (hdone:∀listed a w,L listed a w->∀j∈Region.ready md ops listed,n<=j):
 ∀(f:Nat) (listed:Array Bool) (a:Act) (w:World),Ext w0 w->HeadInv md ops n listed->
  (∀j oj,ops[j]? =some oj->j≠i->listed.getD j true=false->(∀e∈oj.after,Region.binds md e=true->e.on≠i)->oi.apart ops oj=true)->
  i∈Region.ready md ops listed->Ya P ops w0 oi v a->
  wpX P md ops w0 n L f (listed.setIfInBounds i true) (a.put oi.dst v) w->wpX P md ops w0 n L (f+1) listed a w:=by
 intro f
 induction f with
 | zero=>
   intro listed a w h0 inv _ hr hy H
   have hun:=(mem_ready.1 hr).1
   refine ⟨fun h=>(by rw [h] at hr;cases hr),fun j hj=> ?_⟩
   have hjn:j<n:=by
    rcases Nat.lt_or_ge j n with h | h
    ·exact h
    exact absurd hj (tail_waits hs hc hn inv _ i rfl hin hun j h)
   refine ⟨hjn,fun w' h0' hw'=> ?_⟩
   by_cases hji:j=i
   ·subst hji;exact hy.xOp hi h0' fun w'' hw''=>Jo (Ext.trans hw' hw'') H
   have:=hdone _ _ _ (H w h0 (Ext.refl _)) j (ready_mono hj hji)
   omega
 | succ f ih=>
   intro listed a w h0 inv hfree hr hy H
   have hun:=(mem_ready.1 hr).1
   refine ⟨fun h=>(by rw [h] at hr;cases hr),fun j hj=> ?_⟩
   have hjn:j<n:=by
    rcases Nat.lt_or_ge j n with h | h
    ·exact h
    exact absurd hj (tail_waits hs hc hn inv _ i rfl hin hun j h)
   refine ⟨hjn,fun w' h0' hw'=> ?_⟩
   by_cases hji:j=i
   ·subst hji;exact hy.xOp hi h0' fun w'' hw''=>Jo (Ext.trans hw' hw'') H
   have h1:=(H.2 j (ready_mono hj hji)).2 w' h0' hw'
   obtain ⟨hjun,oj,hoj,hall⟩:=mem_ready.1 hj
   have hnot:∀e∈oj.after,Region.binds md e=true->e.on≠i:=fun e he hb heq=>by
    have h1:=hall e he hb
    rw [heq,getD_both hun] at h1
    cases h1
   have h2:=Zdc hoj (hfree j oj hoj hji hjun hnot) (fun cs b=>hsel i oi cs b hi) (fun cs b=>hsel j oj cs b hoj) hy h1
   have hfree':∀k ok,ops[k]? =some ok->k≠i->(listed.setIfInBounds j true).getD k true=false->
    (∀e∈ok.after,Region.binds md e=true->e.on≠i)->oi.apart ops ok=true:=fun k ok hk hki hun hno=>by
    refine hfree k ok hk hki ?_ hno
    by_cases hjk:j=k
    ·subst hjk;exact hjun
    rw [getD_set_ne true hjk] at hun;exact hun
   refine Un h0' (fun a' w2 hx h3=>ih (listed.setIfInBounds j true) a' w2 hx (inv.set hj hjn) hfree' (ready_mono hr (Ne.symm hji)) h3.1 ?_) h2
   rw [Array.setIfInBounds_comm _ _ hji]
   exact h3.2
structure WaiterAt (P:Program) (g:FuncId) (k:Tmp) (fn:Func):Prop where
 hf:P.funcs[g]? =some fn
 hr:fn.results=#[.tmp k]
 hi:P.inits.idxOf? g=none
def Y2 (P:Program):Prop:=∃g k fn,WaiterAt P g k fn
def Zab (k:Tmp):Array Oper:=#[{ dst:=some k,op:= .move (.const undef),type:=0,pos:= "",after:=#[],guard:=none }]
theorem Zav {wg:FuncId} {wk:Tmp} {wfn:Func} (W:WaiterAt P wg wk wfn) {f:FuncId} {args:Array Value} {w:World} {R:Value->World->Prop}
 (h:Calls P f args w fun e w'=>∃v,e= .returned v/\R v w'):
 ∃n v w',R v w'/\runN P n (lone (Frame.enter P f args .normal)
  [({ (default:Frame) with fn:=wg,kind:= .normal }:Frame).at ⟨Array.replicate (wk+1) undef,[]⟩ [.inRegion (Zab wk) [0]]] w)= .ended (.done v) w':=by
 obtain ⟨e,w',fr,⟨v,he,hR⟩,hs,_,hl⟩:=h [({ (default:Frame) with fn:=wg,kind:= .normal }:Frame).at ⟨Array.replicate (wk+1) undef,[]⟩ [.inRegion (Zab wk) [0]]]
 subst he
 have s1:=step_leave_returned (c:=({ (default:Frame) with fn:=wg,kind:= .normal }:Frame).at ⟨Array.replicate (wk+1) undef,[]⟩ [.inRegion (Zab wk) [0]]) (cs:=[]) hl
 rw [Frame.finish_at] at s1
 have hd:((Zab wk)[0]?).bind (·.dst)=some wk:=rfl
 rw [hd] at s1
 obtain ⟨n,hn⟩:=Steps.trans hs (Steps.trans (.one s1) (Steps.trans (.one step_region_end) (.one step_end)))
 have hfin:=step_leave_done (P:=P) (w:=w') (v:=v)
  (fr:={ ({ (default:Frame) with fn:=wg,kind:= .normal }:Frame).at (Act.put ⟨Array.replicate (wk+1) undef,[]⟩ (some wk) v) [] with mode:= .returning })
  ⟨rfl,rfl,rfl,wfn,W.hf,by rw [results_tmp W.hr];simp [Frame.at,Act.put]⟩ W.hi
 exact ⟨n+1,v,w',hR,by rw [runN_add,hn];simp [runN,hfin]⟩
theorem Zc6 (W:Y2 P) {f:FuncId} {args:Array Value} {w:World} {R R':Value->World->Prop}
 (h:Calls P f args w fun e w'=>∃v,e= .returned v/\R v w') (h':Calls P f args w fun e w'=>∃v,e= .returned v/\R' v w'):
 ∃v w',R v w'/\R' v w':=by
 obtain ⟨_,_,_,W⟩:=W
 obtain ⟨n,v,w1,r1,e1⟩:=Zav W h
 obtain ⟨m,v',w2,r2,e2⟩:=Zav W h'
 have a:=runN_ended e1 m
 have b:=runN_ended e2 n
 rw [Nat.add_comm,a] at b
 injection b with ho hw
 injection ho with hv
 subst hv hw
 exact ⟨_,_,r1,r2⟩
abbrev Cls (w1:World):World->Prop:=fun w'=>∃p:ExtOf w1,w'=p.to
theorem Vm (W:Y2 P) {o:Oper} {a:Act} {C C':World->Prop} {w:World} {v v':Value} (h:o.quietAt P a C w v) (h':o.quietAt P a C' w v'):v'=v:=by
 unfold Oper.quietAt at h h'
 generalize (execOp a.eval o).run P w=r at *
 cases r with
 | ok n w2=>
   cases n<;>simp only [Oper.quietUpon] at h h'
   case value u=>exact h'.2.symm.trans h.2
   case skip=>exact h'.2.trans h.2.symm
   case enter f args=>
    obtain ⟨v2,_,e0,e1⟩:=Zc6 W (R:=fun u _=>u=v) (R':=fun u _=>u=v') (h.2.mono fun e w3 ⟨he,_⟩=>⟨v,he,rfl⟩) (h'.2.mono fun e w3 ⟨he,_⟩=>⟨v',he,rfl⟩)
    exact e1.symm.trans e0
 | halt x w2=>simp only [Oper.quietUpon] at h
theorem V3 (W:Y2 P) {w0:World} {o:Oper} {l:List Oper} {a:Act} {K:World->Act->Prop}
 (h:∀w1,Ext w0 w1->wpQuiet P ops (Cls w1) (K w1) (o::l) a):∃v,Ya P ops w0 o v a/\∀w1,Ext w0 w1->wpQuiet P ops (Cls w1) (K w1) l (a.put o.dst v):=by
 by_cases hw:Region.wanted o (yielded ops a.tmps)=true
 ·have h':∀w1,Ext w0 w1->o.quiet P a (Cls w1) (wpQuiet P ops (Cls w1) (K w1) l):=fun w1 hw1=>by
   have:=h w1 hw1
   unfold wpQuiet at this
   simpa only [hw,if_true] using this
  obtain ⟨v0,hv0,_⟩:=h' w0 (Ext.refl _)
  have hagree:∀w1,Ext w0 w1->o.quietAt P a (Cls w1) w1 v0/\wpQuiet P ops (Cls w1) (K w1) l (a.put o.dst v0):=fun w1 hw1=>by
   obtain ⟨v1,hv1,hk⟩:=h' w1 hw1
   have q1:=hv1 w1 ⟨⟨w1,Ext.refl _⟩,rfl⟩
   have:=Vm W (hv0 w1 ⟨⟨w1,hw1⟩,rfl⟩) q1
   subst this
   exact ⟨q1,hk⟩
  refine ⟨v0,.inl ⟨hw,fun w' hw'=> ?_⟩,fun w1 hw1=>(hagree w1 hw1).2⟩
  have q1:=(hagree w' hw').1
  unfold Oper.quietAt at q1
  unfold Xn
  generalize (execOp a.eval o).run P w'=r at *
  cases r with
  | ok n w2=>
    cases n<;>simp only [Oper.quietUpon] at q1<;>simp only [Xz]
    case value u=>obtain ⟨rfl,rfl⟩:=q1;exact ⟨rfl,Ext.refl _⟩
    case skip=>obtain ⟨rfl,rfl⟩:=q1;exact ⟨rfl,Ext.refl _⟩
    case enter f args=>
     obtain ⟨rfl,c1⟩:=q1
     exact c1.mono fun e w3 ⟨he,p,hp⟩=>⟨_,he,rfl,by rw [hp];exact p.h⟩
  | halt x w2=>simp only [Oper.quietUpon] at q1
 refine ⟨undef,.inr ⟨by simpa using hw,rfl⟩,fun w1 hw1=> ?_⟩
 have:=h w1 hw1
 unfold wpQuiet at this
 rwa [if_neg hw] at this
def Zk (es:List Nat):Nat->List Oper->List Oper
 | _,[]=>[]
 | k,o::l=>if es.contains k then Zk es (k+1) l else o::Zk es (k+1) l
def Yv (md:Region.Mode) (ops:Array Oper) (es:List Nat):Nat->Nat->Array Bool->Bool
 | 0,_,_=>true
 | f+1,k,listed=>if es.contains k then Yv md ops es f (k+1) listed
   else (Region.ready md ops listed).contains k&&Region.free md ops listed k&&Yv md ops es f (k+1) (listed.setIfInBounds k true)
def Z1 (es:List Nat):Nat->Nat->Array Bool->Array Bool
 | 0,_,listed=>listed
 | f+1,k,listed=>if es.contains k then Z1 es f (k+1) listed else Z1 es f (k+1) (listed.setIfInBounds k true)
def Zz (es:List Nat):Nat->Nat->Nat
 | 0,_=>0
 | f+1,k=>if es.contains k then Zz es f (k+1) else Zz es f (k+1)+1
theorem Xi (W:Y2 P) {w0:World} {n e:Nat} {L:Array Bool->Act->World->Prop} {es:List Nat} (hsel:Region.noSelect ops=true) (hs:Region.sinkB md ops n=true) (hc:Region.chainB md ops n=true) (hn:n<ops.size)
 (hdone:∀listed a w,L listed a w->∀j∈Region.ready md ops listed,n<=j):
 ∀(l:List Oper) (k:Nat) (listed:Array Bool) (a:Act) (w:World),(∀j,j<l.length->l[j]? =ops[k+j]?)->k+l.length=n->HeadInv md ops n listed->Ext w0 w->
 Yv md ops es l.length k listed=true->
 (∀w1,Ext w0 w1->wpQuiet P ops (Cls w1) (fun a'=>wpX P md ops w0 n L e (Z1 es l.length k listed) a' w1) (Zk es k l) a)->
 wpX P md ops w0 n L (Zz es l.length k+e) listed a w
 | [],k,listed,a,w,_,_,_,h0,_,h=>by
   have:=h w h0
   simp only [Zk,Z1,Zz,Nat.zero_add,List.length_nil] at this ⊢
   exact this
 | o::l,k,listed,a,w,hl,hk,inv,h0,hB,h=>by
   have ho:ops[k]? =some o:=by simpa using (hl 0 (by simp)).symm
   have hl':∀j,j<l.length->l[j]? =ops[k+1+j]? :=fun j hj=>by have:=hl (j+1) (by simp;omega);simpa [Nat.add_assoc,Nat.add_comm 1 j] using this
   have hk':k+1+l.length=n:=by simp only [List.length_cons] at hk;omega
   by_cases he:es.contains k=true
   ·simp only [List.length_cons,Yv,Zk,Z1,Zz,he,if_true] at hB h ⊢
    exact Xi W hsel hs hc hn hdone l (k+1) listed a w hl' hk' inv h0 hB h
   simp only [List.length_cons,Yv,Zk,Z1,Zz,he,if_false,Bool.and_eq_true,Bool.false_eq_true] at hB h ⊢
   obtain ⟨⟨hr,hf⟩,hB'⟩:=hB
   have hkn:k<n:=by omega
   have hr':k∈Region.ready md ops listed:=by simpa using hr
   obtain ⟨v,hy,hK⟩:=V3 W h
   have:=Xi W hsel hs hc hn hdone l (k+1) _ (a.put o.dst v) w hl' hk' (inv.set hr' hkn) h0 hB' hK
   rw [show Zz es l.length (k+1)+1+e=(Zz es l.length (k+1)+e)+1 by omega]
   exact Zaf ho (Region.noSelect_spec hsel) hs hc hn hkn hdone _ listed a w h0 inv (Region.free_spec ho hf) hr' hy this
def Yu (P:Program) (ops:Array Oper) (Q:Exit->Act->World->Prop) (n:Nat) (listed:Array Bool) (a:Act) (w:World):Prop:=
 Region.seqB .any ops (ops.size-n) n listed=true/\wpList P ops Q (ops.toList.drop n) a w
def Zgj (ops:Array Oper) (n:Nat) (es:List Nat):Bool:=
 Region.noSelect ops&&decide (n<ops.size)&&Region.sinkB .any ops n&&Region.chainB .any ops n&&Yv .any ops es n 0 (Array.replicate ops.size false)&&decide (Zz es n 0+es.length=n)
theorem Ui (W:Y2 P) {Q:Exit->Act->World->Prop} {a:Act} {w:World} {l:List Oper} (n:Nat) (es:List Nat) (hB:Zgj l.toArray n es=true)
 (h:∀w1,Ext w w1->wpQuiet P l.toArray (Cls w1) (fun a'=>wpX P .any l.toArray w n (Yu P l.toArray Q n) es.length (Z1 es n 0 (Array.replicate l.toArray.size false)) a' w1) (Zk es 0 (l.take n)) a):
 wpAny P .any l.toArray Q l.toArray.size (Array.replicate l.toArray.size false) a { w with drawn:=w.drawn+1 }:=by
 simp only [Zgj,Bool.and_eq_true,decide_eq_true_eq] at hB
 obtain ⟨⟨⟨⟨⟨hsel,hn⟩,hs⟩,hc⟩,hlex⟩,hnum⟩:=hB
 have hn':n<l.length:=by simpa using hn
 have htl:(l.take n).length=n:=by simp;omega
 have inv0:HeadInv .any l.toArray n (Array.replicate l.toArray.size false):=
  ⟨by simp,fun j oj _ hl=>(by rw [getD_replicate_false] at hl;cases hl),fun t _ ht=>getD_in (by simpa using ht) (getD_replicate_false _ _)⟩
 have H:=Xi (md:= .any) W (w0:=w) (L:=Yu P l.toArray Q n) (e:=es.length) (es:=es) hsel hs hc hn (fun listed a w hL=>seqB_ready hL.1) (l.take n) 0 (Array.replicate l.toArray.size false) a
  { w with drawn:=w.drawn+1 } (fun j hj=>by
    have hj':j<n:=by rw [htl] at hj;exact hj
    simp [hj']) (by simpa using htl) inv0 ((Ext.refl w).drew) (by rw [htl];exact hlex) (by rw [htl];exact h)
 rw [htl,hnum] at H
 have H2:=Xe (Q:=Q) (g:=l.toArray.size-n) (fun listed a' w' hL=>by
  have:=wpAny_of_seq (md:= .any) (ops:=l.toArray) (Q':=Q) (l.drop n) n listed a' w' (fun j=>by simp [List.getElem?_drop]) (by rw [show (l.drop n).length=l.toArray.size-n by simp];exact hL.1) (by simpa using hL.2)
  rwa [show (l.drop n).length=l.toArray.size-n by simp] at this) _ _ _ _ ((Ext.refl w).drew) H
 rw [show n+(l.toArray.size-n)=l.toArray.size by omega] at H2
 exact H2
theorem Zh (W:Y2 P) {id:Nat} {Q:Exit->Act->World->Prop} {a:Act} {w:World} {l:List Oper} (n:Nat) (es:List Nat) (hm:P.follows .mixedOrders=true) (hB:Zgj l.toArray n es=true)
 (h:∀w1,Ext w w1->wpQuiet P l.toArray (Cls w1) (fun a'=>wpX P .any l.toArray w n (Yu P l.toArray Q n) es.length (Z1 es n 0 (Array.replicate l.toArray.size false)) a' w1) (Zk es 0 (l.take n)) a):
 (Code.region id l.toArray true).wp P Q a w:=
 wp_region_any hm (Ui W n es hB h)
theorem Zj {n:Nat} {Q:Exit->Act->World->Prop} {listed:Array Bool} {l:List Oper} {a:Act} {w0 w:World} (hB:Region.seqB .any l.toArray (l.toArray.size-n) n listed=true)
 (h:∀w',Ext w0 w'->Ext w w'->wpList P l.toArray Q (l.drop n) a w'):wpX P .any l.toArray w0 n (Yu P l.toArray Q n) 0 listed a w:=
 fun w' h0 hw'=>⟨hB,by simpa using h w' h0 hw'⟩
theorem Vq {n f:Nat} {L:Array Bool->Act->World->Prop} {listed:Array Bool} {a:Act} {w0 w:World} (i:Nat) (o:Oper) (hr:Region.ready md ops listed=[i]) (hin:i<n) (ho:ops[i]? =some o)
 (hw:Region.wanted o (yielded ops a.tmps)=true) (h:∀w',Ext w0 w'->Ext w w'->Xn P o a w' (fun v w''=>Ext w0 w''/\wpX P md ops w0 n L f (listed.setIfInBounds i true) (a.put o.dst v) w'')):wpX P md ops w0 n L (f+1) listed a w:=by
 refine ⟨by rw [hr];simp,fun j hj=> ?_⟩
 rw [hr] at hj
 have:j=i:=by simpa using hj
 subst this
 exact ⟨hin,fun w' h0 hw'=>by unfold xOp;simp only [ho,hw,if_true];exact h w' h0 hw'⟩
theorem Za0 {n f:Nat} {L:Array Bool->Act->World->Prop} {listed:Array Bool} {a:Act} {w0 w:World} (i j:Nat) (oi oj:Oper) (hr:Region.ready md ops listed=[i,j]) (hin:i<n) (hjn:j<n) (hoi:ops[i]? =some oi) (hoj:ops[j]? =some oj)
 (hwi:Region.wanted oi (yielded ops a.tmps)=true) (hwj:Region.wanted oj (yielded ops a.tmps)=true)
 (hi:∀w',Ext w0 w'->Ext w w'->Xn P oi a w' (fun v w''=>Ext w0 w''/\wpX P md ops w0 n L f (listed.setIfInBounds i true) (a.put oi.dst v) w''))
 (hj:∀w',Ext w0 w'->Ext w w'->Xn P oj a w' (fun v w''=>Ext w0 w''/\wpX P md ops w0 n L f (listed.setIfInBounds j true) (a.put oj.dst v) w'')):wpX P md ops w0 n L (f+1) listed a w:=by
 refine ⟨by rw [hr];simp,fun k hk=> ?_⟩
 rw [hr] at hk
 rcases (by simpa using hk:k=i\/k=j) with rfl | rfl
 ·exact ⟨hin,fun w' h0 hw'=>by unfold xOp;simp only [hoi,hwi,if_true];exact hi w' h0 hw'⟩
 exact ⟨hjn,fun w' h0 hw'=>by unfold xOp;simp only [hoj,hwj,if_true];exact hj w' h0 hw'⟩
def Makes (P:Program) (o:Oper) (ob:Obj):Prop:=∀(a:Act) (w:World),(execOp a.eval o).run P w= .ok (.value (.pointer (some ⟨w.heap.size,0,none⟩))) (w.alloc ob)
theorem Zc (w:World) (ob:Obj):Ext w (w.alloc ob):=(Ext.refl w).alloc (Nat.le_refl _) ob
theorem Zb (w:World) (ob:Obj):(w.alloc ob).heap[w.heap.size]? =some ob:=by
 show (w.heap.push ob)[w.heap.size]? =_
 simp
theorem size_alloc (w:World) (ob:Obj):(w.alloc ob).heap.size=w.heap.size+1:=by
 show (w.heap.push ob).size=_
 simp
theorem Ext.block {w w':World} (h:Ext w w') {k:Nat} (hk:k<w.heap.size):w'.heap[k]? =w.heap[k]? :=Below.block h k hk
theorem Zg {w:World} {k:Nat} {ob:Obj} (h:w.heap[k]? =some ob):k<w.heap.size:=by
 rcases Nat.lt_or_ge k w.heap.size with h' | h'
 ·exact h'
 rw [Array.getElem?_eq_none h'] at h;cases h
theorem Ext.at {w w':World} (h:Ext w w') {k:Nat} {ob:Obj} (hk:w.heap[k]? =some ob):w'.heap[k]? =some ob:=(h.block (Zg hk)).trans hk
theorem Ub {n f:Nat} {L:Array Bool->Act->World->Prop} {listed:Array Bool} {a:Act} {w0 w:World} (i:Nat) (o:Oper) (ob:Obj) (hm:Makes P o ob) (hg:o.guard=none) (hr:Region.ready md ops listed=[i]) (hin:i<n) (ho:ops[i]? =some o)
 (h:∀(p:Nat) (w':World),Ext w0 w'->Ext w w'->w0.heap.size<=p->w.heap.size<=p->w'.heap[p]? =some ob->wpX P md ops w0 n L f (listed.setIfInBounds i true) (a.put o.dst (.pointer (some ⟨p,0,none⟩))) w'):wpX P md ops w0 n L (f+1) listed a w:=by
 refine Vq i o hr hin ho (by simp [Region.wanted,hg]) fun w' h0 hw'=> ?_
 unfold Xn
 rw [hm]
 exact ⟨Ext.trans h0 (Zc _ _),h w'.heap.size _ (Ext.trans h0 (Zc _ _)) (Ext.trans hw' (Zc _ _)) h0.size hw'.size (Zb _ _)⟩
theorem wpX_new2 {n f:Nat} {L:Array Bool->Act->World->Prop} {listed:Array Bool} {a:Act} {w0 w:World} (i j:Nat) (oi oj:Oper) (bi bj:Obj) (hmi:Makes P oi bi) (hmj:Makes P oj bj) (hgi:oi.guard=none) (hgj:oj.guard=none)
 (hr:Region.ready md ops listed=[i,j]) (hri:Region.ready md ops (listed.setIfInBounds i true)=[j]) (hrj:Region.ready md ops (listed.setIfInBounds j true)=[i]) (hin:i<n) (hjn:j<n) (hij:i≠j)
 (hoi:ops[i]? =some oi) (hoj:ops[j]? =some oj) (hd:∀d,oi.dst=some d->oj.dst≠some d)
 (h:∀(p q:Nat) (w':World),Ext w0 w'->Ext w w'->w0.heap.size<=p->w0.heap.size<=q->w.heap.size<=p->w.heap.size<=q->p≠q->w'.heap[p]? =some bi->w'.heap[q]? =some bj->
   wpX P md ops w0 n L f ((listed.setIfInBounds i true).setIfInBounds j true) ((a.put oi.dst (.pointer (some ⟨p,0,none⟩))).put oj.dst (.pointer (some ⟨q,0,none⟩))) w'):wpX P md ops w0 n L (f+2) listed a w:=by
 refine Za0 i j oi oj hr hin hjn hoi hoj (by simp [Region.wanted,hgi]) (by simp [Region.wanted,hgj]) (fun w' h0 hw'=> ?_) (fun w' h0 hw'=> ?_)
 ·unfold Xn
  rw [hmi]
  have e1:=Zc w' bi
  refine ⟨Ext.trans h0 e1,Ub j oj bj hmj hgj hri hjn hoj fun q w2 h02 hw2 hq0 hq hqb=> ?_⟩
  have hb:=hw2.at (Zb w' bi)
  have hs:=size_alloc w' bi
  exact h _ _ w2 h02 (Ext.trans (Ext.trans hw' e1) hw2) h0.size hq0 hw'.size (by have:=hw'.size;omega) (by omega) hb hqb
 unfold Xn
 rw [hmj]
 have e1:=Zc w' bj
 refine ⟨Ext.trans h0 e1,Ub i oi bi hmi hgi hrj hin hoi fun p w2 h02 hw2 hp0 hp hpb=> ?_⟩
 have hb:=hw2.at (Zb w' bj)
 have hs:=size_alloc w' bj
 have:=h p w'.heap.size w2 h02 (Ext.trans (Ext.trans hw' e1) hw2) hp0 h0.size (by have:=hw'.size;omega) hw'.size (by omega) hpb hb
 rw [Array.setIfInBounds_comm _ _ (Ne.symm hij),<-Act.put_comm a _ _ hd]
 exact this
theorem Z3 {n f:Nat} {L:Array Bool->Act->World->Prop} {listed:Array Bool} {a:Act} {w0 w:World} (i:Nat) (o:Oper) (ty:TypeId) (x y:Operand) (hop:o.op= .store ty x y) (hg:o.guard=none) (hd:o.dst=none)
 (hr:Region.ready md ops listed=[i]) (hin:i<n) (ho:ops[i]? =some o) (g:Nat) (cells:Array Value) (hx:a.eval x= .pointer (some ⟨g,0,none⟩)) (hy:a.eval y= .agg cells)
 (t:TypeId) (old:Array Value) (hi:(P.info? ty).map (·.size)=some cells.size) (hold:old.size=cells.size) (h1:cells.toList.all (·.oneCell')=true) (hgw:w.heap[g]? =some (.cells old t (0,0))) (hg0:w0.heap.size<=g)
 (h:∀w':World,Ext w0 w'->(∀k ob,k≠g->w.heap[k]? =some ob->w'.heap[k]? =some ob)->w'.heap[g]? =some (.cells cells t (0,0))->wpX P md ops w0 n L f (listed.setIfInBounds i true) a w'):wpX P md ops w0 n L (f+1) listed a w:=by
 refine Vq i o hr hin ho (by simp [Region.wanted,hg]) fun w' h0 hw'=> ?_
 have hgw':=hw'.at hgw
 unfold Xn execOp
 simp only [hop,hx,hy,Instr.storeAt,Instr.sureAddr,Sem.run_bind,Sem.run_pure,Result.andThen_ok,run_storeVar_row w' g t ty old cells hgw' hi hold (by rw [<-Array.all_toList];exact h1),Xz]
 have e0:Ext w0 (w'.setRow g cells):=below_setRow h0 hg0 cells
 refine ⟨e0,?_⟩
 rw [hd]
 exact h _ e0 (fun k ob hk hb=>by rw [setRow_other _ _ _ _ hk];exact hw'.at hb) (setRow_heap _ _ _ _ _ _ hgw')
theorem Ze {Q:Exit->Act->World->Prop} {rest:List Oper} {o:Oper} {a:Act} {w:World} (hgd:o.guard=none) (hd:o.dst=none) (ty:TypeId) (x y:Operand) (hop:o.op= .store ty x y)
 (g:Nat) (cells:Array Value) (hx:a.eval x= .pointer (some ⟨g,0,none⟩)) (hy:a.eval y= .agg cells)
 (t:TypeId) (old:Array Value) (hg:w.heap[g]? =some (.cells old t (0,0))) (hi:(P.info? ty).map (·.size)=some cells.size) (hold:old.size=cells.size) (h1:cells.toList.all (·.oneCell')=true)
 (h:∀w':World,(∀B w0,B<=g->Below B w0 w->Below B w0 w')->(∀k,k≠g->w'.heap[k]? =w.heap[k]?)->w'.heap[g]? =some (.cells cells t (0,0))->wpList P ops Q rest a w'):wpList P ops Q (o::rest) a w:=
 wpList_plain hgd fun K hK=>wp_store_row ty x y hop g cells hx hy t old hg hi hold (by rw [<-Array.all_toList];exact h1) (by
  rw [hd]
  exact hK _ _ (h _ (fun B w0 hB hb=>below_setRow hb hB cells) (fun k hk=>setRow_other _ _ _ _ hk) (setRow_heap _ _ _ _ _ _ hg)))
theorem Za {w:World} {p j:Nat} {cs:Array Value} {t:TypeId} {fr:Nat×Nat} {v:Value} (h:w.heap[p]? =some (.cells cs t fr)) (hv:cs[j]? =some v):w.cell? ⟨p,j,none⟩=some v:=by
 rw [cell_of_row w p j cs t fr h];exact hv
theorem Yp {fn:Func} {R:Ending->World->Prop} {a:Act} {w:World} {p:Tmp} {ty:TypeId} (g:Nat) (t:TypeId) (cs:Array Value) (fr:Nat×Nat) (d:TypeDesc) (hres:fn.results=#[.cell p ty]) (hp:a.tmps.getD p undef= .pointer (some ⟨g,0,none⟩))
 (hg:w.heap[g]? =some (.cells cs t fr)) (hu:P.underlying ty=some d) (hd:(match d with | .struct _ | .array _ _=>true | _=>false)=true) (hi:(P.info? ty).map (·.size)=some cs.size) (hdef:a.defers=[])
 (hR:R (.returned (.agg cs)) w):bodyPost P fn R .ret a w:=
 bodyPost_ret (results_cell_row hres a.tmps w g t cs fr d hp hg hu hd hi) hdef hR
end
theorem hsB:(∀(α:Type) (a:α) (l:List α) (i:Nat),(a::l).take (i+1)=a::l.take i)/\(∀(α:Type) (l:List α),l.take 0=[])/\(∀(α:Type) (a:α) (l:List α) (i:Nat),(a::l).drop (i+1)=l.drop i)/\(∀(α:Type) (l:List α),l.drop 0=l)/\
 (∀(a b:Nat) (l:List Nat),(b::l).contains a=(a==b||l.contains a))/\(∀a:Nat,([]:List Nat).contains a=false)/\(∀b:Bool,(b||false)=b)/\((false=true)=False)/\(∀b:Bool,(b||true)=true)/\(∀b:Bool,(true||b)=true)/\(∀b:Bool,(b||b)=b):=
 ⟨fun _ _ _ _=>rfl,fun _ _=>rfl,fun _ _ _ _=>rfl,fun _ _=>rfl,fun _ _ _=>List.contains_cons,fun _=>rfl,Bool.or_false,by simp,Bool.or_true,Bool.true_or,Bool.or_self⟩
theorem puB:(∀(l:List Value) (i:Nat) (v:Value),l.toArray.setIfInBounds i v=(l.set i v).toArray)/\(∀(x v:Value) (l:List Value),(x::l).set 0 v=v::l)/\(∀(x v:Value) (l:List Value) (i:Nat),(x::l).set (i+1) v=x::l.set i v)/\
 (∀(o:Oper) (l:List Oper) (i:Nat),(o::l).drop (i+1)=l.drop i)/\(∀l:List Oper,l.drop 0=l):=
 ⟨fun _ _ _=>by simp,fun _ _ _=>rfl,fun _ _ _ _=>rfl,fun _ _ _=>rfl,fun _=>rfl⟩
structure Keep (S:List Nat) (w w':World):Prop where
 os:w'.os=w.os
 tape:w'.tape=w.tape
 output:w'.output=w.output
 size:w.heap.size<=w'.heap.size
 block:∀k,k<w.heap.size->k∉S->w'.heap[k]? =w.heap[k]?
theorem Keep.refl (S:List Nat) (w:World):Keep S w w:=⟨rfl,rfl,rfl,Nat.le_refl _,fun _ _ _=>rfl⟩
theorem Keep.trans {S:List Nat} {a b c:World} (h:Keep S a b) (k:Keep S b c):Keep S a c:=
 ⟨k.os.trans h.os,k.tape.trans h.tape,k.output.trans h.output,Nat.le_trans h.size k.size,fun i hi hn=>(k.block i (Nat.lt_of_lt_of_le hi h.size) hn).trans (h.block i hi hn)⟩
theorem Keep.mono {S T:List Nat} {a b:World} (h:Keep S a b) (hs:∀x∈S,x∈T):Keep T a b:=
 ⟨h.os,h.tape,h.output,h.size,fun i hi hn=>h.block i hi (fun hx=>hn (hs i hx))⟩
theorem Keep.of_ext {S:List Nat} {a b:World} (h:Ext a b):Keep S a b:=⟨h.os,h.tape,h.output,h.size,fun _ hi _=>h.block hi⟩
theorem Keep.ext {a b:World} (h:Keep [] a b):Ext a b:=⟨h.os,h.tape,h.output,h.size,fun i hi=>h.block i hi (by simp)⟩
theorem Keep.at {S:List Nat} {a b:World} (h:Keep S a b) {k:Nat} {ob:Obj} (hk:a.heap[k]? =some ob) (hn:k∉S):b.heap[k]? =some ob:=(h.block k (Zg hk) hn).trans hk
theorem Keep.trans_fresh {S T:List Nat} {a b c:World} (h:Keep S a b) (k:Keep T b c) (hs:∀x∈T,x∈S\/a.heap.size<=x):Keep S a c:=
 ⟨k.os.trans h.os,k.tape.trans h.tape,k.output.trans h.output,Nat.le_trans h.size k.size,fun i hi hn=>(k.block i (Nat.lt_of_lt_of_le hi h.size) (fun hx=>by
  rcases hs i hx with h1 | h1
  ·exact hn h1
  omega)).trans (h.block i hi hn)⟩
theorem Keep.setCell {S:List Nat} {a w:World} (h:Keep S a w) {p:Addr} (hp:p.block∈S\/a.heap.size<=p.block) (v:Value):Keep S a (w.setCell p v):=
 h.trans_fresh (T:=[p.block]) ⟨rfl,rfl,rfl,by simp [World.setCell],fun k _ hn=>Below.heap_setCell _ _ _ _ (by simpa using hn)⟩ (fun x hx=>by
  have:x=p.block:=by simpa using hx
  subst this
  exact hp)
structure KeepOf (S:List Nat) (w:World) where
 to:World
 h:Keep S w to
instance (S:List Nat) (w:World):Inhabited (KeepOf S w):=⟨⟨w,Keep.refl S w⟩⟩
abbrev U9 (S:List Nat) (w1:World):World->Prop:=fun w'=>∃p:KeepOf S w1,w'=p.to
def Za2:Op->Bool
 | .move _ | .assign _ | .load .. | .fieldAddr .. | .indexAddr .. | .build .. | .binOp .. | .convert .. | .field .. | .extract .. | .nilCheck _=>true
 | _=>false
theorem Zds {P:Program} (s:Sem Value) (w:World) (g:FuncId) (args:Array Value) (w':World):(do pure (Next.value (<-s)):Sem Next).run P w≠ .ok (.enter g args) w':=by
 rw [Sem.run_bind]
 cases s.run P w with
 | ok u w2=>simp [Result.andThen]
 | halt x w2=>simp [Result.andThen]
theorem not_enter {P:Program} {ρ:Operand->Value} {o:Oper} (h:Za2 o.op=true) (w:World) (g:FuncId) (args:Array Value) (w':World):(execOp ρ o).run P w≠ .ok (.enter g args) w':=by
 unfold execOp
 cases ho:o.op<;>rw [ho] at h<;>simp only [Za2,Bool.false_eq_true] at h<;>simp only
 case move x=>simp
 case assign x=>simp
 case nilCheck x=>
  split
  ·simp [runtimePanic]
  ·simp [runtimePanic]
  ·simp [runtimePanic]
  ·split
   ·simp [runtimePanic]
   ·rename_i t w2 _
    intro hh
    rw [Sem.run_bind] at hh
    generalize (program:Sem Program).run P w=r0 at hh
    cases r0 with
    | halt x w3=>simp [Result.andThen] at hh
    | ok u w3=>
      simp only [Result.andThen] at hh
      rw [Sem.run_bind] at hh
      generalize (Sem.run P _ w3:Result (Option Bool))=r1 at hh
      cases r1 with
      | halt x w4=>simp [Result.andThen] at hh
      | ok u2 w4=>
        simp only [Result.andThen] at hh
        split at hh
        ·simp [Result.andThen,unsupported] at hh
        simp at hh
   simp
  simp
 all_goals exact Zds _ w g args w'
theorem puC:(∀(l:List Oper) (i:Nat) (h:i<l.toArray.size),l.toArray[i]'h=l[i]'(by simpa using h))/\(∀(o:Oper) (l:List Oper) (i:Nat) (h:i+1<(o::l).length),(o::l)[i+1]'h=l[i]'(Nat.lt_of_succ_lt_succ h))/\(∀(o:Oper) (l:List Oper) (h:0<(o::l).length),(o::l)[0]'h=o):=
 ⟨fun _ _ _=>by simp,fun _ _ _ _=>rfl,fun _ _ _=>rfl⟩
theorem Xt {a b c:World} (h:Ext a b) (k:Ext b c):Ext a c:=Ext.trans h k
theorem Kx {S:List Nat} {a b:World} (h:Ext a b):Keep S a b:=Keep.of_ext h
end Go.Rg
namespace Go.RgK
open Go.RowKit Go.Rg
section
variable {S:List Nat} {P:Program} {ops:Array Oper} {md:Region.Mode}
def xOp (S:List Nat) (P:Program) (ops:Array Oper) (w0:World) (i:Nat) (K:Act->World->Prop) (a:Act) (w:World):Prop:=
 match ops[i]? with
 | none=>K a w
 | some o=>if Region.wanted o (yielded ops a.tmps) then Xn P o a w (fun v w''=>Keep S w0 w''/\K (a.put o.dst v) w'') else K (a.put o.dst undef) w
theorem Y0 {R R':Value->World->Prop} (h:∀v w,R v w->R' v w) {r:Result Next} (hr:Xz P R r):Xz P R' r:=by
 cases r with
 | ok n w'=>
   cases n<;>simp only [Xz] at hr ⊢
   case value u=>exact h _ _ hr
   case skip=>exact h _ _ hr
   case enter f args=>exact hr.mono fun e w'' ⟨v,he,hv⟩=>⟨v,he,h _ _ hv⟩
 | halt x w'=>simp only [Xz] at hr
theorem Un {w0:World} {i:Nat} {K K':Act->World->Prop} {a:Act} {w:World} (h0:Keep S w0 w) (h:∀a' w',Keep S w0 w'->K a' w'->K' a' w') (hh:xOp S P ops w0 i K a w):xOp S P ops w0 i K' a w:=by
 unfold xOp at *
 split
 ·exact h _ _ h0 (by simpa [*] using hh)
 rename_i o ho
 simp only [ho] at hh
 split
 ·rename_i hw
  simp only [hw,if_true] at hh
  exact Y0 (fun v w'' ⟨h1,h2⟩=>⟨h1,h _ _ h1 h2⟩) hh
 rename_i hw
 simp only [hw] at hh
 exact h _ _ h0 hh
theorem Jr {w0:World} {i:Nat} {K:Act->World->Prop} {Q:Exit->Act->World->Prop} {a:Act} {w:World} (hh:xOp S P ops w0 i K a w):wpOp P ops Q i K a w:=by
 unfold xOp at hh
 unfold wpOp
 split
 ·rename_i ho;simpa [ho] using hh
 rename_i o ho
 simp only [ho] at hh
 split
 ·rename_i hw
  simp only [hw,if_true] at hh
  refine .inl ?_
  unfold Oper.wp
  unfold Xn at hh
  generalize (execOp a.eval o).run P w=r at *
  cases r with
  | ok n w'=>
    cases n<;>simp only [Xz] at hh<;>simp only [Oper.upon]
    case value u=>exact hh.2
    case skip=>exact hh.2
    case enter f args=>exact hh.mono fun e w'' ⟨v,he,hv⟩=>by subst he;exact hv.2
  | halt x w'=>simp only [Xz] at hh
 rename_i hw
 simp only [hw] at hh
 exact hh
def wpX (S:List Nat) (P:Program) (md:Region.Mode) (ops:Array Oper) (w0:World) (n:Nat) (L:Array Bool->Act->World->Prop):Nat->Array Bool->Act->World->Prop
 | 0,listed,a,w=>∀w',Keep S w0 w'->Ext w w'->L listed a w'
 | f+1,listed,a,w=>
   Region.ready md ops listed≠[]/\∀i∈Region.ready md ops listed,i<n/\∀w',Keep S w0 w'->Ext w w'->xOp S P ops w0 i (wpX S P md ops w0 n L f (listed.setIfInBounds i true)) a w'
theorem Jo {w0:World} {n:Nat} {L:Array Bool->Act->World->Prop}:∀{f:Nat} {listed:Array Bool} {a:Act} {w w1:World},Ext w w1->wpX S P md ops w0 n L f listed a w->wpX S P md ops w0 n L f listed a w1
 | 0,_,_,_,_,h,H=>fun w' h0 h'=>H w' h0 (Ext.trans h h')
 | _+1,_,_,_,_,h,H=>⟨H.1,fun i hi=>⟨(H.2 i hi).1,fun w' h0 h'=>(H.2 i hi).2 w' h0 (Ext.trans h h')⟩⟩
theorem Xe {w0:World} {n g:Nat} {L:Array Bool->Act->World->Prop} {Q:Exit->Act->World->Prop} (hL:∀listed a w,L listed a w->wpAny P md ops Q g listed a w):
 ∀(f:Nat) (listed:Array Bool) (a:Act) (w:World),Keep S w0 w->wpX S P md ops w0 n L f listed a w->wpAny P md ops Q (f+g) listed a w
 | 0,listed,a,w,h0,h=>by rw [Nat.zero_add];exact hL _ _ _ (h w h0 (Ext.refl _))
 | f+1,listed,a,w,h0,h=>by
   rw [show f+1+g=(f+g)+1 by omega]
   exact ⟨fun e=>absurd e h.1,fun i hi=>wpOp_mono (fun a' w' ⟨h1,h2⟩=>Xe hL f _ a' w' h1 h2)
    (Jr (Un (K':=fun a' w'=>Keep S w0 w'/\wpX S P md ops w0 n L f (listed.setIfInBounds i true) a' w') h0 (fun _ _ h1 h2=>⟨h1,h2⟩) ((h.2 i hi).2 w h0 (Ext.refl _))))⟩
def Ya (S:List Nat) (P:Program) (ops:Array Oper) (w0:World) (o:Oper) (v:Value) (a:Act):Prop:=
 (Region.wanted o (yielded ops a.tmps)=true/\∀w',Keep S w0 w'->Xn P o a w' (fun u w''=>u=v/\Ext w' w''))\/
 (Region.wanted o (yielded ops a.tmps)=false/\v=undef)
theorem Ya.of_same {w0:World} {o:Oper} {v:Value} {a a':Act} (hy:Ya S P ops w0 o v a) (he:execOp a'.eval o=execOp a.eval o)
 (hw:Region.wanted o (yielded ops a'.tmps)=Region.wanted o (yielded ops a.tmps)):Ya S P ops w0 o v a':=by
 unfold Ya Xn at *
 rw [he,hw]
 exact hy
theorem Ya.xOp {w0:World} {i:Nat} {o:Oper} {v:Value} {a:Act} {w:World} (hi:ops[i]? =some o) (hy:Ya S P ops w0 o v a) (h0:Keep S w0 w) {K:Act->World->Prop}
 (h:∀w',Ext w w'->K (a.put o.dst v) w'):xOp S P ops w0 i K a w:=by
 unfold RgK.xOp
 simp only [hi]
 rcases hy with ⟨hw,hv⟩ | ⟨hw,rfl⟩
 ·simp only [hw,if_true]
  exact Y0 (fun u w'' ⟨e,hx⟩=>⟨h0.trans (Keep.of_ext hx),by subst e;exact h _ hx⟩) (hv w h0)
 simp only [hw,Bool.false_eq_true,if_false]
 exact h _ (Ext.refl _)
theorem Zdc {w0:World} {j:Nat} {oi oj:Oper} {v:Value} (hj:ops[j]? =some oj) (hap:oi.apart ops oj=true)
 (hsi:∀cs b,oi.op≠ .select cs b) (hsj:∀cs b,oj.op≠ .select cs b) {K:Act->World->Prop} {a:Act} {w:World}
 (hy:Ya S P ops w0 oi v a) (h:xOp S P ops w0 j K (a.put oi.dst v) w):
 xOp S P ops w0 j (fun a' w'=>Ya S P ops w0 oi v a'/\K (a'.put oi.dst v) w') a w:=by
 obtain ⟨h1,h2,h3⟩:=Oper.apart_spec hap
 have keep:∀(a:Act),Ya S P ops w0 oi v a->∀u,Ya S P ops w0 oi v (a.put oj.dst u):=fun a hy u=>
  hy.of_same (execOp_put oi hsi a oj.dst u h3) (wanted_put oi a oj.dst u h3)
 unfold xOp at *
 simp only [hj] at *
 rw [wanted_put oj a oi.dst v h1] at h
 split
 ·rename_i hw
  simp only [hw,if_true] at h
  unfold Xn at *
  rw [execOp_put oj hsj a oi.dst v h1] at h
  exact Y0 (fun u w'' ⟨hx,hk⟩=>⟨hx,keep a hy u,by rw [<-Act.put_comm a v u h2];exact hk⟩) h
 rename_i hw
 simp only [hw] at h
 exact ⟨keep a hy _,by rw [<-Act.put_comm a v undef h2];exact h⟩
theorem Zaf {w0:World} {n i:Nat} {oi:Oper} {v:Value} {L:Array Bool->Act->World->Prop} (hi:ops[i]? =some oi) (hsel:∀(j:Nat) (o:Oper) cs b,ops[j]? =some o->o.op≠ .select cs b)
 (hs:Region.sinkB md ops n=true) (hc:Region.chainB md ops n=true) (hn:n<ops.size) (hin:i<n)
 (hdone:∀listed a w,L listed a w->∀j∈Region.ready md ops listed,n<=j):
 ∀(f:Nat) (listed:Array Bool) (a:Act) (w:World),Keep S w0 w->HeadInv md ops n listed->
  (∀j oj,ops[j]? =some oj->j≠i->listed.getD j true=false->(∀e∈oj.after,Region.binds md e=true->e.on≠i)->oi.apart ops oj=true)->
  i∈Region.ready md ops listed->Ya S P ops w0 oi v a->
  wpX S P md ops w0 n L f (listed.setIfInBounds i true) (a.put oi.dst v) w->wpX S P md ops w0 n L (f+1) listed a w:=by
 intro f
 induction f with
 | zero=>
   intro listed a w h0 inv _ hr hy H
   have hun:=(mem_ready.1 hr).1
   refine ⟨fun h=>(by rw [h] at hr;cases hr),fun j hj=> ?_⟩
   have hjn:j<n:=by
    rcases Nat.lt_or_ge j n with h | h
    ·exact h
    exact absurd hj (tail_waits hs hc hn inv _ i rfl hin hun j h)
   refine ⟨hjn,fun w' h0' hw'=> ?_⟩
   by_cases hji:j=i
   ·subst hji;exact hy.xOp hi h0' fun w'' hw''=>Jo (Ext.trans hw' hw'') H
   have:=hdone _ _ _ (H w h0 (Ext.refl _)) j (ready_mono hj hji)
   omega
 | succ f ih=>
   intro listed a w h0 inv hfree hr hy H
   have hun:=(mem_ready.1 hr).1
   refine ⟨fun h=>(by rw [h] at hr;cases hr),fun j hj=> ?_⟩
   have hjn:j<n:=by
    rcases Nat.lt_or_ge j n with h | h
    ·exact h
    exact absurd hj (tail_waits hs hc hn inv _ i rfl hin hun j h)
   refine ⟨hjn,fun w' h0' hw'=> ?_⟩
   by_cases hji:j=i
   ·subst hji;exact hy.xOp hi h0' fun w'' hw''=>Jo (Ext.trans hw' hw'') H
   have h1:=(H.2 j (ready_mono hj hji)).2 w' h0' hw'
   obtain ⟨hjun,oj,hoj,hall⟩:=mem_ready.1 hj
   have hnot:∀e∈oj.after,Region.binds md e=true->e.on≠i:=fun e he hb heq=>by
    have h1:=hall e he hb
    rw [heq,getD_both hun] at h1
    cases h1
   have h2:=Zdc hoj (hfree j oj hoj hji hjun hnot) (fun cs b=>hsel i oi cs b hi) (fun cs b=>hsel j oj cs b hoj) hy h1
   have hfree':∀k ok,ops[k]? =some ok->k≠i->(listed.setIfInBounds j true).getD k true=false->
    (∀e∈ok.after,Region.binds md e=true->e.on≠i)->oi.apart ops ok=true:=fun k ok hk hki hun hno=>by
    refine hfree k ok hk hki ?_ hno
    by_cases hjk:j=k
    ·subst hjk;exact hjun
    rw [getD_set_ne true hjk] at hun;exact hun
   refine Un h0' (fun a' w2 hx h3=>ih (listed.setIfInBounds j true) a' w2 hx (inv.set hj hjn) hfree' (ready_mono hr (Ne.symm hji)) h3.1 ?_) h2
   rw [Array.setIfInBounds_comm _ _ hji]
   exact h3.2
theorem V3 (W:Y2 P) {w0:World} {o:Oper} {l:List Oper} {a:Act} {K:World->Act->Prop} (hp:Za2 o.op=true)
 (h:∀w1,Keep S w0 w1->wpQuiet P ops (U9 S w1) (K w1) (o::l) a):∃v,Ya S P ops w0 o v a/\∀w1,Keep S w0 w1->wpQuiet P ops (U9 S w1) (K w1) l (a.put o.dst v):=by
 by_cases hw:Region.wanted o (yielded ops a.tmps)=true
 ·have h':∀w1,Keep S w0 w1->o.quiet P a (U9 S w1) (wpQuiet P ops (U9 S w1) (K w1) l):=fun w1 hw1=>by
   have:=h w1 hw1
   unfold wpQuiet at this
   simpa only [hw,if_true] using this
  obtain ⟨v0,hv0,_⟩:=h' w0 (Keep.refl S _)
  have hagree:∀w1,Keep S w0 w1->o.quietAt P a (U9 S w1) w1 v0/\wpQuiet P ops (U9 S w1) (K w1) l (a.put o.dst v0):=fun w1 hw1=>by
   obtain ⟨v1,hv1,hk⟩:=h' w1 hw1
   have q1:=hv1 w1 ⟨⟨w1,Keep.refl S _⟩,rfl⟩
   have:=Vm W (hv0 w1 ⟨⟨w1,hw1⟩,rfl⟩) q1
   subst this
   exact ⟨q1,hk⟩
  refine ⟨v0,.inl ⟨hw,fun w' hw'=> ?_⟩,fun w1 hw1=>(hagree w1 hw1).2⟩
  have q1:=(hagree w' hw').1
  unfold Oper.quietAt at q1
  unfold Xn
  generalize hr:(execOp a.eval o).run P w'=r at *
  cases r with
  | ok n w2=>
    cases n<;>simp only [Oper.quietUpon] at q1<;>simp only [Xz]
    case value u=>obtain ⟨rfl,rfl⟩:=q1;exact ⟨rfl,Ext.refl _⟩
    case skip=>obtain ⟨rfl,rfl⟩:=q1;exact ⟨rfl,Ext.refl _⟩
    case enter f args=>exact absurd hr (not_enter hp _ _ _ _)
  | halt x w2=>simp only [Oper.quietUpon] at q1
 refine ⟨undef,.inr ⟨by simpa using hw,rfl⟩,fun w1 hw1=> ?_⟩
 have:=h w1 hw1
 unfold wpQuiet at this
 rwa [if_neg hw] at this
theorem Xi (W:Y2 P) {w0:World} {n e:Nat} {L:Array Bool->Act->World->Prop} {es:List Nat} (hsel:Region.noSelect ops=true) (hs:Region.sinkB md ops n=true) (hc:Region.chainB md ops n=true) (hn:n<ops.size)
 (hdone:∀listed a w,L listed a w->∀j∈Region.ready md ops listed,n<=j):
 ∀(l:List Oper) (k:Nat) (listed:Array Bool) (a:Act) (w:World),(∀j,j<l.length->l[j]? =ops[k+j]?)->k+l.length=n->HeadInv md ops n listed->Keep S w0 w->Ext w0 w->
 Yv md ops es l.length k listed=true->(Zk es k l).all (fun o=>Za2 o.op)=true->
 (∀w1,Keep S w0 w1->wpQuiet P ops (U9 S w1) (fun a'=>Ext w0 w1->wpX S P md ops w0 n L e (Z1 es l.length k listed) a' w1) (Zk es k l) a)->
 wpX S P md ops w0 n L (Zz es l.length k+e) listed a w
 | [],k,listed,a,w,_,_,_,h0,hx,_,_,h=>by
   have:=h w h0
   simp only [Zk,Z1,Zz,Nat.zero_add,List.length_nil] at this ⊢
   exact this hx
 | o::l,k,listed,a,w,hl,hk,inv,h0,hx,hB,hpl,h=>by
   have ho:ops[k]? =some o:=by simpa using (hl 0 (by simp)).symm
   have hl':∀j,j<l.length->l[j]? =ops[k+1+j]? :=fun j hj=>by have:=hl (j+1) (by simp;omega);simpa [Nat.add_assoc,Nat.add_comm 1 j] using this
   have hk':k+1+l.length=n:=by simp only [List.length_cons] at hk;omega
   by_cases he:es.contains k=true
   ·simp only [List.length_cons,Yv,Zk,Z1,Zz,he,if_true] at hB hpl h ⊢
    exact Xi W hsel hs hc hn hdone l (k+1) listed a w hl' hk' inv h0 hx hB hpl h
   simp only [List.length_cons,Yv,Zk,Z1,Zz,he,if_false,Bool.and_eq_true,Bool.false_eq_true,List.all_cons] at hB hpl h ⊢
   obtain ⟨⟨hr,hf⟩,hB'⟩:=hB
   have hkn:k<n:=by omega
   have hr':k∈Region.ready md ops listed:=by simpa using hr
   obtain ⟨v,hy,hK⟩:=V3 W hpl.1 h
   have:=Xi W hsel hs hc hn hdone l (k+1) _ (a.put o.dst v) w hl' hk' (inv.set hr' hkn) h0 hx hB' hpl.2 hK
   rw [show Zz es l.length (k+1)+1+e=(Zz es l.length (k+1)+e)+1 by omega]
   exact Zaf ho (Region.noSelect_spec hsel) hs hc hn hkn hdone _ listed a w h0 inv (Region.free_spec ho hf) hr' hy this
theorem Ui (S:List Nat) (W:Y2 P) {Q:Exit->Act->World->Prop} {a:Act} {w:World} {l:List Oper} (n:Nat) (es:List Nat) (hB:Zgj l.toArray n es=true) (hpl:(Zk es 0 (l.take n)).all (fun o=>Za2 o.op)=true)
 (h:∀w1,Keep S w w1->wpQuiet P l.toArray (U9 S w1) (fun a'=>Ext w w1->wpX S P .any l.toArray w n (Yu P l.toArray Q n) es.length (Z1 es n 0 (Array.replicate l.toArray.size false)) a' w1) (Zk es 0 (l.take n)) a):
 wpAny P .any l.toArray Q l.toArray.size (Array.replicate l.toArray.size false) a { w with drawn:=w.drawn+1 }:=by
 simp only [Zgj,Bool.and_eq_true,decide_eq_true_eq] at hB
 obtain ⟨⟨⟨⟨⟨hsel,hn⟩,hs⟩,hc⟩,hlex⟩,hnum⟩:=hB
 have hn':n<l.length:=by simpa using hn
 have htl:(l.take n).length=n:=by simp;omega
 have inv0:HeadInv .any l.toArray n (Array.replicate l.toArray.size false):=
  ⟨by simp,fun j oj _ hl=>(by rw [getD_replicate_false] at hl;cases hl),fun t _ ht=>getD_in (by simpa using ht) (getD_replicate_false _ _)⟩
 have H:=Xi (S:=S) (md:= .any) W (w0:=w) (L:=Yu P l.toArray Q n) (e:=es.length) (es:=es) hsel hs hc hn (fun listed a w hL=>seqB_ready hL.1) (l.take n) 0 (Array.replicate l.toArray.size false) a
  { w with drawn:=w.drawn+1 } (fun j hj=>by
    have hj':j<n:=by rw [htl] at hj;exact hj
    simp [hj']) (by simpa using htl) inv0 (Keep.of_ext ((Ext.refl w).drew)) ((Ext.refl w).drew) (by rw [htl];exact hlex) hpl (by rw [htl];exact h)
 rw [htl,hnum] at H
 have H2:=Xe (Q:=Q) (g:=l.toArray.size-n) (fun listed a' w' hL=>by
  have:=wpAny_of_seq (md:= .any) (ops:=l.toArray) (Q':=Q) (l.drop n) n listed a' w' (fun j=>by simp [List.getElem?_drop]) (by rw [show (l.drop n).length=l.toArray.size-n by simp];exact hL.1) (by simpa using hL.2)
  rwa [show (l.drop n).length=l.toArray.size-n by simp] at this) _ _ _ _ (Keep.of_ext ((Ext.refl w).drew)) H
 rw [show n+(l.toArray.size-n)=l.toArray.size by omega] at H2
 exact H2
theorem Zh (S:List Nat) (W:Y2 P) {id:Nat} {Q:Exit->Act->World->Prop} {a:Act} {w:World} {l:List Oper} (n:Nat) (es:List Nat) (hm:P.follows .mixedOrders=true) (hB:Zgj l.toArray n es=true) (hpl:(Zk es 0 (l.take n)).all (fun o=>Za2 o.op)=true)
 (h:∀w1,Keep S w w1->wpQuiet P l.toArray (U9 S w1) (fun a'=>Ext w w1->wpX S P .any l.toArray w n (Yu P l.toArray Q n) es.length (Z1 es n 0 (Array.replicate l.toArray.size false)) a' w1) (Zk es 0 (l.take n)) a):
 (Code.region id l.toArray true).wp P Q a w:=
 wp_region_any hm (Ui S W n es hB hpl h)
theorem Zj {n:Nat} {Q:Exit->Act->World->Prop} {listed:Array Bool} {l:List Oper} {a:Act} {w0 w:World} (hB:Region.seqB .any l.toArray (l.toArray.size-n) n listed=true)
 (h:∀w',Keep S w0 w'->Ext w w'->wpList P l.toArray Q (l.drop n) a w'):wpX S P .any l.toArray w0 n (Yu P l.toArray Q n) 0 listed a w:=
 fun w' h0 hw'=>⟨hB,by simpa using h w' h0 hw'⟩
theorem Vq {n f:Nat} {L:Array Bool->Act->World->Prop} {listed:Array Bool} {a:Act} {w0 w:World} (i:Nat) (o:Oper) (hr:Region.ready md ops listed=[i]) (hin:i<n) (ho:ops[i]? =some o)
 (hw:Region.wanted o (yielded ops a.tmps)=true) (h:∀w',Keep S w0 w'->Ext w w'->Xn P o a w' (fun v w''=>Keep S w0 w''/\wpX S P md ops w0 n L f (listed.setIfInBounds i true) (a.put o.dst v) w'')):wpX S P md ops w0 n L (f+1) listed a w:=by
 refine ⟨by rw [hr];simp,fun j hj=> ?_⟩
 rw [hr] at hj
 have:j=i:=by simpa using hj
 subst this
 exact ⟨hin,fun w' h0 hw'=>by unfold xOp;simp only [ho,hw,if_true];exact h w' h0 hw'⟩
end
end Go.RgK
