/- A region that draws its order and has no tail: all its operations are quiet, or named. Program independent. A region that draws its order, where quiet operations come behind those that make or turn memory: a second quiet stretch. Program independent. -/
import Derived.Test.YtipjchbdogmccaaGreatGen
namespace Go.Rg
open Go.RowKit
def Zcx (md:Region.Mode) (ops:Array Oper) (n:Nat) (listed:Array Bool):Bool:=
 decide (listed.size=ops.size)&&(List.range ops.size).all (fun j=> !(listed.getD j false)||(match ops[j]? with | some o=>o.after.toList.all (fun e=> !(Region.binds md e)||listed.getD e.on false) | none=>true))&&
  (List.range ops.size).all (fun t=>decide (t<n)|| !(listed.getD t true))
theorem Zb3 {md:Region.Mode} {ops:Array Oper} {n:Nat} {listed:Array Bool} (h:Zcx md ops n listed=true):HeadInv md ops n listed:=by
 simp only [Zcx,Bool.and_eq_true,decide_eq_true_eq,List.all_eq_true,List.mem_range] at h
 obtain ⟨⟨h1,h2⟩,h3⟩:=h
 refine ⟨h1,fun j oj hj hl e he hb=> ?_,fun t ht hts=> ?_⟩
 ·have hjs:j<ops.size:=(Array.getElem?_eq_some_iff.1 hj).1
  have:=h2 j hjs
  rw [hl,hj] at this
  simp only [Bool.not_true,Bool.false_or,List.all_eq_true] at this
  have:=this e (by simpa using he)
  rw [hb] at this
  simpa using this
 have:=h3 t hts
 simp only [Bool.or_eq_true,decide_eq_true_eq,Bool.not_eq_true'] at this
 rcases this with h | h
 ·omega
 exact h
def againB (ops:Array Oper) (n k f:Nat) (es:List Nat) (listed:Array Bool):Bool:=
 Region.noSelect ops&&decide (n<ops.size)&&decide (k<=n)&&Region.sinkB .any ops n&&Region.chainB .any ops n&&Zcx .any ops n listed&&Yv .any ops es (n-k) k listed&&decide (Zz es (n-k) k+es.length=f)
section
variable {P:Program} {ops:Array Oper} {md:Region.Mode}
theorem Jc {w0 w:World} {n:Nat} {L:Array Bool->Act->World->Prop} (h0:Ext w0 w):∀(f:Nat) (listed:Array Bool) (a:Act) (v:World),Ext w v->wpX P md ops w n L f listed a v->wpX P md ops w0 n L f listed a v
 | 0,_,_,_,hv,H=>fun w' _ hw'=>H w' (Xt hv hw') hw'
 | f+1,listed,_,_,hv,H=>⟨H.1,fun i hi=>⟨(H.2 i hi).1,fun w' _ hw'=>by
    have h1:=(H.2 i hi).2 w' (Xt hv hw') hw'
    have hr:=fun a' w'' (hx:Ext w w'') (hk:wpX P md ops w n L f (listed.setIfInBounds i true) a' w'')=>Jc h0 f _ a' w'' hx hk
    unfold xOp at *
    split
    ·rename_i ho
     simp only [ho] at h1
     exact hr _ _ (Xt hv hw') h1
    rename_i o ho
    simp only [ho] at h1
    split
    ·rename_i hwa
     simp only [hwa,if_true] at h1
     exact Y0 (fun u w'' ⟨hx,hk⟩=>⟨Xt h0 hx,hr _ _ hx hk⟩) h1
    rename_i hwa
    simp only [hwa] at h1
    exact hr _ _ (Xt hv hw') h1⟩⟩
theorem wpX_again (W:Y2 P) {w0 w:World} {n f:Nat} {Q:Exit->Act->World->Prop} {l0:List Oper} {a:Act} {listed:Array Bool} (k:Nat) (es:List Nat) (hB:againB l0.toArray n k f es listed=true) (h0:Ext w0 w)
 (h:∀w1,Ext w w1->wpQuiet P l0.toArray (Cls w1) (fun a'=>wpX P .any l0.toArray w n (Yu P l0.toArray Q n) es.length (Z1 es (n-k) k listed) a' w1) (Zk es k ((l0.take n).drop k)) a):
 wpX P .any l0.toArray w0 n (Yu P l0.toArray Q n) f listed a w:=by
 simp only [againB,Bool.and_eq_true,decide_eq_true_eq] at hB
 obtain ⟨⟨⟨⟨⟨⟨⟨hsel,hn⟩,hkn⟩,hs⟩,hc⟩,hinv⟩,hok⟩,hf⟩:=hB
 have hn':n<l0.length:=by simpa using hn
 have hlen:((l0.take n).drop k).length=n-k:=by simp;omega
 have H:=Xi (md:= .any) W (w0:=w) (L:=Yu P l0.toArray Q n) (e:=es.length) (es:=es) hsel hs hc hn (fun listed a w hL=>seqB_ready hL.1) ((l0.take n).drop k) k listed a w (fun j hj=>by
  rw [hlen] at hj
  simp [List.getElem?_drop,List.getElem?_take]
  omega) (by rw [hlen];omega) (Zb3 hinv) (Ext.refl w) (by rw [hlen];exact hok) (by rw [hlen];exact h)
 rw [hlen,hf] at H
 exact Jc h0 f listed a w (Ext.refl w) H
end
end Go.Rg
namespace Go.RgK
open Go.RowKit Go.Rg
section
variable {S:List Nat} {P:Program} {ops:Array Oper} {md:Region.Mode}
theorem Jc {w0 w:World} {n:Nat} {L:Array Bool->Act->World->Prop} (h0:Keep S w0 w):∀(f:Nat) (listed:Array Bool) (a:Act) (v:World),Keep S w v->wpX S P md ops w n L f listed a v->wpX S P md ops w0 n L f listed a v
 | 0,_,_,_,hv,H=>fun w' _ hw'=>H w' (hv.trans (Kx hw')) hw'
 | f+1,listed,_,_,hv,H=>⟨H.1,fun i hi=>⟨(H.2 i hi).1,fun w' _ hw'=>by
    have h1:=(H.2 i hi).2 w' (hv.trans (Kx hw')) hw'
    have hr:=fun a' w'' (hx:Keep S w w'') (hk:wpX S P md ops w n L f (listed.setIfInBounds i true) a' w'')=>Jc h0 f _ a' w'' hx hk
    unfold xOp at *
    split
    ·rename_i ho
     simp only [ho] at h1
     exact hr _ _ (hv.trans (Kx hw')) h1
    rename_i o ho
    simp only [ho] at h1
    split
    ·rename_i hwa
     simp only [hwa,if_true] at h1
     exact Y0 (fun u w'' ⟨hx,hk⟩=>⟨h0.trans hx,hr _ _ hx hk⟩) h1
    rename_i hwa
    simp only [hwa] at h1
    exact hr _ _ (hv.trans (Kx hw')) h1⟩⟩
end
end Go.RgK
namespace Go.Rg
open Go.RowKit
section
variable {P:Program} {ops:Array Oper} {md:Region.Mode}
theorem Zkc {w0:World} {n i:Nat} {oi:Oper} {v:Value} {L:Array Bool->Act->World->Prop} (hi:ops[i]? =some oi) (hsel:∀(j:Nat) (o:Oper) cs b,ops[j]? =some o->o.op≠ .select cs b)
 (hn:n=ops.size) (hin:i<n)
 (hdone:∀listed a w,L listed a w->∀j∈Region.ready md ops listed,n<=j):
 ∀(f:Nat) (listed:Array Bool) (a:Act) (w:World),Ext w0 w->HeadInv md ops n listed->
  (∀j oj,ops[j]? =some oj->j≠i->listed.getD j true=false->(∀e∈oj.after,Region.binds md e=true->e.on≠i)->oi.apart ops oj=true)->
  i∈Region.ready md ops listed->Ya P ops w0 oi v a->
  wpX P md ops w0 n L f (listed.setIfInBounds i true) (a.put oi.dst v) w->wpX P md ops w0 n L (f+1) listed a w:=by
 intro f
 induction f with
 | zero=>
   intro listed a w h0 inv _ hr hy H
   have hun:=(mem_ready.1 hr).1
   refine ⟨fun h=>(by rw [h] at hr;cases hr),fun j hj=> ?_⟩
   have hjn:j<n:=by
    rcases Nat.lt_or_ge j n with h | h
    ·exact h
    obtain ⟨_,oj,hoj,_⟩:=mem_ready.1 hj
    have:=(Array.getElem?_eq_some_iff.1 hoj).1
    omega
   refine ⟨hjn,fun w' h0' hw'=> ?_⟩
   by_cases hji:j=i
   ·subst hji;exact hy.xOp hi h0' fun w'' hw''=>Jo (Xt hw' hw'') H
   have:=hdone _ _ _ (H w h0 (Ext.refl _)) j (ready_mono hj hji)
   omega
 | succ f ih=>
   intro listed a w h0 inv hfree hr hy H
   have hun:=(mem_ready.1 hr).1
   refine ⟨fun h=>(by rw [h] at hr;cases hr),fun j hj=> ?_⟩
   have hjn:j<n:=by
    rcases Nat.lt_or_ge j n with h | h
    ·exact h
    obtain ⟨_,oj,hoj,_⟩:=mem_ready.1 hj
    have:=(Array.getElem?_eq_some_iff.1 hoj).1
    omega
   refine ⟨hjn,fun w' h0' hw'=> ?_⟩
   by_cases hji:j=i
   ·subst hji;exact hy.xOp hi h0' fun w'' hw''=>Jo (Xt hw' hw'') H
   have h1:=(H.2 j (ready_mono hj hji)).2 w' h0' hw'
   obtain ⟨hjun,oj,hoj,hall⟩:=mem_ready.1 hj
   have hnot:∀e∈oj.after,Region.binds md e=true->e.on≠i:=fun e he hb heq=>by
    have h1:=hall e he hb
    rw [heq,getD_both hun] at h1
    cases h1
   have h2:=Zdc hoj (hfree j oj hoj hji hjun hnot) (fun cs b=>hsel i oi cs b hi) (fun cs b=>hsel j oj cs b hoj) hy h1
   have hfree':∀k ok,ops[k]? =some ok->k≠i->(listed.setIfInBounds j true).getD k true=false->
    (∀e∈ok.after,Region.binds md e=true->e.on≠i)->oi.apart ops ok=true:=fun k ok hk hki hun hno=>by
    refine hfree k ok hk hki ?_ hno
    by_cases hjk:j=k
    ·subst hjk;exact hjun
    rw [getD_set_ne true hjk] at hun;exact hun
   refine Un h0' (fun a' w2 hx h3=>ih (listed.setIfInBounds j true) a' w2 hx (inv.set hj hjn) hfree' (ready_mono hr (Ne.symm hji)) h3.1 ?_) h2
   rw [Array.setIfInBounds_comm _ _ hji]
   exact h3.2
theorem Jn (W:Y2 P) {w0:World} {n e:Nat} {L:Array Bool->Act->World->Prop} {es:List Nat} (hsel:Region.noSelect ops=true) (hn:n=ops.size)
 (hdone:∀listed a w,L listed a w->∀j∈Region.ready md ops listed,n<=j):
 ∀(l:List Oper) (k:Nat) (listed:Array Bool) (a:Act) (w:World),(∀j,j<l.length->l[j]? =ops[k+j]?)->k+l.length=n->HeadInv md ops n listed->Ext w0 w->
 Yv md ops es l.length k listed=true->
 (∀w1,Ext w0 w1->wpQuiet P ops (Cls w1) (fun a'=>wpX P md ops w0 n L e (Z1 es l.length k listed) a' w1) (Zk es k l) a)->
 wpX P md ops w0 n L (Zz es l.length k+e) listed a w
 | [],k,listed,a,w,_,_,_,h0,_,h=>by
   have:=h w h0
   simp only [Zk,Z1,Zz,Nat.zero_add,List.length_nil] at this ⊢
   exact this
 | o::l,k,listed,a,w,hl,hk,inv,h0,hB,h=>by
   have ho:ops[k]? =some o:=by simpa using (hl 0 (by simp)).symm
   have hl':∀j,j<l.length->l[j]? =ops[k+1+j]? :=fun j hj=>by have:=hl (j+1) (by simp;omega);simpa [Nat.add_assoc,Nat.add_comm 1 j] using this
   have hk':k+1+l.length=n:=by simp only [List.length_cons] at hk;omega
   by_cases he:es.contains k=true
   ·simp only [List.length_cons,Yv,Zk,Z1,Zz,he,if_true] at hB h ⊢
    exact Jn W hsel hn hdone l (k+1) listed a w hl' hk' inv h0 hB h
   simp only [List.length_cons,Yv,Zk,Z1,Zz,he,if_false,Bool.and_eq_true,Bool.false_eq_true] at hB h ⊢
   obtain ⟨⟨hr,hf⟩,hB'⟩:=hB
   have hkn:k<n:=by omega
   have hr':k∈Region.ready md ops listed:=by simpa using hr
   obtain ⟨v,hy,hK⟩:=V3 W h
   have:=Jn W hsel hn hdone l (k+1) _ (a.put o.dst v) w hl' hk' (inv.set hr' hkn) h0 hB' hK
   rw [show Zz es l.length (k+1)+1+e=(Zz es l.length (k+1)+e)+1 by omega]
   exact Zkc ho (Region.noSelect_spec hsel) hn hkn hdone _ listed a w h0 inv (Region.free_spec ho hf) hr' hy this
def Zm7 (ops:Array Oper) (es:List Nat):Bool:=
 Region.noSelect ops&&Yv .any ops es ops.size 0 (Array.replicate ops.size false)&&decide (Zz es ops.size 0+es.length=ops.size)
theorem wpAny_all (W:Y2 P) {Q:Exit->Act->World->Prop} {a:Act} {w:World} {l:List Oper} (es:List Nat) (hB:Zm7 l.toArray es=true)
 (h:∀w1,Ext w w1->wpQuiet P l.toArray (Cls w1) (fun a'=>wpX P .any l.toArray w l.length (Yu P l.toArray Q l.length) es.length (Z1 es l.length 0 (Array.replicate l.toArray.size false)) a' w1) (Zk es 0 l) a):
 wpAny P .any l.toArray Q l.toArray.size (Array.replicate l.toArray.size false) a { w with drawn:=w.drawn+1 }:=by
 simp only [Zm7,Bool.and_eq_true,decide_eq_true_eq] at hB
 obtain ⟨⟨hsel,hlex⟩,hnum⟩:=hB
 have hsz:l.toArray.size=l.length:=by simp
 have inv0:HeadInv .any l.toArray l.length (Array.replicate l.toArray.size false):=
  ⟨by simp,fun j oj _ hl=>(by rw [getD_replicate_false] at hl;cases hl),fun t ht hts=>by rw [hsz] at hts;omega⟩
 rw [hsz] at hlex hnum
 have H:=Jn (md:= .any) W (w0:=w) (L:=Yu P l.toArray Q l.length) (e:=es.length) (es:=es) hsel hsz.symm (fun listed a w hL j hj=>by
  have:=seqB_ready hL.1 j hj
  omega) l 0 (Array.replicate l.toArray.size false) a
  { w with drawn:=w.drawn+1 } (fun j hj=>by simp) (by simp) inv0 ((Ext.refl w).drew) (by rw [<-hsz] at hlex ⊢;exact hlex) h
 rw [hnum] at H
 have H2:=Xe (Q:=Q) (g:=0) (fun listed a' w' hL=>by
  have hr:=hL.1
  have hw:=hL.2
  rw [hsz,Nat.sub_self] at hr
  simp only [Region.seqB,List.isEmpty_iff] at hr
  simp only [List.drop_length,wpList] at hw
  exact ⟨hr,hw⟩) _ _ _ _ ((Ext.refl w).drew) H
 rw [Nat.add_zero] at H2
 rw [hsz]
 rw [hsz] at H2
 exact H2
theorem Z9 (W:Y2 P) {id:Nat} {Q:Exit->Act->World->Prop} {a:Act} {w:World} {l:List Oper} (es:List Nat) (hm:P.follows .mixedOrders=true) (hB:Zm7 l.toArray es=true)
 (h:∀w1,Ext w w1->wpQuiet P l.toArray (Cls w1) (fun a'=>wpX P .any l.toArray w l.length (Yu P l.toArray Q l.length) es.length (Z1 es l.length 0 (Array.replicate l.toArray.size false)) a' w1) (Zk es 0 l) a):
 (Code.region id l.toArray true).wp P Q a w:=
 wp_region_any hm (wpAny_all W es hB h)
def Zmg (ops:Array Oper) (k f e:Nat) (es:List Nat) (listed:Array Bool):Bool:=
 Region.noSelect ops&&decide (k<=ops.size)&&Zcx .any ops ops.size listed&&Yv .any ops es (ops.size-k) k listed&&decide (Zz es (ops.size-k) k+e=f)
theorem Zkd (W:Y2 P) {w0 w:World} {f:Nat} {Q:Exit->Act->World->Prop} {l0:List Oper} {a:Act} {listed:Array Bool} (k:Nat) (es:List Nat) (e:Nat) (hB:Zmg l0.toArray k f e es listed=true) (h0:Ext w0 w)
 (h:∀w1,Ext w w1->wpQuiet P l0.toArray (Cls w1) (fun a'=>wpX P .any l0.toArray w l0.length (Yu P l0.toArray Q l0.length) e (Z1 es (l0.length-k) k listed) a' w1) (Zk es k (l0.drop k)) a):
 wpX P .any l0.toArray w0 l0.length (Yu P l0.toArray Q l0.length) f listed a w:=by
 have hsz:l0.toArray.size=l0.length:=by simp
 simp only [Zmg,Bool.and_eq_true,decide_eq_true_eq] at hB
 obtain ⟨⟨⟨⟨hsel,hkn⟩,hinv⟩,hok⟩,hf⟩:=hB
 rw [hsz] at hkn hinv hok hf
 have hlen:(l0.drop k).length=l0.length-k:=by simp
 have H:=Jn (md:= .any) W (w0:=w) (L:=Yu P l0.toArray Q l0.length) (e:=e) (es:=es) hsel hsz.symm (fun listed a w hL j hj=>by
  have:=seqB_ready hL.1 j hj
  omega) (l0.drop k) k listed a w (fun j hj=>by simp [List.getElem?_drop]) (by rw [hlen];omega) (Zb3 hinv) (Ext.refl w) (by rw [hlen];exact hok) (by rw [hlen];exact h)
 rw [hlen,hf] at H
 exact Jc h0 f listed a w (Ext.refl w) H
theorem Xc {Q:Exit->Act->World->Prop} {listed:Array Bool} {l:List Oper} {a:Act} {w0 w:World} (hB:Region.seqB .any l.toArray 0 l.length listed=true)
 (h:∀w',Ext w0 w'->Ext w w'->Q .normal a w'):wpX P .any l.toArray w0 l.length (Yu P l.toArray Q l.length) 0 listed a w:=
 fun w' h0 hw'=>⟨by simpa using hB,by rw [List.drop_length];exact h w' h0 hw'⟩
end
end Go.Rg
