/- Sound: each debt from 0 to its limit, limits as they were. Stands: does each position stand as it did, but where a fill moved it? Even: does each currency's sum stand at 0, and each position of who took no part stand as it did? A row of 17 marks; a new row. A chain of fills, plain: who owned what was filled, what stands as it stood, what the giver gave; positions of a currency sum to 0. -/
import Derived.Test.YtipjchbdogmccaaGreatLines
import Derived.Test.YtipjchbdogmccaaGreatFair
namespace Go.Proofs.YtipjchbdogmccaaGreat
open Go.RowKit Go.Rg Go.BigFrame
section
variable {α β:Type} {lt:α->α->Bool} {lt':β->β->Bool} {f:α->β}
end
theorem Zb5 {w:World} {base size n g cap:Nat} {e:TypeId} {xs:List Value} (h:w.ownsRow base e size (.slice (some ⟨g,0,none⟩) n cap) n xs) (j:Nat) (x:Value):(w.setCell ⟨g,j,none⟩ x).ownsRow base e size (.slice (some ⟨g,0,none⟩) n cap) n (xs.set j x):=by
 obtain ⟨hl,h⟩:=h
 refine ⟨by rw [List.length_set];exact hl,?_⟩
 rcases h with ⟨h0,_⟩ | ⟨b,cap',cur,hv,hb,hg,h1,h2,h3,h4⟩
 ·cases h0
 injection hv with hv1 _ hv2
 injection hv1 with hv1
 injection hv1 with hv1 _ _
 subst hv1 hv2
 exact .inr ⟨g,cap,_,rfl,hb,heap_setCell_same w g j _ _ x hg,h1,h2,by simpa using h3,by rw [Array.toList_setIfInBounds,List.take_set,h4]⟩
theorem Zb6 {w:World} {base size n g cap:Nat} {e:TypeId} {xs:List Value} (h:w.ownsRow base e size (.slice (some ⟨g,0,none⟩) n cap) n xs):∃cur,w.heap[g]? =some (.cells cur e (0,0)):=by
 rcases h.2 with ⟨h0,_⟩ | ⟨b,cap',cur,hv,hb,hg,_⟩
 ·cases h0
 injection hv with hv1 _ hv2
 injection hv1 with hv1
 injection hv1 with hv1 _ _
 subst hv1
 exact ⟨cur,hg⟩
theorem Xz {w:World} {base size n g cap:Nat} {e:TypeId} {xs:List Value} (h:w.ownsRow base e size (.slice (some ⟨g,0,none⟩) n cap) n xs):g<w.heap.size/\∀j u,xs[j]? =some u->w.cell? ⟨g,j,none⟩=some u:=by
 obtain ⟨cur,hr⟩:=Zb6 h
 refine ⟨Ze hr,fun j u hu=> ?_⟩
 obtain ⟨A,cap',hv,_,_,hl,h4⟩:=Zt.of_own h
 injection hv with hv _ _
 subst hv
 rcases h4 with h4 | ⟨g',h5,_,_,hc⟩
 ·have:=(List.getElem?_eq_some_iff.1 hu).1
  subst h4
  simp at hl
  subst hl
  simp at this
 injection h5 with h5
 injection h5 with h5 _ _
 subst h5
 exact hc j u hu
def Zok (L:Led) (c:Int):Nat->Int
 | 0=>0
 | n+1=>Zok L c n+Z1 L ((n+1:Nat):Int) c
theorem Zly (w:World) (g j:Nat) (pt:List Bool) (h:w.heap[g]? =some (.cells (pt.map Value.bool).toArray 201 (0,0))) (hj:j<pt.length):w.cell? ⟨g,j,none⟩=some (.bool (pt.getD j false)):=
 Za (j:=j) h (by
  rw [List.getElem?_toArray,List.getElem?_map,List.getElem?_eq_getElem hj,List.getD_eq_getElem?_getD,List.getElem?_eq_getElem hj]
  rfl)
theorem part_row (w:World) (g j:Nat) (pt:List Bool) (h:w.heap[g]? =some (.cells (pt.map Value.bool).toArray 201 (0,0))):(w.setCell ⟨g,j,none⟩ (.bool true)).heap[g]? =some (.cells ((pt.set j true).map Value.bool).toArray 201 (0,0)):=by
 rw [heap_setCell_same w g j _ _ (.bool true) h]
 simp [List.map_set]
theorem Zm {P:Program} {ops:Array Oper} {Q:Exit->Act->World->Prop} {rest:List Oper} {o:Oper} {a:Act} {w:World} (hg:o.guard=none) (ty:TypeId) (_hop:o.op= .alloc ty) (ob:Obj) (dst:Option Tmp) (hdst:o.dst=dst)
 (hm:(execOp a.eval o).run P w= .ok (.value (.pointer (some ⟨w.heap.size,0,none⟩))) (w.alloc ob))
 (h:∀w':World,Ext w w'->w'.heap[w.heap.size]? =some ob->wpList P ops Q rest (a.put dst (.pointer (some ⟨w.heap.size,0,none⟩))) w'):wpList P ops Q (o::rest) a w:=
 wpList_plain hg fun K hK=>by
  unfold Oper.wp
  rw [hm,Oper.upon_value,hdst]
  exact hK _ _ (h _ (Zc w ob) (Zb w ob))
theorem Jp {P:Program} {ops:Array Oper} {Q:Exit->Act->World->Prop} {rest:List Oper} {o:Oper} {a:Act} {w:World} (ty:TypeId) (x:Operand) (v:Value) (p:Addr) (hw:Region.wanted o (yielded ops a.tmps)=true) (hop:o.op= .load ty x) (hx:a.eval x= .pointer (some p))
 (hr:(loadVar ty p).run P w= .ok v w) (h:wpList P ops Q rest (a.put o.dst v) w):wpList P ops Q (o::rest) a w:=
 wpList_want hw fun K hK=>by
  unfold Oper.wp
  rw [Vp ty x v p hop hx hr]
  exact hK _ _ h
def sT (x:Ln) (c:Int):Nat->Int
 | 0=>0
 | n+1=>sT x c n+Un ((n+1:Nat):Int) c x
theorem sT_eq (x:Ln) (c:Int) (h:X9 x.1=true):∀n:Nat,sT x c n=if x.1.2.2=c then (if x.1.1<=(n:Int) then x.2.2 else 0)-(if x.1.2.1<=(n:Int) then x.2.2 else 0) else 0
 | 0=>by
   unfold X9 at h
   rw [decide_eq_true_eq] at h
   simp only [sT]
   split
   ·rw [if_neg (by omega),if_neg (by omega)];rfl
   rfl
 | n+1=>by
   have ih:=sT_eq x c h n
   unfold X9 at h
   rw [decide_eq_true_eq] at h
   simp only [sT]
   rw [ih]
   unfold Un
   by_cases hc:x.1.2.2=c
   ·rw [if_pos hc,if_pos hc,if_pos hc]
    generalize x.1.1=a at *
    generalize x.1.2.1=b at *
    generalize x.2.2=v at *
    repeat' split
    all_goals omega
   rw [if_neg hc,if_neg hc,if_neg hc];rfl
theorem Zon (f g:Ln->Int):∀l:Zu,Yl (l.map f)+Yl (l.map g)=Yl (l.map fun x=>f x+g x)
 | []=>by simp [Yl]
 | x::l=>by
   have:=Zon f g l
   simp only [List.map_cons,Yl]
   omega
theorem sumP_eq (L:Led) (c:Int):∀n:Nat,Zok L c n=Yl (L.lines.map fun x=>sT x c n)
 | 0=>by
   simp only [Zok,sT]
   induction L.lines with
   | nil=>rfl
   | cons x l ih=>simp only [List.map_cons,Yl];omega
 | n+1=>by
   simp only [Zok,sT]
   rw [sumP_eq L c n]
   unfold Z1 Vt
   exact Zon _ _ _
theorem Zll {L:Led} (hwf:WF L) (c:Int):Zok L c 16=0:=by
 rw [sumP_eq]
 have h:∀l:Zu,(∀x∈l,X9 x.1=true)->Yl (l.map fun x=>sT x c 16)=0:=by
  intro l
  induction l with
  | nil=>intro _;rfl
  | cons x l ih=>
    intro h
    have h1:=ih (fun y hy=>h y (by simp [hy]))
    have h2:=h x (by simp)
    simp only [List.map_cons,Yl]
    rw [h1,sT_eq x c h2]
    unfold X9 at h2
    rw [decide_eq_true_eq] at h2
    repeat' split
    all_goals omega
 exact h _ (fun x hx=>(hwf.ends x hx).1)
theorem Zi3 {B:Bk} (hs:Ux B) {seq n s:Int} {o':Off} (h:Z8 (Ui B seq n).2.offs s=some o'):
 ∃o,Z8 B.offs s=some o/\o.owner=o'.owner/\o.sell=o'.sell/\o.buy=o'.buy/\o.num=o'.num/\o.den=o'.den:=by
 have hm:=(Y2 h).1
 have hq:=(Y2 h).2
 have hin:∀o∈B.offs,o.seq=s->Z8 B.offs s=some o:=fun o ho e=>by rw [<-e];exact Zae hs ho
 unfold Ui at hm
 cases hf:Z8 B.offs seq with
 | none=>rw [hf] at hm;exact ⟨o',hin o' hm hq,rfl,rfl,rfl,rfl,rfl⟩
 | some x=>
   rw [hf] at hm
   simp only at hm
   have hx:=Y2 hf
   split at hm
   ·exact ⟨o',hin o' hm hq,rfl,rfl,rfl,rfl,rfl⟩
   split at hm
   ·exact ⟨o',hin o' (List.mem_of_mem_eraseIdx hm) hq,rfl,rfl,rfl,rfl,rfl⟩
   rcases List.mem_or_eq_of_mem_set hm with hm | rfl
   ·exact ⟨o',hin o' hm hq,rfl,rfl,rfl,rfl,rfl⟩
   exact ⟨x,hin x hx.1 hq,rfl,rfl,rfl,rfl,rfl⟩
theorem Zmu {get give fr to q c:Int} {falls:Bool} (hq1:q≠fr) (hq2:q≠to):∀{l:List Fl} {L:Led} {B:Bk} {n most:Int} {L':Led} {B':Bk},Ux B->J8 get give falls l L B n most L' B'->(∀f∈l,f.2.1=fr/\f.2.2.1=to)->
 (∀f∈l,∀o,Z8 B.offs f.1=some o->o.owner≠q)->Z1 L' q c=Z1 L q c
 | [],_,_,_,_,_,_,_,⟨h,_⟩,_,_=>by rw [h]
 | g::l,L,B,_,_,_,_,hsn,⟨o,L1,B1,hst,hr⟩,hft,hown=>by
   have hdo:=hst.fill.doo
   have hsn2:=Zds (L:=L) hsn g.1 g.2.1 g.2.2.1 g.2.2.2.1
   rw [hdo] at hsn2
   have ih:=Zmu (c:=c) hq1 hq2 hsn2 hr (fun f hf=>hft f (by simp [hf])) (fun f hf o1 ho1=>by
    rw [hst.fill.bk] at ho1
    obtain ⟨o2,k1,k2,_⟩:=Zi3 hsn ho1
    rw [<-k2]
    exact hown f (by simp [hf]) o2 k1)
   have hp:=hst.fill.pos q c
   have h1:=hown g (by simp) o hst.fill.fnd
   obtain ⟨t1,t2⟩:=hft g (by simp)
   rw [ih,hp,t1,t2]
   have e1:¬q=o.owner:=fun e=>h1 e.symm
   unfold mvP
   simp [e1,hq1,hq2]
end Go.Proofs.YtipjchbdogmccaaGreat
