/- Sound: each debt from 0 to its limit, limits as they were. Stands: does each position stand as it did, but where a fill moved it? Even: does each currency's sum stand at 0, and each position of who took no part stand as it did? A row of 17 marks; a new row. A chain of fills, plain: who owned what was filled, what stands as it stood, what the giver gave; positions of a currency sum to 0. -/
import Derived.Test.YtipjchbdogmccaaGreatLines
import Derived.Test.YtipjchbdogmccaaGreatFair
namespace Go.Proofs.YtipjchbdogmccaaGreat
open Go.RowKit Go.Rg Go.BigFrame
section
variable {α β:Type} {lt:α->α->Bool} {lt':β->β->Bool} {f:α->β}
end
theorem Zad {w:World} {base size n g cap:Nat} {e:TypeId} {xs:List Value} (h:w.ownsRow base e size (.slice (some ⟨g,0,none⟩) n cap) n xs) (j:Nat) (x:Value):(w.setCell ⟨g,j,none⟩ x).ownsRow base e size (.slice (some ⟨g,0,none⟩) n cap) n (xs.set j x):=by
 obtain ⟨hl,h⟩:=h
 refine ⟨by rw [List.length_set];exact hl,?_⟩
 rcases h with ⟨h0,_⟩ | ⟨b,cap',cur,hv,hb,hg,h1,h2,h3,h4⟩
 ·cases h0
 injection hv with hv1 _ hv2
 injection hv1 with hv1
 injection hv1 with hv1 _ _
 subst hv1 hv2
 exact .inr ⟨g,cap,_,rfl,hb,heap_setCell_same w g j _ _ x hg,h1,h2,by simpa using h3,by rw [Array.toList_setIfInBounds,List.take_set,h4]⟩
theorem Us {w:World} {base size n g cap:Nat} {e:TypeId} {xs:List Value} (h:w.ownsRow base e size (.slice (some ⟨g,0,none⟩) n cap) n xs):∃cur,w.heap[g]? =some (.cells cur e (0,0)):=by
 rcases h.2 with ⟨h0,_⟩ | ⟨b,cap',cur,hv,hb,hg,_⟩
 ·cases h0
 injection hv with hv1 _ hv2
 injection hv1 with hv1
 injection hv1 with hv1 _ _
 subst hv1
 exact ⟨cur,hg⟩
theorem Yc {w:World} {base size n g cap:Nat} {e:TypeId} {xs:List Value} (h:w.ownsRow base e size (.slice (some ⟨g,0,none⟩) n cap) n xs):g<w.heap.size/\∀j u,xs[j]? =some u->w.cell? ⟨g,j,none⟩=some u:=by
 obtain ⟨cur,hr⟩:=Us h
 refine ⟨Zg hr,fun j u hu=> ?_⟩
 obtain ⟨A,cap',hv,_,_,hl,h4⟩:=Zn.of_own h
 injection hv with hv _ _
 subst hv
 rcases h4 with h4 | ⟨g',h5,_,_,hc⟩
 ·have:=(List.getElem?_eq_some_iff.1 hu).1
  subst h4
  simp at hl
  subst hl
  simp at this
 injection h5 with h5
 injection h5 with h5 _ _
 subst h5
 exact hc j u hu
theorem Zlg (w:World) (g j:Nat) (pt:List Bool) (h:w.heap[g]? =some (.cells (pt.map Value.bool).toArray 201 (0,0))) (hj:j<pt.length):w.cell? ⟨g,j,none⟩=some (.bool (pt.getD j false)):=
 Za (j:=j) h (by
  rw [List.getElem?_toArray,List.getElem?_map,List.getElem?_eq_getElem hj,List.getD_eq_getElem?_getD,List.getElem?_eq_getElem hj]
  rfl)
theorem part_row (w:World) (g j:Nat) (pt:List Bool) (h:w.heap[g]? =some (.cells (pt.map Value.bool).toArray 201 (0,0))):(w.setCell ⟨g,j,none⟩ (.bool true)).heap[g]? =some (.cells ((pt.set j true).map Value.bool).toArray 201 (0,0)):=by
 rw [heap_setCell_same w g j _ _ (.bool true) h]
 simp [List.map_set]
theorem Zu {P:Program} {ops:Array Oper} {Q:Exit->Act->World->Prop} {rest:List Oper} {o:Oper} {a:Act} {w:World} (hg:o.guard=none) (ty:TypeId) (_hop:o.op= .alloc ty) (ob:Obj) (dst:Option Tmp) (hdst:o.dst=dst)
 (hm:(execOp a.eval o).run P w= .ok (.value (.pointer (some ⟨w.heap.size,0,none⟩))) (w.alloc ob))
 (h:∀w':World,Ext w w'->w'.heap[w.heap.size]? =some ob->wpList P ops Q rest (a.put dst (.pointer (some ⟨w.heap.size,0,none⟩))) w'):wpList P ops Q (o::rest) a w:=
 wpList_plain hg fun K hK=>by
  unfold Oper.wp
  rw [hm,Oper.upon_value,hdst]
  exact hK _ _ (h _ (Zc w ob) (Zb w ob))
theorem Zfo {P:Program} {ops:Array Oper} {Q:Exit->Act->World->Prop} {rest:List Oper} {o:Oper} {a:Act} {w:World} (ty:TypeId) (x:Operand) (v:Value) (p:Addr) (hw:Region.wanted o (yielded ops a.tmps)=true) (hop:o.op= .load ty x) (hx:a.eval x= .pointer (some p))
 (hr:(loadVar ty p).run P w= .ok v w) (h:wpList P ops Q rest (a.put o.dst v) w):wpList P ops Q (o::rest) a w:=
 wpList_want hw fun K hK=>by
  unfold Oper.wp
  rw [Ve ty x v p hop hx hr]
  exact hK _ _ h
theorem Zny {B:Bk} (hs:Jm B) {seq n s:Int} {o':Off} (h:Yk (Ja B seq n).2.offs s=some o'):
 ∃o,Yk B.offs s=some o/\o.owner=o'.owner/\o.sell=o'.sell/\o.buy=o'.buy/\o.num=o'.num/\o.den=o'.den:=by
 have hm:=(Vc h).1
 have hq:=(Vc h).2
 have hin:∀o∈B.offs,o.seq=s->Yk B.offs s=some o:=fun o ho e=>by rw [<-e];exact Zc2 hs ho
 unfold Ja at hm
 cases hf:Yk B.offs seq with
 | none=>rw [hf] at hm;exact ⟨o',hin o' hm hq,rfl,rfl,rfl,rfl,rfl⟩
 | some x=>
   rw [hf] at hm
   simp only at hm
   have hx:=Vc hf
   split at hm
   ·exact ⟨o',hin o' hm hq,rfl,rfl,rfl,rfl,rfl⟩
   split at hm
   ·exact ⟨o',hin o' (List.mem_of_mem_eraseIdx hm) hq,rfl,rfl,rfl,rfl,rfl⟩
   rcases List.mem_or_eq_of_mem_set hm with hm | rfl
   ·exact ⟨o',hin o' hm hq,rfl,rfl,rfl,rfl,rfl⟩
   exact ⟨x,hin x hx.1 hq,rfl,rfl,rfl,rfl,rfl⟩
end Go.Proofs.YtipjchbdogmccaaGreat
