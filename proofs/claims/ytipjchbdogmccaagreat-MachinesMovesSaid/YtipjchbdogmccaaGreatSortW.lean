/- The worlds of the kit's sort, as this seat's words have them. -/
import Derived.Test.YtipjchbdogmccaaGreatRgK
import Derived.Shelf.SlSortCmp.WholeK
namespace Go.Proofs.YtipjchbdogmccaaGreat
open Go.RowKit Go.Rg Go.Sort Go.Shelf
section
variable {α:Type} [Inhabited α]
theorem Zjg (enc:α->List Value) (k:Nat) (hk:∀x,(enc x).length=k) (d:Array α):(flatK enc k d).toList=d.toList.flatMap enc:=by
 have hlen:∀l:List α,(l.flatMap enc).length=l.length*k:=by
  intro l
  induction l with
  | nil=>simp
  | cons o l ih=>rw [List.flatMap_cons,List.length_append,ih,hk,List.length_cons,Nat.succ_mul,Nat.add_comm]
 have hat:∀(l:List α) (t:Nat),t<l.length*k->(l.flatMap enc)[t]? =(enc (l.getD (t / k) default))[t%k]? :=by
  intro l
  induction l with
  | nil=>intro t ht;simp at ht
  | cons o l ih=>
    intro t ht
    have k0:0<k:=by
     rcases Nat.eq_zero_or_pos k with h | h
     ·subst h;simp at ht
     exact h
    rw [List.flatMap_cons]
    by_cases h1:t<k
    ·rw [List.getElem?_append_left (by rw [hk];exact h1),Nat.div_eq_of_lt h1,Nat.mod_eq_of_lt h1]
     rfl
    rw [List.getElem?_append_right (by rw [hk];omega),hk,ih (t-k) (by rw [List.length_cons,Nat.succ_mul] at ht;omega)]
    have h2:t / k=(t-k) / k+1:=by rw [Nat.div_eq_sub_div k0 (by omega)]
    have h3:t%k=(t-k)%k:=by rw [Nat.mod_eq_sub_mod (by omega)]
    rw [h2,h3]
    rfl
 apply List.ext_getElem?
 intro t
 by_cases ht:t<d.size*k
 ·rw [hat _ _ (by simpa using ht)]
  have k0:0<k:=by
   rcases Nat.eq_zero_or_pos k with h | h
   ·subst h;simp at ht
   exact h
  have hq:t / k<d.size:=(Nat.div_lt_iff_lt_mul k0).2 ht
  have hr:t%k<k:=Nat.mod_lt _ k0
  have hg:=get_flatK enc k d t ht
  rw [Array.getElem?_toList,Array.getElem?_eq_getElem (by simpa using ht)]
  rw [getElem!_pos _ _ (by simpa using ht)] at hg
  rw [hg,getElem!_pos d _ hq]
  have hd:d.toList.getD (t / k) default=d[t / k]:=by
   rw [List.getD_eq_getElem?_getD,Array.getElem?_toList,Array.getElem?_eq_getElem hq];rfl
  rw [hd,getElem!_pos _ _ (by rw [hk];exact hr),List.getElem?_eq_getElem (by rw [hk];exact hr)]
 rw [List.getElem?_eq_none (by simp;omega),List.getElem?_eq_none (by rw [hlen];simp;omega)]
theorem Zgg (enc:α->List Value) (k:Nat) (hk:∀x,(enc x).length=k) (w:World) (blk:Nat) (cur:Array Value) (e:TypeId) (d:Array α) (h:w.heap[blk]? =some (.cells cur e (0,0))) (hc:cur.toList.take (d.size*k)=d.toList.flatMap enc)
 (hs:d.size*k<=cur.size):HoldsK enc k w blk 0 d:=by
 intro j hj
 have hj':j<d.size*k:=by simpa using hj
 rw [Nat.zero_add]
 refine ⟨?_,by simp [World.frozen?,h]⟩
 rw [<-Zjg enc k hk d] at hc
 have h1:(cur.toList.take (d.size*k))[j]? =(flatK enc k d).toList[j]? :=by rw [hc]
 rw [List.getElem?_take,if_pos hj',Array.getElem?_toList,Array.getElem?_toList,Array.getElem?_eq_getElem (by omega:j<cur.size),Array.getElem?_eq_getElem hj] at h1
 rw [Za h (Array.getElem?_eq_getElem (by omega:j<cur.size)),h1,getElem!_pos (flatK enc k d) j hj]
 rfl
theorem Zb5 (enc:α->List Value) (k:Nat) (hk:∀x,(enc x).length=k) (w:World) (blk n:Nat) (cur:Array Value) (e:TypeId) (d:Array α) (os:Array Obj) (h:w.heap[blk]? =some (.cells cur e (0,0))) (hs:d.size*k<=cur.size):
 Keep [blk] w (sortWorldK enc k w blk 0 n d os)/\∃cur',(sortWorldK enc k w blk 0 n d os).heap[blk]? =some (.cells cur' e (0,0))/\cur'.size=cur.size/\cur'.toList.take (d.size*k)=d.toList.flatMap enc:=by
 have hlt:=Zg h
 have hsz:(mapBlock (Go.Sort.ahead w n) blk (putCells id 0 (flatK enc k d))).heap.size=w.heap.size:=by simp [mapBlock,Go.Sort.ahead]
 refine ⟨⟨rfl,rfl,rfl,?_,?_⟩,?_⟩
 ·show w.heap.size<=((mapBlock (Go.Sort.ahead w n) blk (putCells id 0 (flatK enc k d))).heap++os).size
  rw [Array.size_append,hsz];omega
 ·intro i hi hn
  show ((mapBlock (Go.Sort.ahead w n) blk (putCells id 0 (flatK enc k d))).heap++os)[i]? =_
  rw [Array.getElem?_append_left (by rw [hsz];exact hi)]
  show (w.heap.modify blk _)[i]? =_
  rw [Array.getElem?_modify,if_neg (fun h=>hn (by simp [h]))]
 refine ⟨putCells id 0 (flatK enc k d) cur,?_,by simp [putCells],?_⟩
 ·show ((mapBlock (Go.Sort.ahead w n) blk (putCells id 0 (flatK enc k d))).heap++os)[blk]? =_
  rw [Array.getElem?_append_left (by rw [hsz];exact hlt)]
  show (w.heap.modify blk _)[blk]? =_
  rw [Array.getElem?_modify,if_pos rfl,h]
  rfl
 rw [<-Zjg enc k hk d]
 apply List.ext_getElem?
 intro t
 by_cases ht:t<d.size*k
 ·rw [List.getElem?_take,if_pos ht,Array.getElem?_toList,Array.getElem?_toList]
  unfold putCells
  rw [Array.getElem?_mapIdx,Array.getElem?_eq_getElem (by omega:t<cur.size),Array.getElem?_eq_getElem (by simpa using ht)]
  simp only [Option.map_some]
  rw [if_pos ⟨Nat.zero_le _,by simpa using ht⟩,Nat.sub_zero,getElem!_pos _ _ (by simpa using ht)]
  rfl
 rw [List.getElem?_take,if_neg ht,List.getElem?_eq_none (by simp;omega)]
end
end Go.Proofs.YtipjchbdogmccaaGreat
