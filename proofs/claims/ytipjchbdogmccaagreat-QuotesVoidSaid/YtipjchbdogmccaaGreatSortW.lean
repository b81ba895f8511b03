/- The worlds of the kit's sort, as this seat's words have them. A plain sort by insertion; and that there is one sorted list of what can be told apart. -/
import Derived.Test.YtipjchbdogmccaaGreatRgK
import Derived.Shelf.SlSortCmp.WholeK
namespace Go.Proofs.YtipjchbdogmccaaGreat
section
variable {α:Type} (lt:α->α->Bool)
def Zre (x:α):List α->List α
 | []=>[x]
 | y::l=>if lt y x then y::Zre x l else x::y::l
def Jb:List α->List α
 | []=>[]
 | x::l=>Zre lt x (Jb l)
theorem Zgf (x:α):∀l:List α,(Zre lt x l).Perm (x::l)
 | []=>List.Perm.refl _
 | y::l=>by
   unfold Zre
   split
   ·exact ((Zgf x l).cons y).trans (List.Perm.swap x y l)
   exact List.Perm.refl _
theorem X4:∀l:List α,(Jb lt l).Perm l
 | []=>List.Perm.refl _
 | x::l=>(Zgf lt x (Jb lt l)).trans ((X4 l).cons x)
variable {lt}
theorem Zhc {p:α->Prop} (hA:∀x y,p x->p y->lt x y=true->lt y x=false) (hN:∀x y z,p x->p y->p z->lt x y=false->lt y z=false->lt x z=false) (x:α) (hx:p x):
 ∀l:List α,(∀y∈l,p y)->l.Pairwise (fun a b=>lt b a=false)->(Zre lt x l).Pairwise (fun a b=>lt b a=false)
 | [],_,_=>by simp [Zre]
 | y::l,hp,h=>by
   obtain ⟨h1,h2⟩:=List.pairwise_cons.1 h
   have py:=hp y (by simp)
   unfold Zre
   split
   ·rename_i hyx
    refine List.pairwise_cons.2 ⟨fun b hb=> ?_,Zhc hA hN x hx l (fun z hz=>hp z (by simp [hz])) h2⟩
    rcases List.mem_cons.1 ((Zgf lt x l).subset hb) with rfl | hb
    ·exact hA _ _ py hx hyx
    exact h1 b hb
   rename_i hyx
   have hyx':lt y x=false:=by simpa using hyx
   refine List.pairwise_cons.2 ⟨fun b hb=> ?_,h⟩
   rcases List.mem_cons.1 hb with rfl | hb
   ·exact hyx'
   exact hN _ _ _ (hp b (by simp [hb])) py hx (h1 b hb) hyx'
theorem Uq {p:α->Prop} (hA:∀x y,p x->p y->lt x y=true->lt y x=false) (hN:∀x y z,p x->p y->p z->lt x y=false->lt y z=false->lt x z=false):
 ∀l:List α,(∀y∈l,p y)->(Jb lt l).Pairwise (fun a b=>lt b a=false)
 | [],_=>by simp [Jb]
 | x::l,hp=>Zhc hA hN x (hp x (by simp)) (Jb lt l) (fun y hy=>hp y (by have:=(X4 lt l).subset hy;simp [this])) (Uq hA hN l (fun y hy=>hp y (by simp [hy])))
theorem Zbw:∀l1 l2:List α,l1.Perm l2->l1.Pairwise (fun a b=>lt b a=false)->l2.Pairwise (fun a b=>lt b a=false)->(∀x∈l1,∀y∈l1,lt x y=false->lt y x=false->x=y)->l1=l2
 | [],l2,hp,_,_,_=>(List.nil_perm.1 hp).symm
 | x::l1,[],hp,_,_,_=>absurd (List.perm_nil.1 hp) (by simp)
 | x::l1,y::l2,hp,h1,h2,hT=>by
   obtain ⟨a1,b1⟩:=List.pairwise_cons.1 h1
   obtain ⟨a2,b2⟩:=List.pairwise_cons.1 h2
   have hxy:x=y:=by
    by_cases e:x=y
    ·exact e
    have hx:x∈l2:=by
     rcases List.mem_cons.1 (hp.subset (show x∈x::l1 by simp)) with h | h
     ·exact absurd h e
     exact h
    have hy:y∈l1:=by
     rcases List.mem_cons.1 (hp.symm.subset (show y∈y::l2 by simp)) with h | h
     ·exact absurd h.symm e
     exact h
    exact hT x (by simp) y (by simp [hy]) (a2 x hx) (a1 y hy)
   subst hxy
   rw [Zbw l1 l2 (List.Perm.cons_inv hp) b1 b2 (fun a ha b hb=>hT a (by simp [ha]) b (by simp [hb]))]
end
def Vo (x y:Int):Int:=if x<y then -1 else if y<x then 1 else 0
def orI (a b:Int):Int:=if a=0 then b else a
theorem Zas {x y:Int}:Vo x y<0↔x<y:=by unfold Vo;split<;>(try split)<;>omega
theorem Zdp {x y:Int}:Vo x y=0↔x=y:=by unfold Vo;split<;>(try split)<;>omega
theorem Zhz {a b:Int}:orI a b<0↔a<0\/(a=0/\b<0):=by unfold orI;split<;>omega
theorem Zec {n1 d1 n2 d2 n3 d3:Int} (h1:0<d1) (h2:0<d2) (h3:0<d3) (a:n2*d1<=n1*d2) (b:n3*d2<=n2*d3):n3*d1<=n1*d3:=by
 have a':=Int.mul_le_mul_of_nonneg_right a (Int.le_of_lt h3)
 have b':=Int.mul_le_mul_of_nonneg_right b (Int.le_of_lt h1)
 have e1:n2*d1*d3=n2*d3*d1:=by rw [Int.mul_right_comm]
 have e2:n3*d2*d1=n3*d1*d2:=by rw [Int.mul_right_comm]
 have e3:n1*d2*d3=n1*d3*d2:=by rw [Int.mul_right_comm]
 rw [e1,e3] at a'
 rw [e2] at b'
 exact Int.le_of_mul_le_mul_right (Int.le_trans b' a') h2
open Go.RowKit Go.Rg Go.Sort Go.Shelf
section
variable {α:Type} [Inhabited α]
theorem Zjt (enc:α->List Value) (k:Nat) (hk:∀x,(enc x).length=k) (d:Array α):(flatK enc k d).toList=d.toList.flatMap enc:=by
 have hlen:∀l:List α,(l.flatMap enc).length=l.length*k:=by
  intro l
  induction l with
  | nil=>simp
  | cons o l ih=>rw [List.flatMap_cons,List.length_append,ih,hk,List.length_cons,Nat.succ_mul,Nat.add_comm]
 have hat:∀(l:List α) (t:Nat),t<l.length*k->(l.flatMap enc)[t]? =(enc (l.getD (t / k) default))[t%k]? :=by
  intro l
  induction l with
  | nil=>intro t ht;simp at ht
  | cons o l ih=>
    intro t ht
    have k0:0<k:=by
     rcases Nat.eq_zero_or_pos k with h | h
     ·subst h;simp at ht
     exact h
    rw [List.flatMap_cons]
    by_cases h1:t<k
    ·rw [List.getElem?_append_left (by rw [hk];exact h1),Nat.div_eq_of_lt h1,Nat.mod_eq_of_lt h1]
     rfl
    rw [List.getElem?_append_right (by rw [hk];omega),hk,ih (t-k) (by rw [List.length_cons,Nat.succ_mul] at ht;omega)]
    have h2:t / k=(t-k) / k+1:=by rw [Nat.div_eq_sub_div k0 (by omega)]
    have h3:t%k=(t-k)%k:=by rw [Nat.mod_eq_sub_mod (by omega)]
    rw [h2,h3]
    rfl
 apply List.ext_getElem?
 intro t
 by_cases ht:t<d.size*k
 ·rw [hat _ _ (by simpa using ht)]
  have k0:0<k:=by
   rcases Nat.eq_zero_or_pos k with h | h
   ·subst h;simp at ht
   exact h
  have hq:t / k<d.size:=(Nat.div_lt_iff_lt_mul k0).2 ht
  have hr:t%k<k:=Nat.mod_lt _ k0
  have hg:=get_flatK enc k d t ht
  rw [Array.getElem?_toList,Array.getElem?_eq_getElem (by simpa using ht)]
  rw [getElem!_pos _ _ (by simpa using ht)] at hg
  rw [hg,getElem!_pos d _ hq]
  have hd:d.toList.getD (t / k) default=d[t / k]:=by
   rw [List.getD_eq_getElem?_getD,Array.getElem?_toList,Array.getElem?_eq_getElem hq];rfl
  rw [hd,getElem!_pos _ _ (by rw [hk];exact hr),List.getElem?_eq_getElem (by rw [hk];exact hr)]
 rw [List.getElem?_eq_none (by simp;omega),List.getElem?_eq_none (by rw [hlen];simp;omega)]
theorem Zgi (enc:α->List Value) (k:Nat) (hk:∀x,(enc x).length=k) (w:World) (blk:Nat) (cur:Array Value) (e:TypeId) (d:Array α) (h:w.heap[blk]? =some (.cells cur e (0,0))) (hc:cur.toList.take (d.size*k)=d.toList.flatMap enc)
 (hs:d.size*k<=cur.size):HoldsK enc k w blk 0 d:=by
 intro j hj
 have hj':j<d.size*k:=by simpa using hj
 rw [Nat.zero_add]
 refine ⟨?_,by simp [World.frozen?,h]⟩
 rw [<-Zjt enc k hk d] at hc
 have h1:(cur.toList.take (d.size*k))[j]? =(flatK enc k d).toList[j]? :=by rw [hc]
 rw [List.getElem?_take,if_pos hj',Array.getElem?_toList,Array.getElem?_toList,Array.getElem?_eq_getElem (by omega:j<cur.size),Array.getElem?_eq_getElem hj] at h1
 rw [Za h (Array.getElem?_eq_getElem (by omega:j<cur.size)),h1,getElem!_pos (flatK enc k d) j hj]
 rfl
theorem Zcg (enc:α->List Value) (k:Nat) (hk:∀x,(enc x).length=k) (w:World) (blk n:Nat) (cur:Array Value) (e:TypeId) (d:Array α) (os:Array Obj) (h:w.heap[blk]? =some (.cells cur e (0,0))) (hs:d.size*k<=cur.size):
 Keep [blk] w (sortWorldK enc k w blk 0 n d os)/\∃cur',(sortWorldK enc k w blk 0 n d os).heap[blk]? =some (.cells cur' e (0,0))/\cur'.size=cur.size/\cur'.toList.take (d.size*k)=d.toList.flatMap enc:=by
 have hlt:=Zg h
 have hsz:(mapBlock (Go.Sort.ahead w n) blk (putCells id 0 (flatK enc k d))).heap.size=w.heap.size:=by simp [mapBlock,Go.Sort.ahead]
 refine ⟨⟨rfl,rfl,rfl,?_,?_⟩,?_⟩
 ·show w.heap.size<=((mapBlock (Go.Sort.ahead w n) blk (putCells id 0 (flatK enc k d))).heap++os).size
  rw [Array.size_append,hsz];omega
 ·intro i hi hn
  show ((mapBlock (Go.Sort.ahead w n) blk (putCells id 0 (flatK enc k d))).heap++os)[i]? =_
  rw [Array.getElem?_append_left (by rw [hsz];exact hi)]
  show (w.heap.modify blk _)[i]? =_
  rw [Array.getElem?_modify,if_neg (fun h=>hn (by simp [h]))]
 refine ⟨putCells id 0 (flatK enc k d) cur,?_,by simp [putCells],?_⟩
 ·show ((mapBlock (Go.Sort.ahead w n) blk (putCells id 0 (flatK enc k d))).heap++os)[blk]? =_
  rw [Array.getElem?_append_left (by rw [hsz];exact hlt)]
  show (w.heap.modify blk _)[blk]? =_
  rw [Array.getElem?_modify,if_pos rfl,h]
  rfl
 rw [<-Zjt enc k hk d]
 apply List.ext_getElem?
 intro t
 by_cases ht:t<d.size*k
 ·rw [List.getElem?_take,if_pos ht,Array.getElem?_toList,Array.getElem?_toList]
  unfold putCells
  rw [Array.getElem?_mapIdx,Array.getElem?_eq_getElem (by omega:t<cur.size),Array.getElem?_eq_getElem (by simpa using ht)]
  simp only [Option.map_some]
  rw [if_pos ⟨Nat.zero_le _,by simpa using ht⟩,Nat.sub_zero,getElem!_pos _ _ (by simpa using ht)]
  rfl
 rw [List.getElem?_take,if_neg ht,List.getElem?_eq_none (by simp;omega)]
end
end Go.Proofs.YtipjchbdogmccaaGreat
