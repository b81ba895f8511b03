/- A plain sort by insertion; and that there is one sorted list of what can be told apart. -/
namespace Go.Proofs.YtipjchbdogmccaaGreat
section
variable {α:Type} (lt:α->α->Bool)
def Zqe (x:α):List α->List α
 | []=>[x]
 | y::l=>if lt y x then y::Zqe x l else x::y::l
def Jf:List α->List α
 | []=>[]
 | x::l=>Zqe lt x (Jf l)
theorem Zgf (x:α):∀l:List α,(Zqe lt x l).Perm (x::l)
 | []=>List.Perm.refl _
 | y::l=>by
   unfold Zqe
   split
   ·exact ((Zgf x l).cons y).trans (List.Perm.swap x y l)
   exact List.Perm.refl _
theorem Xd:∀l:List α,(Jf lt l).Perm l
 | []=>List.Perm.refl _
 | x::l=>(Zgf lt x (Jf lt l)).trans ((Xd l).cons x)
variable {lt}
theorem Zg5 {p:α->Prop} (hA:∀x y,p x->p y->lt x y=true->lt y x=false) (hN:∀x y z,p x->p y->p z->lt x y=false->lt y z=false->lt x z=false) (x:α) (hx:p x):
 ∀l:List α,(∀y∈l,p y)->l.Pairwise (fun a b=>lt b a=false)->(Zqe lt x l).Pairwise (fun a b=>lt b a=false)
 | [],_,_=>by simp [Zqe]
 | y::l,hp,h=>by
   obtain ⟨h1,h2⟩:=List.pairwise_cons.1 h
   have py:=hp y (by simp)
   unfold Zqe
   split
   ·rename_i hyx
    refine List.pairwise_cons.2 ⟨fun b hb=> ?_,Zg5 hA hN x hx l (fun z hz=>hp z (by simp [hz])) h2⟩
    rcases List.mem_cons.1 ((Zgf lt x l).subset hb) with rfl | hb
    ·exact hA _ _ py hx hyx
    exact h1 b hb
   rename_i hyx
   have hyx':lt y x=false:=by simpa using hyx
   refine List.pairwise_cons.2 ⟨fun b hb=> ?_,h⟩
   rcases List.mem_cons.1 hb with rfl | hb
   ·exact hyx'
   exact hN _ _ _ (hp b (by simp [hb])) py hx (h1 b hb) hyx'
theorem U5 {p:α->Prop} (hA:∀x y,p x->p y->lt x y=true->lt y x=false) (hN:∀x y z,p x->p y->p z->lt x y=false->lt y z=false->lt x z=false):
 ∀l:List α,(∀y∈l,p y)->(Jf lt l).Pairwise (fun a b=>lt b a=false)
 | [],_=>by simp [Jf]
 | x::l,hp=>Zg5 hA hN x (hp x (by simp)) (Jf lt l) (fun y hy=>hp y (by have:=(Xd lt l).subset hy;simp [this])) (U5 hA hN l (fun y hy=>hp y (by simp [hy])))
theorem Zbh:∀l1 l2:List α,l1.Perm l2->l1.Pairwise (fun a b=>lt b a=false)->l2.Pairwise (fun a b=>lt b a=false)->(∀x∈l1,∀y∈l1,lt x y=false->lt y x=false->x=y)->l1=l2
 | [],l2,hp,_,_,_=>(List.nil_perm.1 hp).symm
 | x::l1,[],hp,_,_,_=>absurd (List.perm_nil.1 hp) (by simp)
 | x::l1,y::l2,hp,h1,h2,hT=>by
   obtain ⟨a1,b1⟩:=List.pairwise_cons.1 h1
   obtain ⟨a2,b2⟩:=List.pairwise_cons.1 h2
   have hxy:x=y:=by
    by_cases e:x=y
    ·exact e
    have hx:x∈l2:=by
     rcases List.mem_cons.1 (hp.subset (show x∈x::l1 by simp)) with h | h
     ·exact absurd h e
     exact h
    have hy:y∈l1:=by
     rcases List.mem_cons.1 (hp.symm.subset (show y∈y::l2 by simp)) with h | h
     ·exact absurd h.symm e
     exact h
    exact hT x (by simp) y (by simp [hy]) (a2 x hx) (a1 y hy)
   subst hxy
   rw [Zbh l1 l2 (List.Perm.cons_inv hp) b1 b2 (fun a ha b hb=>hT a (by simp [ha]) b (by simp [hb]))]
end
def Vz (x y:Int):Int:=if x<y then -1 else if y<x then 1 else 0
def orI (a b:Int):Int:=if a=0 then b else a
theorem Zak {x y:Int}:Vz x y<0↔x<y:=by unfold Vz;split<;>(try split)<;>omega
theorem Zdi {x y:Int}:Vz x y=0↔x=y:=by unfold Vz;split<;>(try split)<;>omega
theorem Zhr {a b:Int}:orI a b<0↔a<0\/(a=0/\b<0):=by unfold orI;split<;>omega
theorem Zea {n1 d1 n2 d2 n3 d3:Int} (h1:0<d1) (h2:0<d2) (h3:0<d3) (a:n2*d1<=n1*d2) (b:n3*d2<=n2*d3):n3*d1<=n1*d3:=by
 have a':=Int.mul_le_mul_of_nonneg_right a (Int.le_of_lt h3)
 have b':=Int.mul_le_mul_of_nonneg_right b (Int.le_of_lt h1)
 have e1:n2*d1*d3=n2*d3*d1:=by rw [Int.mul_right_comm]
 have e2:n3*d2*d1=n3*d1*d2:=by rw [Int.mul_right_comm]
 have e3:n1*d2*d3=n1*d3*d2:=by rw [Int.mul_right_comm]
 rw [e1,e3] at a'
 rw [e2] at b'
 exact Int.le_of_mul_le_mul_right (Int.le_trans b' a') h2
end Go.Proofs.YtipjchbdogmccaaGreat
