/- MachinesBatch: what a command does, step by step; the walk. -/
import Derived.Test.YtipjchbdogmccaaGreatSta
namespace Go.Proofs.YtipjchbdogmccaaGreat
open Go.RowKit Go.Rg Go.BigFrame
theorem apply_one (s:Stp) (L:Led) (B:Bk):Yd [s] L B=if (Z0 s L B).2.1≠0 then (((Z0 s L B).2.1,0,[]),L,B) else ((0,0,[(Z0 s L B).1]),(Z0 s L B).2.2.1,(Z0 s L B).2.2.2):=by
 have hn:¬([s].length=0\/8<[s].length):=by simp
 by_cases h:(Z0 s L B).2.1=0
 ·rw [if_neg (by simpa using h)]
  exact Ze9 (L':=(Z0 s L B).2.2.1) hn L B (i:=0) ((Zbq s [] 0 L B [] h).trans rfl)
 rw [if_pos (by simpa using h)]
 exact Zd7 hn L B (Zbr s [] 0 L B [] h) h
theorem Zha:∀(l:List Stp) (i:Int) (L:Led) (B:Bk) (g:List Gt),(Us l i L B g).1=0->∃t,(Us l i L B g).2.2.1=g++t/\t.length=l.length
 | [],_,_,_,g,_=>⟨[],by simp [Us],rfl⟩
 | s::l,i,L,B,g,h=>by
   by_cases hs:(Z0 s L B).2.1=0
   ·rw [Zbq s l i L B g hs] at h ⊢
    obtain ⟨t,h1,h2⟩:=Zha l _ _ _ _ h
    exact ⟨(Z0 s L B).1::t,by rw [h1];simp,by simp [h2]⟩
   rw [Zbr s l i L B g hs] at h
   exact absurd h hs
structure AtK (l:List Stp) (L0:Led) (B0:Bk) (k:Nat) (L:Led) (B:Bk) (gl:List Gt):Prop where
 le:k<=l.length
 len:gl.length=k
 run:Us l 0 L0 B0 []=Us (l.drop k) k L B gl
theorem AtK.start (l:List Stp) (L:Led) (B:Bk):AtK l L B 0 L B []:=⟨Nat.zero_le _,rfl,rfl⟩
theorem AtK.bad {l:List Stp} {L0 L:Led} {B0 B:Bk} {k:Nat} {gl:List Gt} (h:AtK l L0 B0 k L B gl) (hn:¬(l.length=0\/8<l.length)) (hk:k<l.length) (he:(Z0 (l[k]'hk) L B).2.1≠0):
 Yd l L0 B0=(((Z0 (l[k]'hk) L B).2.1,(k:Int),[]),L0,B0):=by
 have hr:=h.run
 rw [List.drop_eq_getElem_cons hk,Zbr _ _ _ _ _ _ he] at hr
 exact Zd7 hn L0 B0 hr he
theorem AtK.next {l:List Stp} {L0 L:Led} {B0 B:Bk} {k:Nat} {gl:List Gt} (h:AtK l L0 B0 k L B gl) (hk:k<l.length) (he:(Z0 (l[k]'hk) L B).2.1=0):
 AtK l L0 B0 (k+1) (Z0 (l[k]'hk) L B).2.2.1 (Z0 (l[k]'hk) L B).2.2.2 (gl++[(Z0 (l[k]'hk) L B).1]):=by
 have hr:=h.run
 rw [List.drop_eq_getElem_cons hk,Zbq _ _ _ _ _ _ he] at hr
 exact ⟨hk,by simp [h.len],by rw [hr,show (((k+1:Nat)):Int)=(k:Int)+1 by omega]⟩
theorem AtK.got {l:List Stp} {L0 L:Led} {B0 B:Bk} {k:Nat} {gl:List Gt} (h:AtK l L0 B0 k L B gl) (hn:¬(l.length=0\/8<l.length)) (h0:(Yd l L0 B0).1.1=0):
 ∃t,(Yd l L0 B0).1.2.2=gl++t/\(Yd l L0 B0).1.2.2.length=l.length:=by
 by_cases hr:(Us l 0 L0 B0 []).1=0
 ·obtain ⟨t,h1,h2⟩:=Zha (l.drop k) k L B gl (by rw [<-h.run];exact hr)
  have ha:(Yd l L0 B0).1.2.2=(Us l 0 L0 B0 []).2.2.1:=by unfold Yd;rw [if_neg hn,if_neg (by simpa using hr)]
  rw [ha,h.run,h1]
  exact ⟨t,rfl,by have:=h.le;have:=h.len;simp [h2];omega⟩
 exfalso
 refine hr ?_
 have ha:(Yd l L0 B0).1.1=(Us l 0 L0 B0 []).1:=by unfold Yd;rw [if_neg hn,if_pos (by simpa using hr)]
 rw [<-ha];exact h0
theorem AtK.done {l:List Stp} {L0 L:Led} {B0 B:Bk} {gl:List Gt} (h:AtK l L0 B0 l.length L B gl) (hn:¬(l.length=0\/8<l.length)):Yd l L0 B0=((0,0,gl),L,B):=
 Ze9 hn L0 B0 (i:=0) (by rw [h.run,List.drop_length];rfl)
theorem Zpi {w:World} {g k:Nat} {v:Value} (h:w.cell? ⟨g,k,none⟩=some v):(loadVar 42 ⟨g,k,none⟩).run Tryz.prog w= .ok (.agg #[v]) w:=
 Zr w g k 42 [v] _ (fun j u hu=>by
  have hj:j=0:=by have:=(List.getElem?_eq_some_iff.1 hu).1;simp at this;exact this
  subst hj
  simp at hu
  subst hu
  simpa using h) Tryz.underlying42 rfl (by kernel_rfl)
end Go.Proofs.YtipjchbdogmccaaGreat
