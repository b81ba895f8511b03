/- MachinesBatch: what a command does, step by step; the walk. Commands that come in, opened: slices of slices of steps. A machine's state, walked; two states that say the same. -/
import Derived.Test.YtipjchbdogmccaaGreatMv
import Derived.Test.YtipjchbdogmccaaGreatMade
set_option maxRecDepth 100000
namespace Go.Proofs.YtipjchbdogmccaaGreat
open Go.Joins Go.Deep Go.WideElems Go.Maps Go.ChangeShapes Go.WideShapes Go.ChangeAt Go.RowKit Go.Rg Go.BigFrame
abbrev Cmd:=Value×List Stp
def Cmd.cells (x:Cmd):List Value:=[x.1]
def Za9 (w:World) (x:Cmd):Prop:=Z4 w 10 x.1 x.2.length (Zbd x.2)/\∀s∈x.2,s.In
theorem Za9.ext {w w':World} {x:Cmd} (h:Za9 w x) (k:Ext w w'):Za9 w' x:=⟨h.1.ext k,h.2⟩
theorem Zpq (l:List Cmd) (k:Nat) (hk:k<l.length):(l.flatMap Cmd.cells)[k]? =some (l[k]'hk).1:=by
 have:=J9 Cmd.cells 1 (fun _=>rfl) l k 0 hk (by omega)
 rw [Nat.mul_one,Nat.add_zero] at this
 rw [this]
 rfl
theorem list10 {α:Type} {cs:List α} (h:cs.length=10):∃c0 c1 c2 c3 c4 c5 c6 c7 c8 c9,cs=[c0,c1,c2,c3,c4,c5,c6,c7,c8,c9]:=by
 match cs,h with
 | [c0,c1,c2,c3,c4,c5,c6,c7,c8,c9],_=>exact ⟨c0,c1,c2,c3,c4,c5,c6,c7,c8,c9,rfl⟩
section
variable {H:Type} {enc:TypeId×Value->H} {w:World} {base:Nat} {spare:Nat->Bool} {held:Bool}
theorem open_step {fuel:Nat} {cs:List Value} {x:DataW H×List MemPlace} (h:DataW.trod enc Tryz.prog w base spare held fuel 30 cs=some x):∃a:Stp,cs=a.cells/\a.In:=by
 have hu:=Tryz.underlying30
 have hl:=(DataW.trod_struct hu h).choose_spec.choose_spec.2.2.1
 obtain ⟨c0,c1,c2,c3,c4,c5,c6,c7,c8,c9,rfl⟩:=list10 (hl.trans (by kernel_rfl))
 obtain ⟨_,_,h0⟩:=Zai hu h 0 0 1 _ rfl (by kernel_rfl)
 obtain ⟨_,_,h1⟩:=Zai hu h 1 1 1 _ rfl (by kernel_rfl)
 obtain ⟨_,_,h2⟩:=Zai hu h 2 2 1 _ rfl (by kernel_rfl)
 obtain ⟨_,_,h3⟩:=Zai hu h 3 3 1 _ rfl (by kernel_rfl)
 obtain ⟨_,_,h4⟩:=Zai hu h 4 4 1 _ rfl (by kernel_rfl)
 obtain ⟨_,_,h5⟩:=Zai hu h 5 5 1 _ rfl (by kernel_rfl)
 obtain ⟨_,_,h6⟩:=Zai hu h 6 6 1 _ rfl (by kernel_rfl)
 obtain ⟨_,_,hr⟩:=Zai hu h 7 7 2 _ rfl (by kernel_rfl)
 obtain ⟨_,_,h9⟩:=Zai hu h 8 9 1 _ rfl (by kernel_rfl)
 have hv:=Tryz.underlying27
 obtain ⟨_,_,h7⟩:=Zai hv hr 0 0 1 _ rfl (by kernel_rfl)
 obtain ⟨_,_,h8⟩:=Zai hv hr 1 1 1 _ rfl (by kernel_rfl)
 simp only [List.drop_succ_cons,List.drop_zero,List.take_succ_cons,List.take_zero] at h0 h1 h2 h3 h4 h5 h6 h7 h8 h9
 obtain ⟨x0,rfl,_⟩:=J7 Tryz.underlying23 h0
 obtain ⟨x1,rfl,_⟩:=J7 Tryz.underlying24 h1
 obtain ⟨x2,rfl,_⟩:=J7 Tryz.underlying24 h2
 obtain ⟨x3,rfl,_⟩:=J7 Tryz.underlying25 h3
 obtain ⟨x4,rfl,_⟩:=J7 Tryz.underlying25 h4
 obtain ⟨x5,rfl,w5⟩:=J7 Tryz.underlying2 h5
 obtain ⟨x6,rfl,w6⟩:=J7 Tryz.underlying2 h6
 obtain ⟨x7,rfl,w7⟩:=J7 Tryz.underlying2 h7
 obtain ⟨x8,rfl,w8⟩:=J7 Tryz.underlying2 h8
 obtain ⟨x9,rfl,_⟩:=J7 Tryz.underlying28 h9
 exact ⟨⟨x0,x1,x2,x3,x4,x5,x6,x7,x8,x9⟩,rfl,(bounds_i64 w5).2,(bounds_i64 w6).2,(bounds_i64 w7).2,(bounds_i64 w8).2⟩
theorem open_cmdL {fuel:Nat} {cs:List Value} {x:DataW H×List MemPlace} (h:DataW.trod enc Tryz.prog w base spare held fuel 42 cs=some x):∃a:Cmd,cs=a.cells/\Za9 w a:=by
 have hu:=Tryz.underlying42
 have hl:=(DataW.trod_struct hu h).choose_spec.choose_spec.2.2.1
 obtain ⟨v,rfl⟩:=List.length_eq_one_iff.1 (hl.trans (by kernel_rfl))
 obtain ⟨_,_,h0⟩:=Zai hu h 0 0 1 _ rfl (by kernel_rfl)
 simp only [List.drop_zero,List.take_succ_cons,List.take_zero] at h0
 obtain ⟨v',l,e,ha,ho⟩:=Zgb Stp.cells Stp.In 10 (by omega) (fun _=>rfl) Tryz.underlying40 (by kernel_rfl) (fun n cs y=>open_step) h0
 cases e
 exact ⟨(v,l),rfl,ha,ho⟩
theorem Zlf {b0:Nat} {r:Reach} {v:Value} {d:DataW H} {p:List MemPlace} (hv:Value.okWide Tryz.prog w r b0 22 v) (h:DataW.Trod enc Tryz.prog w base spare held 22 v d p):
 ∃l:List Cmd,Z4 w 1 v l.length (l.flatMap Cmd.cells)/\∀x∈l,Za9 w x:=by
 obtain ⟨A,n,cap,rfl⟩:=okWide_slice Tryz.underlying22 hv
 obtain ⟨fuel,hf⟩:=h
 obtain ⟨v',l,e,ha,ho⟩:=Zgb Cmd.cells (Za9 w) 1 (by omega) (fun _=>rfl) Tryz.underlying22 (by kernel_rfl) (fun n cs y=>open_cmdL) hf
 simp only [Value.cells] at e
 cases e
 exact ⟨l,ha,ho⟩
end
end Go.Proofs.YtipjchbdogmccaaGreat
namespace Go.Rg
open Go.RowKit
section
variable {P:Program} {ops:Array Oper} {md:Region.Mode}
end
end Go.Rg
namespace Go.Proofs.YtipjchbdogmccaaGreat
open Go.RowKit Go.Rg Go.BigFrame
theorem Zg2:∀(l:List Stp) (i:Int) (L:Led) (B:Bk) (g:List Gt),(Zav l i L B g).1=0->∃t,(Zav l i L B g).2.2.1=g++t/\t.length=l.length
 | [],_,_,_,g,_=>⟨[],by simp [Zav],rfl⟩
 | s::l,i,L,B,g,h=>by
   by_cases hs:(Vg s L B).2.1=0
   ·rw [Zk5 s l i L B g hs] at h ⊢
    obtain ⟨t,h1,h2⟩:=Zg2 l _ _ _ _ h
    exact ⟨(Vg s L B).1::t,by rw [h1];simp,by simp [h2]⟩
   rw [Ziw s l i L B g hs] at h
   exact absurd h hs
structure AtK (l:List Stp) (L0:Led) (B0:Bk) (k:Nat) (L:Led) (B:Bk) (gl:List Gt):Prop where
 le:k<=l.length
 len:gl.length=k
 run:Zav l 0 L0 B0 []=Zav (l.drop k) k L B gl
theorem AtK.got {l:List Stp} {L0 L:Led} {B0 B:Bk} {k:Nat} {gl:List Gt} (h:AtK l L0 B0 k L B gl) (hn:¬(l.length=0\/8<l.length)) (h0:(Xb l L0 B0).1.1=0):
 ∃t,(Xb l L0 B0).1.2.2=gl++t/\(Xb l L0 B0).1.2.2.length=l.length:=by
 by_cases hr:(Zav l 0 L0 B0 []).1=0
 ·obtain ⟨t,h1,h2⟩:=Zg2 (l.drop k) k L B gl (by rw [<-h.run];exact hr)
  have ha:(Xb l L0 B0).1.2.2=(Zav l 0 L0 B0 []).2.2.1:=by unfold Xb;rw [if_neg hn,if_neg (by simpa using hr)]
  rw [ha,h.run,h1]
  exact ⟨t,rfl,by have:=h.le;have:=h.len;simp [h2];omega⟩
 exfalso
 refine hr ?_
 have ha:(Xb l L0 B0).1.1=(Zav l 0 L0 B0 []).1:=by unfold Xb;rw [if_neg hn,if_pos (by simpa using hr)]
 rw [<-ha];exact h0
theorem load_cmd {w:World} {g k:Nat} {v:Value} (h:w.cell? ⟨g,k,none⟩=some v):(loadVar 42 ⟨g,k,none⟩).run Tryz.prog w= .ok (.agg #[v]) w:=
 Zm w g k 42 [v] _ (fun j u hu=>by
  have hj:j=0:=by have:=(List.getElem?_eq_some_iff.1 hu).1;simp at this;exact this
  subst hj
  simp at hu
  subst hu
  simpa using h) Tryz.underlying42 rfl (by kernel_rfl)
end Go.Proofs.YtipjchbdogmccaaGreat
