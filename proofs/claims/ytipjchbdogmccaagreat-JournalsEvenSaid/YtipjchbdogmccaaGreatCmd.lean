/- Commands that come in, opened: slices of slices of steps. -/
import Derived.Test.YtipjchbdogmccaaGreatMv
import Derived.Test.YtipjchbdogmccaaGreatMade
set_option maxRecDepth 100000
namespace Go.Proofs.YtipjchbdogmccaaGreat
open Go.Joins Go.Deep Go.WideElems Go.Maps Go.ChangeShapes Go.WideShapes Go.ChangeAt Go.RowKit Go.Rg Go.BigFrame
abbrev Cmd:=Value×List Stp
def Cmd.cells (x:Cmd):List Value:=[x.1]
def Zdo (w:World) (x:Cmd):Prop:=Vv w 10 x.1 x.2.length (Vr x.2)/\∀s∈x.2,s.In
theorem Zdo.ext {w w':World} {x:Cmd} (h:Zdo w x) (k:Ext w w'):Zdo w' x:=⟨h.1.ext k,h.2⟩
theorem Zbe (l:List Cmd) (k:Nat) (hk:k<l.length):(l.flatMap Cmd.cells)[k]? =some (l[k]'hk).1:=by
 have:=Zd3 Cmd.cells 1 (fun _=>rfl) l k 0 hk (by omega)
 rw [Nat.mul_one,Nat.add_zero] at this
 rw [this]
 rfl
theorem list10 {α:Type} {cs:List α} (h:cs.length=10):∃c0 c1 c2 c3 c4 c5 c6 c7 c8 c9,cs=[c0,c1,c2,c3,c4,c5,c6,c7,c8,c9]:=by
 match cs,h with
 | [c0,c1,c2,c3,c4,c5,c6,c7,c8,c9],_=>exact ⟨c0,c1,c2,c3,c4,c5,c6,c7,c8,c9,rfl⟩
section
variable {H:Type} {enc:TypeId×Value->H} {w:World} {base:Nat} {spare:Nat->Bool} {held:Bool}
theorem open_step {fuel:Nat} {cs:List Value} {x:DataW H×List MemPlace} (h:DataW.trod enc Tryz.prog w base spare held fuel 30 cs=some x):∃a:Stp,cs=a.cells/\a.In:=by
 have hu:=Tryz.underlying30
 have hl:=(DataW.trod_struct hu h).choose_spec.choose_spec.2.2.1
 obtain ⟨c0,c1,c2,c3,c4,c5,c6,c7,c8,c9,rfl⟩:=list10 (hl.trans (by kernel_rfl))
 obtain ⟨_,_,h0⟩:=Zai hu h 0 0 1 _ rfl (by kernel_rfl)
 obtain ⟨_,_,h1⟩:=Zai hu h 1 1 1 _ rfl (by kernel_rfl)
 obtain ⟨_,_,h2⟩:=Zai hu h 2 2 1 _ rfl (by kernel_rfl)
 obtain ⟨_,_,h3⟩:=Zai hu h 3 3 1 _ rfl (by kernel_rfl)
 obtain ⟨_,_,h4⟩:=Zai hu h 4 4 1 _ rfl (by kernel_rfl)
 obtain ⟨_,_,h5⟩:=Zai hu h 5 5 1 _ rfl (by kernel_rfl)
 obtain ⟨_,_,h6⟩:=Zai hu h 6 6 1 _ rfl (by kernel_rfl)
 obtain ⟨_,_,hr⟩:=Zai hu h 7 7 2 _ rfl (by kernel_rfl)
 obtain ⟨_,_,h9⟩:=Zai hu h 8 9 1 _ rfl (by kernel_rfl)
 have hv:=Tryz.underlying27
 obtain ⟨_,_,h7⟩:=Zai hv hr 0 0 1 _ rfl (by kernel_rfl)
 obtain ⟨_,_,h8⟩:=Zai hv hr 1 1 1 _ rfl (by kernel_rfl)
 simp only [List.drop_succ_cons,List.drop_zero,List.take_succ_cons,List.take_zero] at h0 h1 h2 h3 h4 h5 h6 h7 h8 h9
 obtain ⟨x0,rfl,_⟩:=J5 Tryz.underlying23 h0
 obtain ⟨x1,rfl,_⟩:=J5 Tryz.underlying24 h1
 obtain ⟨x2,rfl,_⟩:=J5 Tryz.underlying24 h2
 obtain ⟨x3,rfl,_⟩:=J5 Tryz.underlying25 h3
 obtain ⟨x4,rfl,_⟩:=J5 Tryz.underlying25 h4
 obtain ⟨x5,rfl,w5⟩:=J5 Tryz.underlying2 h5
 obtain ⟨x6,rfl,w6⟩:=J5 Tryz.underlying2 h6
 obtain ⟨x7,rfl,w7⟩:=J5 Tryz.underlying2 h7
 obtain ⟨x8,rfl,w8⟩:=J5 Tryz.underlying2 h8
 obtain ⟨x9,rfl,_⟩:=J5 Tryz.underlying28 h9
 exact ⟨⟨x0,x1,x2,x3,x4,x5,x6,x7,x8,x9⟩,rfl,(bounds_i64 w5).2,(bounds_i64 w6).2,(bounds_i64 w7).2,(bounds_i64 w8).2⟩
theorem open_cmdL {fuel:Nat} {cs:List Value} {x:DataW H×List MemPlace} (h:DataW.trod enc Tryz.prog w base spare held fuel 42 cs=some x):∃a:Cmd,cs=a.cells/\Zdo w a:=by
 have hu:=Tryz.underlying42
 have hl:=(DataW.trod_struct hu h).choose_spec.choose_spec.2.2.1
 obtain ⟨v,rfl⟩:=List.length_eq_one_iff.1 (hl.trans (by kernel_rfl))
 obtain ⟨_,_,h0⟩:=Zai hu h 0 0 1 _ rfl (by kernel_rfl)
 simp only [List.drop_zero,List.take_succ_cons,List.take_zero] at h0
 obtain ⟨v',l,e,ha,ho⟩:=Zl1 Stp.cells Stp.In 10 (by omega) (fun _=>rfl) Tryz.underlying40 (by kernel_rfl) (fun n cs y=>open_step) h0
 cases e
 exact ⟨(v,l),rfl,ha,ho⟩
theorem Zl0 {b0:Nat} {r:Reach} {v:Value} {d:DataW H} {p:List MemPlace} (hv:Value.okWide Tryz.prog w r b0 22 v) (h:DataW.Trod enc Tryz.prog w base spare held 22 v d p):
 ∃l:List Cmd,Vv w 1 v l.length (l.flatMap Cmd.cells)/\∀x∈l,Zdo w x:=by
 obtain ⟨A,n,cap,rfl⟩:=okWide_slice Tryz.underlying22 hv
 obtain ⟨fuel,hf⟩:=h
 obtain ⟨v',l,e,ha,ho⟩:=Zl1 Cmd.cells (Zdo w) 1 (by omega) (fun _=>rfl) Tryz.underlying22 (by kernel_rfl) (fun n cs y=>open_cmdL) hf
 simp only [Value.cells] at e
 cases e
 exact ⟨l,ha,ho⟩
end
end Go.Proofs.YtipjchbdogmccaaGreat
