/- What is asked of quotes, opened. What is asked of a journal, opened. -/
import Derived.Test.YtipjchbdogmccaaGreatBatch
set_option maxRecDepth 100000
namespace Go.Proofs.YtipjchbdogmccaaGreat
open Go.Joins Go.Deep Go.WideElems Go.Maps Go.ChangeShapes Go.WideShapes Go.ChangeAt Go.RowKit Go.Rg Go.BigFrame
theorem cmd_one32:Tryz.prog.cellsOf 42=1:=by kernel_rfl
theorem Zqv {cs:Array Value} (h:cs.size=1):∃v,cs=#[v]:=by
 obtain ⟨l⟩:=cs
 match l,h with
 | [v],_=>exact ⟨v,rfl⟩
section
variable {H:Type} {enc:TypeId×Value->H} {w:World} {base:Nat} {spare:Nat->Bool} {held:Bool}
end
theorem cmd_one31:Tryz.prog.cellsOf 42=1:=cmd_one32
theorem Zqw {cs:Array Value} (h:cs.size=1):∃v,cs=#[v]:=Zqv h
section
variable {H:Type} {enc:TypeId×Value->H} {w:World} {base:Nat} {spare:Nat->Bool} {held:Bool}
theorem Zof {fuel:Nat} {cs:List Value} {x:DataW H×List MemPlace} (h:DataW.trod enc Tryz.prog w base spare held fuel 110 cs=some x):
 ∃fr to get give n:Int,cs=[.int .u8 fr,.int .u8 to,.int .u8 get,.int .u8 give,.int .i64 n]/\(Lit.int .u8 fr).wf=true/\(Lit.int .u8 to).wf=true/\(Lit.int .u8 get).wf=true/\(Lit.int .u8 give).wf=true/\(Lit.int .i64 n).wf=true:=by
 have hu:=Tryz.underlying110
 have hl:=(DataW.trod_struct hu h).choose_spec.choose_spec.2.2.1
 obtain ⟨c0,c1,c2,c3,c4,rfl⟩:=list5 (hl.trans (by kernel_rfl))
 obtain ⟨_,_,h0⟩:=V0 hu h 0 0 1 _ rfl (by kernel_rfl)
 obtain ⟨_,_,h1⟩:=V0 hu h 1 1 1 _ rfl (by kernel_rfl)
 obtain ⟨_,_,h2⟩:=V0 hu h 2 2 1 _ rfl (by kernel_rfl)
 obtain ⟨_,_,h3⟩:=V0 hu h 3 3 1 _ rfl (by kernel_rfl)
 obtain ⟨_,_,h4⟩:=V0 hu h 4 4 1 _ rfl (by kernel_rfl)
 simp only [List.drop_succ_cons,List.drop_zero,List.take_succ_cons,List.take_zero] at h0 h1 h2 h3 h4
 obtain ⟨x0,rfl,w0⟩:=Vh Tryz.underlying24 h0
 obtain ⟨x1,rfl,w1⟩:=Vh Tryz.underlying24 h1
 obtain ⟨x2,rfl,w2⟩:=Vh Tryz.underlying25 h2
 obtain ⟨x3,rfl,w3⟩:=Vh Tryz.underlying25 h3
 obtain ⟨x4,rfl,w4⟩:=Vh Tryz.underlying2 h4
 exact ⟨x0,x1,x2,x3,x4,rfl,w0,w1,w2,w3,w4⟩
theorem Zef {b0:Nat} {r:Reach} {v:Value} {d:DataW H} {p:List MemPlace} (hv:Value.okWide Tryz.prog w r b0 110 v) (h:DataW.Trod enc Tryz.prog w base spare held 110 v d p):
 ∃fr to get give n:Int,v= .agg #[.int .u8 fr,.int .u8 to,.int .u8 get,.int .u8 give,.int .i64 n]/\(Lit.int .u8 fr).wf=true/\(Lit.int .u8 to).wf=true/\(Lit.int .u8 get).wf=true/\(Lit.int .u8 give).wf=true/\(Lit.int .i64 n).wf=true:=by
 obtain ⟨cs,rfl,hsz⟩:=okWide_struct Tryz.underlying110 hv
 obtain ⟨fuel,hf⟩:=h
 obtain ⟨fr,to,get,give,n,ha,hb⟩:=Zof hf
 refine ⟨fr,to,get,give,n,?_,hb⟩
 obtain ⟨l⟩:=cs
 simp only [Value.cells] at ha
 have:l=[.int .u8 fr,.int .u8 to,.int .u8 get,.int .u8 give,.int .i64 n]:=by simpa using ha
 subst this
 rfl
end
end Go.Proofs.YtipjchbdogmccaaGreat
