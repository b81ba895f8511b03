/- MachinesMoves's row: whatever commands came and whatever step comes, the answer is true. MachinesMoves's row: what it says of the program, piece by piece. -/
import Derived.Test.YtipjchbdogmccaaGreatRows
import Derived.Test.YtipjchbdogmccaaGreatBase
import Derived.ProofKit
import Derived.Test.YtipjchbdogmccaaGreatMvW
import Derived.Lib.SmallJoins
import Derived.OpenShut
namespace Go.Proofs.YtipjchbdogmccaaGreat
open Go.RowKit
theorem mo_q1:laidOutB Tryz.prog=true:=by kernel_rfl
theorem mo_q2:mapsRowed Tryz.prog=true:=by kernel_rfl
theorem mo_q3:(Rows.machinesMovesRow.inPlace==Tryz.prog.inPlace 3)=true:=by kernel_rfl
theorem mo_q4:(Rows.machinesMovesRow.unfollowed==Tryz.prog.unfollowed 3)=true:=by kernel_rfl
theorem mo_q5:(Rows.machinesMovesRow.recurses==Tryz.prog.recurses 3)=true:=by kernel_rfl
theorem mo_q6:(Rows.machinesMovesRow.named==Tryz.prog.varsNamed 3)=true:=by kernel_rfl
theorem mo_q7:Tryz.prog.stopsHeard=true:=by kernel_rfl
theorem mo_q8:Tryz.prog.mayEnter=true:=by kernel_rfl
theorem mo_q9:(Rows.machinesMovesRow.lifted==Tryz.prog.liftsFinal)=true:=by kernel_rfl
theorem mo_q10:(Rows.machinesMovesRow.plainKeys==Tryz.prog.plainKeys)=true:=by kernel_rfl
theorem mo_q11:(Tryz.prog.make==some Rows.machinesMovesRow.make)=true:=by kernel_rfl
theorem mo_q12:(Tryz.prog.stops==[])=true:=by kernel_rfl
theorem mo_q13:(Tryz.prog.stopKnobs==[])=true:=by kernel_rfl
theorem mo_k2:joinedFacts Tryz.prog 3 Tryz.f3 Rows.machinesMovesSpec Rows.machinesMovesRow=true:=by
 unfold joinedFacts
 rw [mo_q1,mo_q2,mo_q3,mo_q4,mo_q5,mo_q6,mo_q7,mo_q8,mo_q9,mo_q10,mo_q11,mo_q12,mo_q13]
 kernel_rfl
open Go.Joins Go.Deep Go.WideElems Go.Maps Go.ChangeShapes Go.WideShapes Go.ChangeAt Go.RowKit Go.Rg Go.BigFrame
theorem Zi2:laidOutB Tryz.prog=true:=by kernel_rfl
theorem ownK14:ownKnob Tryz.prog.godebug=none:=by kernel_rfl
set_option maxRecDepth 100000 in
theorem Zcd (os:Os) (started:os.Started) (H:Type) (enc:TypeId×Value->H):
 ReturnsInHanded {} Tryz.checked os 3 .any (Rows.machinesMovesSpec.pre6 enc Tryz.prog Tryz.f3 Rows.machinesMovesRow.domain false) (Rows.machinesMovesSpec.post enc Tryz.prog Tryz.f3 false true false false):=by
 refine returnsInHanded_of_change (C:=Tryz.checked) ownK14 started (by kernel_rfl) Tryz.func3
  (ChangeSpec.witness6 (enc:=enc) (C:=Tryz.checked) false ⟨#[],#[.slice none 0 0,.agg #[.int .u8 0,.int .u8 0,.int .u8 0,.int .u8 0,.int .u8 0,.int .i64 0,.int .i64 0,.int .i64 0,.int .i64 0,.int .u64 0]],[]⟩ 8 (by kernel_rfl) (by kernel_rfl) (by kernel_rfl) (by kernel_rfl)) ?_
 intro W base args ds gs before hval0 hW hcnd _
 have hval:∀(j:Nat) t v,Tryz.f3.params[j]? =some t->args[j]? =some v->Value.okWide Tryz.prog W .any base t v:=hval0
 have hW':=hW
 obtain ⟨p,q,hA0,hV,rfl,hfz,hnd⟩:=hW
 have hA:DataW.TrodAll enc Tryz.prog W 0 (fun _=>true) true Tryz.f3.params.toList args.toList ds p:=hA0
 rw [Tryz.params3] at hA hval
 obtain ⟨v0,v1,d0,d1,p0,p1,rfl,rfl,rfl,h0,h1⟩:=trodAll_two hA
 obtain ⟨rfl,rfl⟩:=trodVars_none hV
 obtain ⟨l,ha,hla⟩:=open_cmds (hval 0 22 v0 rfl rfl) h0
 obtain ⟨x,rfl,hx⟩:=open_stp (hval 1 30 v1 rfl rfl) h1
 clear hA0 hval0
 simp only [List.append_nil] at hW'
 have hlt:∀x∈p0++p1,x.block<W.heap.size:=fun x hx=>by simpa using hW'.lt x hx
 refine (Zpy v0 l x W ha hla hx).mono fun e W' ⟨he,hw⟩=> ?_
 subst he
 have bel:Below W.heap.size W W':=hw
 exact ⟨_,rfl,_,_,_,[],p0++p1,[],hW',trodAll_mk1 (shut_bool Tryz.underlying4 true),trodAll_mk2 (Below.trod Zi2 (by kernel_rfl) (of_decide_eq_true (by kernel_rfl)) h0 bel (fun x hx=>hlt x (by simp [hx]))) (Below.trod Zi2 (by kernel_rfl) (of_decide_eq_true (by kernel_rfl)) h1 bel (fun x hx=>hlt x (by simp [hx]))),rfl,bel.frame _,fun h=>by cases h⟩
theorem Zf8:Tryz.prog.funcNamed Rows.machinesMovesRow.func=some 3:=by kernel_rfl
theorem Zf7:Tryz.f3.isInstance Tryz.prog Rows.machinesMovesRow.origin Rows.machinesMovesRow.targs:=of_decide_eq_true (by kernel_rfl)
theorem Zf6:Tryz.f3.isWrapper Tryz.prog Rows.machinesMovesRow.wrapper Rows.machinesMovesRow.mainSum:=by unfold Func.isWrapper;first | (rw [if_pos (by decide+kernel)];kernel_rfl) | (rw [if_neg (by decide+kernel)];exact ⟨rfl,rfl⟩)
theorem machinesMoves_holds:Rows.MachinesMovesSaid:=
 OpenClaim.holds_of_wide 3 Tryz.f3 rfl rfl rfl rfl rfl rfl rfl ⟨rfl,rfl,rfl,rfl,rfl⟩ rfl rfl rfl rfl rfl Zf8 Tryz.func3 mo_k2 Zf7 Zf6
  (fun os started H enc _=>Zcd os started H enc)
#print axioms machinesMoves_holds
end Go.Proofs.YtipjchbdogmccaaGreat
