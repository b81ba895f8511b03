/- JournalsEven's row: whatever commands came ahead and come behind, the answer is true. -/
import Derived.Test.YtipjchbdogmccaaGreatJev
import Derived.Test.YtipjchbdogmccaaGreatJevK
import Derived.Test.YtipjchbdogmccaaGreatRows
import Derived.ProofKit
import Derived.Lib.SmallJoins
import Derived.OpenShut
namespace Go.Proofs.YtipjchbdogmccaaGreat
open Go.Joins Go.Deep Go.WideElems Go.Maps Go.ChangeShapes Go.WideShapes Go.ChangeAt Go.RowKit Go.Rg Go.BigFrame
theorem Zhl:laidOutB Tryz.prog=true:=by kernel_rfl
theorem own_jev:ownKnob Tryz.prog.godebug=none:=by kernel_rfl
set_option maxRecDepth 100000 in
theorem Zec (os:Os) (started:os.Started) (H:Type) (enc:TypeId×Value->H):
 ReturnsInHanded {} Tryz.checked os 6 .any (Rows.journalsEvenSpec.pre6 enc Tryz.prog Tryz.f6 Rows.journalsEvenRow.domain false) (Rows.journalsEvenSpec.post enc Tryz.prog Tryz.f6 false true false false):=by
 refine returnsInHanded_of_change (C:=Tryz.checked) own_jev started (by kernel_rfl) Tryz.func6
  (ChangeSpec.witness6 (enc:=enc) (C:=Tryz.checked) false ⟨#[],#[.slice none 0 0,.slice none 0 0],[]⟩ 8 (by kernel_rfl) (by kernel_rfl) (by kernel_rfl) (by kernel_rfl)) ?_
 intro W base args ds gs before hval0 hW hcnd _
 have hval:∀(j:Nat) t v,Tryz.f6.params[j]? =some t->args[j]? =some v->Value.okWide Tryz.prog W .any base t v:=hval0
 have hW':=hW
 obtain ⟨p,q,hA0,hV,rfl,hfz,hnd⟩:=hW
 have hA:DataW.TrodAll enc Tryz.prog W 0 (fun _=>true) true Tryz.f6.params.toList args.toList ds p:=hA0
 rw [Tryz.params6] at hA hval
 obtain ⟨v0,v1,d0,d1,p0,p1,rfl,rfl,rfl,h0,h1⟩:=trodAll_two hA
 obtain ⟨rfl,rfl⟩:=trodVars_none hV
 obtain ⟨l,ha,hla⟩:=Zl0 (hval 0 22 v0 rfl rfl) h0
 obtain ⟨more,hb,hlb⟩:=Zl0 (hval 1 22 v1 rfl rfl) h1
 clear hA0 hval0
 simp only [List.append_nil] at hW'
 have hlt:∀x∈p0++p1,x.block<W.heap.size:=fun x hx=>by simpa using hW'.lt x hx
 refine (jeven_any v0 v1 l more W ha hla hb hlb).mono fun e W' ⟨he,hw⟩=> ?_
 subst he
 have bel:Below W.heap.size W W':=hw
 exact ⟨_,rfl,_,_,_,[],p0++p1,[],hW',trodAll_mk1 (shut_bool Tryz.underlying4 true),trodAll_mk2 (Below.trod Zhl (by kernel_rfl) (of_decide_eq_true (by kernel_rfl)) h0 bel (fun x hx=>hlt x (by simp [hx]))) (Below.trod Zhl (by kernel_rfl) (of_decide_eq_true (by kernel_rfl)) h1 bel (fun x hx=>hlt x (by simp [hx]))),rfl,bel.frame _,fun h=>by cases h⟩
theorem Zh7:Tryz.prog.funcNamed Rows.journalsEvenRow.func=some 6:=by kernel_rfl
theorem Zh6:Tryz.f6.isInstance Tryz.prog Rows.journalsEvenRow.origin Rows.journalsEvenRow.targs:=of_decide_eq_true (by kernel_rfl)
theorem Zh5:Tryz.f6.isWrapper Tryz.prog Rows.journalsEvenRow.wrapper Rows.journalsEvenRow.mainSum:=by unfold Func.isWrapper;first | (rw [if_pos (by decide+kernel)];kernel_rfl) | (rw [if_neg (by decide+kernel)];exact ⟨rfl,rfl⟩)
theorem journalsEven_holds:Rows.JournalsEvenSaid:=
 OpenClaim.holds_of_wide 6 Tryz.f6 rfl rfl rfl rfl rfl rfl rfl ⟨rfl,rfl,rfl,rfl,rfl⟩ rfl rfl rfl rfl rfl Zh7 Tryz.func6 jev_k2 Zh6 Zh5
  (fun os started H enc _=>Zec os started H enc)
#print axioms journalsEven_holds
end Go.Proofs.YtipjchbdogmccaaGreat
