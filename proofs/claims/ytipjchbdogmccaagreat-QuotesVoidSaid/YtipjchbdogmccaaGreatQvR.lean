/- QuotesVoid's row: whatever the command and what is asked, the answer is true. -/
import Derived.Test.YtipjchbdogmccaaGreatQv
import Derived.Test.YtipjchbdogmccaaGreatQvK
import Derived.Test.YtipjchbdogmccaaGreatQz
import Derived.Test.YtipjchbdogmccaaGreatRows
import Derived.ProofKit
import Derived.Lib.SmallJoins
import Derived.OpenShut
namespace Go.Proofs.YtipjchbdogmccaaGreat
open Go.Joins Go.Deep Go.WideElems Go.Maps Go.ChangeShapes Go.WideShapes Go.ChangeAt Go.RowKit Go.Rg Go.BigFrame
theorem Zjh:laidOutB Tryz.prog=true:=by kernel_rfl
theorem own_qv:ownKnob Tryz.prog.godebug=none:=by kernel_rfl
set_option maxRecDepth 100000 in
theorem Zex (os:Os) (started:os.Started) (H:Type) (enc:TypeId×Value->H):
 ReturnsInHanded {} Tryz.checked os 10 .any (Rows.quotesVoidSpec.pre6 enc Tryz.prog Tryz.f10 Rows.quotesVoidRow.domain false) (Rows.quotesVoidSpec.post enc Tryz.prog Tryz.f10 false true false false):=by
 refine returnsInHanded_of_change (C:=Tryz.checked) own_qv started (by kernel_rfl) Tryz.func10
  (ChangeSpec.witness6 (enc:=enc) (C:=Tryz.checked) false ⟨#[],#[.agg #[.slice none 0 0],.agg #[.int .u8 0,.int .u8 0,.int .u8 0,.int .u8 0,.int .i64 0]],[]⟩ 8 (by kernel_rfl) (by kernel_rfl) (by kernel_rfl) (by kernel_rfl)) ?_
 intro W base args ds gs before hval0 hW hcnd _
 have hval:∀(j:Nat) t v,Tryz.f10.params[j]? =some t->args[j]? =some v->Value.okWide Tryz.prog W .any base t v:=hval0
 have hW':=hW
 obtain ⟨p,q,hA0,hV,rfl,hfz,hnd⟩:=hW
 have hA:DataW.TrodAll enc Tryz.prog W 0 (fun _=>true) true Tryz.f10.params.toList args.toList ds p:=hA0
 rw [Tryz.params10] at hA hval
 obtain ⟨v0,v1,d0,d1,p0,p1,rfl,rfl,rfl,h0,h1⟩:=trodAll_two hA
 obtain ⟨rfl,rfl⟩:=trodVars_none hV
 obtain ⟨cs,rfl,hsz⟩:=okWide_struct Tryz.underlying42 (hval 0 42 v0 rfl rfl)
 obtain ⟨vc,rfl⟩:=Zqw (hsz.trans cmd_one31)
 obtain ⟨fr,to,get,give,n,rfl,_⟩:=Zef (hval 1 110 v1 rfl rfl) h1
 clear hA0 hval0
 simp only [List.append_nil] at hW'
 have hlt:∀x∈p0++p1,x.block<W.heap.size:=fun x hx=>by simpa using hW'.lt x hx
 refine (qvoid_any vc fr to get give n W).mono fun e W' ⟨he,hw⟩=> ?_
 subst he
 have bel:Below W.heap.size W W':=hw
 exact ⟨_,rfl,_,_,_,[],p0++p1,[],hW',trodAll_mk1 (shut_bool Tryz.underlying4 true),trodAll_mk2 (Below.trod Zjh (by kernel_rfl) (of_decide_eq_true (by kernel_rfl)) h0 bel (fun x hx=>hlt x (by simp [hx]))) (Below.trod Zjh (by kernel_rfl) (of_decide_eq_true (by kernel_rfl)) h1 bel (fun x hx=>hlt x (by simp [hx]))),rfl,bel.frame _,fun h=>by cases h⟩
theorem Zkh:Tryz.prog.funcNamed Rows.quotesVoidRow.func=some 10:=by kernel_rfl
theorem Zkg:Tryz.f10.isInstance Tryz.prog Rows.quotesVoidRow.origin Rows.quotesVoidRow.targs:=of_decide_eq_true (by kernel_rfl)
theorem Zkf:Tryz.f10.isWrapper Tryz.prog Rows.quotesVoidRow.wrapper Rows.quotesVoidRow.mainSum:=by unfold Func.isWrapper;first | (rw [if_pos (by decide+kernel)];kernel_rfl) | (rw [if_neg (by decide+kernel)];exact ⟨rfl,rfl⟩)
theorem quotesVoid_holds:Rows.QuotesVoidSaid:=
 OpenClaim.holds_of_wide 10 Tryz.f10 rfl rfl rfl rfl rfl rfl rfl ⟨rfl,rfl,rfl,rfl,rfl⟩ rfl rfl rfl rfl rfl Zkh Tryz.func10 qv_k2 Zkg Zkf
  (fun os started H enc _=>Zex os started H enc)
#print axioms quotesVoid_holds
end Go.Proofs.YtipjchbdogmccaaGreat
