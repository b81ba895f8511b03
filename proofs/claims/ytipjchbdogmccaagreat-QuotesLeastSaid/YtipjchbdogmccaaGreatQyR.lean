/- QuotesLeast's row: whatever commands came, whatever swap, the answer is true. -/
import Derived.Test.YtipjchbdogmccaaGreatQy
import Derived.Test.YtipjchbdogmccaaGreatQyK
import Derived.Test.YtipjchbdogmccaaGreatQz
import Derived.Test.YtipjchbdogmccaaGreatRows
import Derived.ProofKit
import Derived.Lib.SmallJoins
import Derived.OpenShut
namespace Go.Proofs.YtipjchbdogmccaaGreat
open Go.Joins Go.Deep Go.WideElems Go.Maps Go.ChangeShapes Go.WideShapes Go.ChangeAt Go.RowKit Go.Rg Go.BigFrame
theorem Zjf:laidOutB Tryz.prog=true:=by kernel_rfl
theorem own_qy:ownKnob Tryz.prog.godebug=none:=by kernel_rfl
set_option maxRecDepth 100000 in
theorem Zee (os:Os) (started:os.Started) (H:Type) (enc:TypeId×Value->H):
 ReturnsInHanded {} Tryz.checked os 12 .any (Rows.quotesLeastSpec.pre6 enc Tryz.prog Tryz.f12 Rows.quotesLeastRow.domain false) (Rows.quotesLeastSpec.post enc Tryz.prog Tryz.f12 false true false false):=by
 refine returnsInHanded_of_change (C:=Tryz.checked) own_qy started (by kernel_rfl) Tryz.func12
  (ChangeSpec.witness6 (enc:=enc) (C:=Tryz.checked) false ⟨#[],#[.slice none 0 0,.agg #[.int .u8 0,.int .u8 0,.int .u8 0,.int .u8 0,.int .i64 0]],[]⟩ 8 (by kernel_rfl) (by kernel_rfl) (by kernel_rfl) (by kernel_rfl)) ?_
 intro W base args ds gs before hval0 hW hcnd _
 have hval:∀(j:Nat) t v,Tryz.f12.params[j]? =some t->args[j]? =some v->Value.okWide Tryz.prog W .any base t v:=hval0
 have hW':=hW
 obtain ⟨p,q,hA0,hV,rfl,hfz,hnd⟩:=hW
 have hA:DataW.TrodAll enc Tryz.prog W 0 (fun _=>true) true Tryz.f12.params.toList args.toList ds p:=hA0
 rw [Tryz.params12] at hA hval
 obtain ⟨v0,v1,d0,d1,p0,p1,rfl,rfl,rfl,h0,h1⟩:=trodAll_two hA
 obtain ⟨rfl,rfl⟩:=trodVars_none hV
 obtain ⟨l,ha,hla⟩:=Zli (hval 0 22 v0 rfl rfl) h0
 obtain ⟨fr,to,get,give,n,rfl,_,_,_,_,b4⟩:=Zef (hval 1 110 v1 rfl rfl) h1
 have c4:=bounds_i64 b4
 clear hA0 hval0
 simp only [List.append_nil] at hW'
 have hlt:∀x∈p0++p1,x.block<W.heap.size:=fun x hx=>by simpa using hW'.lt x hx
 refine (Zqp v0 l fr to get give n W ha hla c4.1 c4.2).mono fun e W' ⟨he,hw⟩=> ?_
 subst he
 have bel:Below W.heap.size W W':=hw
 exact ⟨_,rfl,_,_,_,[],p0++p1,[],hW',trodAll_mk1 (shut_bool Tryz.underlying4 true),trodAll_mk2 (Below.trod Zjf (by kernel_rfl) (of_decide_eq_true (by kernel_rfl)) h0 bel (fun x hx=>hlt x (by simp [hx]))) (Below.trod Zjf (by kernel_rfl) (of_decide_eq_true (by kernel_rfl)) h1 bel (fun x hx=>hlt x (by simp [hx]))),rfl,bel.frame _,fun h=>by cases h⟩
theorem Ziz:Tryz.prog.funcNamed Rows.quotesLeastRow.func=some 12:=by kernel_rfl
theorem Ziy:Tryz.f12.isInstance Tryz.prog Rows.quotesLeastRow.origin Rows.quotesLeastRow.targs:=of_decide_eq_true (by kernel_rfl)
theorem Zix:Tryz.f12.isWrapper Tryz.prog Rows.quotesLeastRow.wrapper Rows.quotesLeastRow.mainSum:=by unfold Func.isWrapper;first | (rw [if_pos (by decide+kernel)];kernel_rfl) | (rw [if_neg (by decide+kernel)];exact ⟨rfl,rfl⟩)
theorem quotesLeast_holds:Rows.QuotesLeastSaid:=
 OpenClaim.holds_of_wide 12 Tryz.f12 rfl rfl rfl rfl rfl rfl rfl ⟨rfl,rfl,rfl,rfl,rfl⟩ rfl rfl rfl rfl rfl Ziz Tryz.func12 qy_k2 Ziy Zix
  (fun os started H enc _=>Zee os started H enc)
#print axioms quotesLeast_holds
end Go.Proofs.YtipjchbdogmccaaGreat
