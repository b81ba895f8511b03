/- QuotesMost's row: whatever commands came, whatever swap, the answer is true. -/
import Derived.Test.YtipjchbdogmccaaGreatQx
import Derived.Test.YtipjchbdogmccaaGreatQxK
import Derived.Test.YtipjchbdogmccaaGreatQz
import Derived.Test.YtipjchbdogmccaaGreatRows
import Derived.ProofKit
import Derived.Lib.SmallJoins
import Derived.OpenShut
namespace Go.Proofs.YtipjchbdogmccaaGreat
open Go.Joins Go.Deep Go.WideElems Go.Maps Go.ChangeShapes Go.WideShapes Go.ChangeAt Go.RowKit Go.Rg Go.BigFrame
theorem Zjg:laidOutB Tryz.prog=true:=by kernel_rfl
theorem own_qx:ownKnob Tryz.prog.godebug=none:=by kernel_rfl
set_option maxRecDepth 100000 in
theorem Zey (os:Os) (started:os.Started) (H:Type) (enc:TypeId×Value->H):
 ReturnsInHanded {} Tryz.checked os 13 .any (Rows.quotesMostSpec.pre6 enc Tryz.prog Tryz.f13 Rows.quotesMostRow.domain false) (Rows.quotesMostSpec.post enc Tryz.prog Tryz.f13 false true false false):=by
 refine returnsInHanded_of_change (C:=Tryz.checked) own_qx started (by kernel_rfl) Tryz.func13
  (ChangeSpec.witness6 (enc:=enc) (C:=Tryz.checked) false ⟨#[],#[.slice none 0 0,.agg #[.int .u8 0,.int .u8 0,.int .u8 0,.int .u8 0,.int .i64 0]],[]⟩ 8 (by kernel_rfl) (by kernel_rfl) (by kernel_rfl) (by kernel_rfl)) ?_
 intro W base args ds gs before hval0 hW hcnd _
 have hval:∀(j:Nat) t v,Tryz.f13.params[j]? =some t->args[j]? =some v->Value.okWide Tryz.prog W .any base t v:=hval0
 have hW':=hW
 obtain ⟨p,q,hA0,hV,rfl,hfz,hnd⟩:=hW
 have hA:DataW.TrodAll enc Tryz.prog W 0 (fun _=>true) true Tryz.f13.params.toList args.toList ds p:=hA0
 rw [Tryz.params13] at hA hval
 obtain ⟨v0,v1,d0,d1,p0,p1,rfl,rfl,rfl,h0,h1⟩:=trodAll_two hA
 obtain ⟨rfl,rfl⟩:=trodVars_none hV
 obtain ⟨l,ha,hla⟩:=Zli (hval 0 22 v0 rfl rfl) h0
 obtain ⟨fr,to,get,give,n,rfl,_,_,_,_,b4⟩:=Zef (hval 1 110 v1 rfl rfl) h1
 have c4:=bounds_i64 b4
 clear hA0 hval0
 simp only [List.append_nil] at hW'
 have hlt:∀x∈p0++p1,x.block<W.heap.size:=fun x hx=>by simpa using hW'.lt x hx
 refine (qmost_any v0 l fr to get give n W ha hla c4.1 c4.2).mono fun e W' ⟨he,hw⟩=> ?_
 subst he
 have bel:Below W.heap.size W W':=hw
 exact ⟨_,rfl,_,_,_,[],p0++p1,[],hW',trodAll_mk1 (shut_bool Tryz.underlying4 true),trodAll_mk2 (Below.trod Zjg (by kernel_rfl) (of_decide_eq_true (by kernel_rfl)) h0 bel (fun x hx=>hlt x (by simp [hx]))) (Below.trod Zjg (by kernel_rfl) (of_decide_eq_true (by kernel_rfl)) h1 bel (fun x hx=>hlt x (by simp [hx]))),rfl,bel.frame _,fun h=>by cases h⟩
theorem Zkk:Tryz.prog.funcNamed Rows.quotesMostRow.func=some 13:=by kernel_rfl
theorem Zkj:Tryz.f13.isInstance Tryz.prog Rows.quotesMostRow.origin Rows.quotesMostRow.targs:=of_decide_eq_true (by kernel_rfl)
theorem Zki:Tryz.f13.isWrapper Tryz.prog Rows.quotesMostRow.wrapper Rows.quotesMostRow.mainSum:=by unfold Func.isWrapper;first | (rw [if_pos (by decide+kernel)];kernel_rfl) | (rw [if_neg (by decide+kernel)];exact ⟨rfl,rfl⟩)
theorem quotesMost_holds:Rows.QuotesMostSaid:=
 OpenClaim.holds_of_wide 13 Tryz.f13 rfl rfl rfl rfl rfl rfl rfl ⟨rfl,rfl,rfl,rfl,rfl⟩ rfl rfl rfl rfl rfl Zkk Tryz.func13 qx_k2 Zkj Zki
  (fun os started H enc _=>Zey os started H enc)
#print axioms quotesMost_holds
end Go.Proofs.YtipjchbdogmccaaGreat
