/- JournalsChain's row: whatever commands came ahead and come behind, the answer is true. -/
import Derived.Test.YtipjchbdogmccaaGreatJch
import Derived.Test.YtipjchbdogmccaaGreatJchK
import Derived.Test.YtipjchbdogmccaaGreatBatch
import Derived.Test.YtipjchbdogmccaaGreatRows
import Derived.ProofKit
import Derived.Lib.SmallJoins
import Derived.OpenShut
namespace Go.Proofs.YtipjchbdogmccaaGreat
open Go.Joins Go.Deep Go.WideElems Go.Maps Go.ChangeShapes Go.WideShapes Go.ChangeAt Go.RowKit Go.Rg Go.BigFrame
theorem Zdh:laidOutB Tryz.prog=true:=by kernel_rfl
theorem own_jch:ownKnob Tryz.prog.godebug=none:=by kernel_rfl
set_option maxRecDepth 100000 in
theorem Zdi (os:Os) (started:os.Started) (H:Type) (enc:TypeId×Value->H):
 ReturnsInHanded {} Tryz.checked os 7 .any (Rows.journalsChainSpec.pre6 enc Tryz.prog Tryz.f7 Rows.journalsChainRow.domain false) (Rows.journalsChainSpec.post enc Tryz.prog Tryz.f7 false true false false):=by
 refine returnsInHanded_of_change (C:=Tryz.checked) own_jch started (by kernel_rfl) Tryz.func7
  (ChangeSpec.witness6 (enc:=enc) (C:=Tryz.checked) false ⟨#[],#[.slice none 0 0,.slice none 0 0,.agg #[.int .u8 0,.int .u8 0,.int .i64 0]],[]⟩ 8 (by kernel_rfl) (by kernel_rfl) (by kernel_rfl) (by kernel_rfl)) ?_
 intro W base args ds gs before hval0 hW hcnd _
 have hval:∀(j:Nat) t v,Tryz.f7.params[j]? =some t->args[j]? =some v->Value.okWide Tryz.prog W .any base t v:=hval0
 have hW':=hW
 obtain ⟨p,q,hA0,hV,rfl,hfz,hnd⟩:=hW
 have hA:DataW.TrodAll enc Tryz.prog W 0 (fun _=>true) true Tryz.f7.params.toList args.toList ds p:=hA0
 rw [Tryz.params7] at hA hval
 obtain ⟨v0,v1,v2,d0,d1,d2,p0,p1,p2,rfl,rfl,rfl,h0,h1,h2⟩:=trodAll_three hA
 obtain ⟨rfl,rfl⟩:=trodVars_none hV
 obtain ⟨l,ha,hla⟩:=Zd8 (hval 0 22 v0 rfl rfl) h0
 obtain ⟨more,hb,hlb⟩:=Zd8 (hval 1 22 v1 rfl rfl) h1
 obtain ⟨pa,cu,at_,rfl,b0,b1,b2⟩:=Zjv (hval 2 88 v2 rfl rfl) h2
 have c0:=bounds_u8 b0
 have c1:=bounds_u8 b1
 have c2:=bounds_i64 b2
 clear hA0 hval0
 simp only [List.append_nil] at hW'
 have hlt:∀x∈p0++p1++p2,x.block<W.heap.size:=fun x hx=>by simpa using hW'.lt x hx
 refine (Zr9 v0 v1 pa cu at_ l more W ha hla hb hlb c0.1 c0.2 c1.1 c1.2 c2.1 c2.2).mono fun e W' ⟨he,hw⟩=> ?_
 subst he
 have bel:Below W.heap.size W W':=hw
 exact ⟨_,rfl,_,_,_,[],p0++p1++p2,[],hW',trodAll_mk1 (shut_bool Tryz.underlying4 true),(by rw [List.append_assoc];exact trodAll_mk3 (Below.trod Zdh (by kernel_rfl) (of_decide_eq_true (by kernel_rfl)) h0 bel (fun x hx=>hlt x (by simp [hx]))) (Below.trod Zdh (by kernel_rfl) (of_decide_eq_true (by kernel_rfl)) h1 bel (fun x hx=>hlt x (by simp [hx]))) (Below.trod Zdh (by kernel_rfl) (of_decide_eq_true (by kernel_rfl)) h2 bel (fun x hx=>hlt x (by simp [hx])))),rfl,bel.frame _,fun h=>by cases h⟩
theorem Zhf:Tryz.prog.funcNamed Rows.journalsChainRow.func=some 7:=by kernel_rfl
theorem Zhe:Tryz.f7.isInstance Tryz.prog Rows.journalsChainRow.origin Rows.journalsChainRow.targs:=of_decide_eq_true (by kernel_rfl)
theorem Zhd:Tryz.f7.isWrapper Tryz.prog Rows.journalsChainRow.wrapper Rows.journalsChainRow.mainSum:=by unfold Func.isWrapper;first | (rw [if_pos (by decide+kernel)];kernel_rfl) | (rw [if_neg (by decide+kernel)];exact ⟨rfl,rfl⟩)
theorem journalsChain_holds:Rows.JournalsChainSaid:=
 OpenClaim.holds_of_wide 7 Tryz.f7 rfl rfl rfl rfl rfl rfl rfl ⟨rfl,rfl,rfl,rfl,rfl⟩ rfl rfl rfl rfl rfl Zhf Tryz.func7 jch_k2 Zhe Zhd
  (fun os started H enc _=>Zdi os started H enc)
#print axioms journalsChain_holds
end Go.Proofs.YtipjchbdogmccaaGreat
