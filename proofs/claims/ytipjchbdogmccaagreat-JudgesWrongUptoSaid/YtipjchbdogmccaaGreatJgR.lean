/- JudgesWrong's row: whatever the commands, which one, which way, of bulk at most 1048576, the answer is true. -/
import Derived.Test.YtipjchbdogmccaaGreatJdW4
import Derived.Test.YtipjchbdogmccaaGreatJfU
import Derived.Test.YtipjchbdogmccaaGreatJgK
import Derived.JoinedCond
import Derived.Lib.SmallJoins
namespace Go.Proofs.YtipjchbdogmccaaGreat
open Go.Joins Go.Deep Go.WideElems Go.Maps Go.ChangeShapes Go.WideShapes Go.ChangeAt Go.RowKit Go.Rg Go.BigFrame
theorem Zen:laidOutB Tryz.prog=true:=by kernel_rfl
theorem own_jg:ownKnob Tryz.prog.godebug=none:=by kernel_rfl
set_option maxRecDepth 100000 in
theorem Zeo (os:Os) (started:os.Started) (H:Type) (enc:TypeId×Value->H) (F:Stop.Interp):
 ReturnsInHanded {} Tryz.checked os 5 .any ((Rows.OpenSpec.upto Rows.judgesWrongSpec).pre6 enc Tryz.prog Tryz.f5 Rows.judgesWrongUptoRow.domain false) (((Rows.OpenSpec.upto Rows.judgesWrongSpec).at F).post enc Tryz.prog Tryz.f5 false true false false):=by
 refine returnsInHanded_of_cond (C:=Tryz.checked) (s:=Rows.OpenSpec.upto Rows.judgesWrongSpec) (k:=Rows.uptoSmall) rfl own_jg started (by kernel_rfl) Tryz.func5
  (OpenSpec.witness (enc:=enc) (C:=Tryz.checked) (s:=Rows.OpenSpec.upto Rows.judgesWrongSpec) (k:=Rows.uptoSmall) rfl false ⟨#[],#[.slice none 0 0,.int .u8 0,.int .u8 0],[]⟩ 8 (by kernel_rfl) (by kernel_rfl) (by kernel_rfl)
    (x:=([.nil,.lit (.int .u8 0),.lit (.int .u8 0)],[],[])) (by kernel_rfl) rfl (by kernel_rfl)) ?_
 intro W base args ds gs before hval0 hW hcnd hk _
 have hval:∀(j:Nat) t v,Tryz.f5.params[j]? =some t->args[j]? =some v->Value.okWide Tryz.prog W .any base t v:=hval0
 have hW':=hW
 obtain ⟨p,q,hA0,hV,rfl,hfz,hnd⟩:=hW
 have hA:DataW.TrodAll enc Tryz.prog W 0 (fun _=>true) true Tryz.f5.params.toList args.toList ds p:=hA0
 rw [Tryz.params5] at hA hval
 obtain ⟨v0,v1,v2,d0,d1,d2,p0,p1,p2,rfl,rfl,rfl,h0,h1,h2⟩:=trodAll_three hA
 obtain ⟨rfl,rfl⟩:=trodVars_none hV
 obtain ⟨l,ha,hla⟩:=Zlf (hval 0 22 v0 rfl rfl) h0
 obtain ⟨at_,rfl,c1⟩:=open_u8 (hval 1 5 v1 rfl rfl) h1
 obtain ⟨wy,rfl,c2⟩:=open_u8 (hval 2 5 v2 rfl rfl) h2
 clear hA0 hval0
 simp only [List.append_nil] at hW' hk
 have hn:l.length<=1048576:=by
  have hkb:Rows.uptoBulkAll [d0,d1,d2]<=1048576:=of_decide_eq_true hk
  simp only [Rows.uptoBulkAll] at hkb
  obtain ⟨A,cap,rfl,_⟩:=id ha
  have:=Zip Tryz.underlying22 h0
  omega
 have hlt:∀x∈p0++p1++p2,x.block<W.heap.size:=fun x hx=>by simpa using hW'.lt x hx
 refine (Zra v0 l at_ wy W ha hla hn c1 c2).mono fun e W' ⟨he,hw⟩=> ?_
 subst he
 have bel:Below W.heap.size W W':=hw
 exact ⟨_,rfl,_,_,_,[],p0++p1++p2,[],hW',trodAll_mk1 (shut_bool Tryz.underlying4 true),(by rw [List.append_assoc];exact trodAll_mk3 (Below.trod Zen (by kernel_rfl) (of_decide_eq_true (by kernel_rfl)) h0 bel (fun x hx=>hlt x (by simp [hx]))) (Below.trod Zen (by kernel_rfl) (of_decide_eq_true (by kernel_rfl)) h1 bel (fun x hx=>hlt x (by simp [hx]))) (Below.trod Zen (by kernel_rfl) (of_decide_eq_true (by kernel_rfl)) h2 bel (fun x hx=>hlt x (by simp [hx])))),rfl,bel.frame _,fun h=>by cases h⟩
theorem Zjn:Tryz.prog.funcNamed Rows.judgesWrongUptoRow.func=some 5:=by kernel_rfl
theorem Zjm:Tryz.f5.isInstance Tryz.prog Rows.judgesWrongUptoRow.origin Rows.judgesWrongUptoRow.targs:=of_decide_eq_true (by kernel_rfl)
theorem Zjl:Tryz.f5.isWrapper Tryz.prog Rows.judgesWrongUptoRow.wrapper Rows.judgesWrongUptoRow.mainSum:=by unfold Func.isWrapper;first | (rw [if_pos (by decide+kernel)];kernel_rfl) | (rw [if_neg (by decide+kernel)];exact ⟨rfl,rfl⟩)
theorem judgesWrong_holds:Rows.JudgesWrongUptoSaid:=
 OpenClaim.holds_of_cond 5 Tryz.f5 rfl rfl rfl rfl rfl rfl rfl ⟨rfl,rfl,rfl,rfl,rfl⟩ rfl rfl rfl rfl rfl Zjn Tryz.func5 jgi_k2 Zjm Zjl
  (fun os started H enc _ F=>Zeo os started H enc F)
#print axioms judgesWrong_holds
end Go.Proofs.YtipjchbdogmccaaGreat
