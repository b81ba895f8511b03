/- JudgesFine's row: whatever the commands and the times, of bulk at most 1048576, the answer is true. -/
import Derived.Test.YtipjchbdogmccaaGreatJdF
import Derived.Test.YtipjchbdogmccaaGreatJfU
import Derived.Test.YtipjchbdogmccaaGreatJfK
import Derived.JoinedCond
import Derived.Lib.SmallJoins
namespace Go.Proofs.YtipjchbdogmccaaGreat
open Go.Joins Go.Deep Go.WideElems Go.Maps Go.ChangeShapes Go.WideShapes Go.ChangeAt Go.RowKit Go.Rg Go.BigFrame
theorem Zjj:laidOutB Tryz.prog=true:=by kernel_rfl
theorem own_jf:ownKnob Tryz.prog.godebug=none:=by kernel_rfl
set_option maxRecDepth 100000 in
theorem Zfh (os:Os) (started:os.Started) (H:Type) (enc:TypeId×Value->H) (F:Stop.Interp):
 ReturnsInHanded {} Tryz.checked os 4 .any ((Rows.OpenSpec.upto Rows.judgesFineSpec).pre6 enc Tryz.prog Tryz.f4 Rows.judgesFineUptoRow.domain false) (((Rows.OpenSpec.upto Rows.judgesFineSpec).at F).post enc Tryz.prog Tryz.f4 false true false false):=by
 refine returnsInHanded_of_cond (C:=Tryz.checked) (s:=Rows.OpenSpec.upto Rows.judgesFineSpec) (k:=Rows.uptoSmall) rfl own_jf started (by kernel_rfl) Tryz.func4
  (OpenSpec.witness (enc:=enc) (C:=Tryz.checked) (s:=Rows.OpenSpec.upto Rows.judgesFineSpec) (k:=Rows.uptoSmall) rfl false ⟨#[],#[.slice none 0 0,.slice none 0 0],[]⟩ 8 (by kernel_rfl) (by kernel_rfl) (by kernel_rfl)
    (x:=([.nil,.nil],[],[])) (by kernel_rfl) rfl (by kernel_rfl)) ?_
 intro W base args ds gs before hval0 hW hcnd hk _
 have hval:∀(j:Nat) t v,Tryz.f4.params[j]? =some t->args[j]? =some v->Value.okWide Tryz.prog W .any base t v:=hval0
 have hW':=hW
 obtain ⟨p,q,hA0,hV,rfl,hfz,hnd⟩:=hW
 have hA:DataW.TrodAll enc Tryz.prog W 0 (fun _=>true) true Tryz.f4.params.toList args.toList ds p:=hA0
 rw [Tryz.params4] at hA hval
 obtain ⟨v0,v1,d0,d1,p0,p1,rfl,rfl,rfl,h0,h1⟩:=trodAll_two hA
 obtain ⟨rfl,rfl⟩:=trodVars_none hV
 obtain ⟨l,ha,hla⟩:=Zlf (hval 0 22 v0 rfl rfl) h0
 obtain ⟨ts,hb,hlb⟩:=open_u8s (hval 1 58 v1 rfl rfl) h1
 clear hA0 hval0
 simp only [List.append_nil] at hW' hk
 have hn:l.length<=1048576:=by
  have hkb:Rows.uptoBulkAll [d0,d1]<=1048576:=of_decide_eq_true hk
  simp only [Rows.uptoBulkAll] at hkb
  obtain ⟨A,cap,rfl,_⟩:=id ha
  have:=Zip Tryz.underlying22 h0
  omega
 have hlt:∀x∈p0++p1,x.block<W.heap.size:=fun x hx=>by simpa using hW'.lt x hx
 refine (jfine_any v0 v1 l ts W ha hla hb hlb hn).mono fun e W' ⟨he,hw⟩=> ?_
 subst he
 have bel:Below W.heap.size W W':=hw
 exact ⟨_,rfl,_,_,_,[],p0++p1,[],hW',trodAll_mk1 (shut_bool Tryz.underlying4 true),trodAll_mk2 (Below.trod Zjj (by kernel_rfl) (of_decide_eq_true (by kernel_rfl)) h0 bel (fun x hx=>hlt x (by simp [hx]))) (Below.trod Zjj (by kernel_rfl) (of_decide_eq_true (by kernel_rfl)) h1 bel (fun x hx=>hlt x (by simp [hx]))),rfl,bel.frame _,fun h=>by cases h⟩
theorem Zkp:Tryz.prog.funcNamed Rows.judgesFineUptoRow.func=some 4:=by kernel_rfl
theorem Zko:Tryz.f4.isInstance Tryz.prog Rows.judgesFineUptoRow.origin Rows.judgesFineUptoRow.targs:=of_decide_eq_true (by kernel_rfl)
theorem Zkn:Tryz.f4.isWrapper Tryz.prog Rows.judgesFineUptoRow.wrapper Rows.judgesFineUptoRow.mainSum:=by unfold Func.isWrapper;first | (rw [if_pos (by decide+kernel)];kernel_rfl) | (rw [if_neg (by decide+kernel)];exact ⟨rfl,rfl⟩)
theorem judgesFine_holds:Rows.JudgesFineUptoSaid:=
 OpenClaim.holds_of_cond 4 Tryz.f4 rfl rfl rfl rfl rfl rfl rfl ⟨rfl,rfl,rfl,rfl,rfl⟩ rfl rfl rfl rfl rfl Zkp Tryz.func4 jfi_k2 Zko Zkn
  (fun os started H enc _ F=>Zfh os started H enc F)
#print axioms judgesFine_holds
end Go.Proofs.YtipjchbdogmccaaGreat
