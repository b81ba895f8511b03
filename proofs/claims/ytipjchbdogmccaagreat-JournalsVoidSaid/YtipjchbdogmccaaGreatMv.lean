/- Machines that are none; two replies compared; one command. Machines: the chapter's example. -/
import Derived.Test.YtipjchbdogmccaaGreatAp
import Derived.Test.YtipjchbdogmccaaGreatAll
set_option maxHeartbeats 1600000
set_option maxRecDepth 100000
namespace Go.Rg
open Go.RowKit Go.BigFrame
variable {P:Program} {ops:Array Oper} {Q:Exit->Act->World->Prop} {rest:List Oper} {o:Oper} {a:Act} {w:World}
theorem Vt {t:TypeId} {len:Nat} {parts:Array (Nat×Operand)} (_hop:o.op= .buildSlice t len parts) (hg:Region.wanted o (yielded ops a.tmps)=true) (ob:Obj) (v:Value) (dst:Option Tmp) (hdst:o.dst=dst)
 (hm:(execOp a.eval o).run P w= .ok (.value v) (w.alloc ob))
 (h:∀w':World,Ext w w'->w'.heap[w.heap.size]? =some ob->wpList P ops Q rest (a.put dst v) w'):wpList P ops Q (o::rest) a w:=
 wpList_want hg fun K hK=>by
  unfold Oper.wp
  rw [hm,Oper.upon_value,hdst]
  exact hK _ _ (h _ (Zc w ob) (Zb w ob))
end Go.Rg
namespace Go.Proofs.YtipjchbdogmccaaGreat
open Go.RowKit Go.Rg Go.BigFrame
theorem Zbt {w:World} {b base size n:Nat} {cs:List Value} {e:TypeId} (h:w.heap[b]? =some (.cells cs.toArray e (0,0))) (hl:cs.length=n*size) (hn:n<=maxLen) (hb:base<=b):Zq w base size (.slice (some ⟨b,0,none⟩) n n) n cs:=
 ⟨_,_,rfl,Nat.le_refl _,hn,hl,.inr ⟨b,rfl,hb,Zd h,fun j u hu=>by rw [cell_of_row w b j _ e _ h];simpa using hu⟩⟩
def gtAgg (x:Gt):Value:= .agg #[.int .i64 x.1,.int .i64 x.2]
theorem load_gt (w:World) (g k:Nat) (l:List Gt) (hk:k<l.length) (h:∀j u,(gtC l)[j]? =some u->w.cell? ⟨g,j,none⟩=some u):
 (loadVar 55 ⟨g,k*2,none⟩).run Tryz.prog w= .ok (gtAgg (l[k]'hk)) w:=
 Zr w g (k*2) 55 (gtC1 (l[k]'hk)) _ (fun j u hu=>by
  have hj:j<2:=(List.getElem?_eq_some_iff.1 hu).1
  exact h _ _ ((Zsd l k j hk hj).trans hu)) Tryz.underlying55 rfl (by kernel_rfl)
theorem neq_gt (a b:Int) (w:World):(binOp .neq 55 (.agg #[.int .i64 a,.int .i64 b]) (.agg #[.int .i64 a,.int .i64 b])).run Tryz.prog w= .ok (.bool false) w:=by
 have hS:Tryz.prog.underlying 55=some (.struct (Tryz.prog.fieldsOf 55)):=by kernel_rfl
 have hp:Tryz.prog.stoodInHeld 55=false:=by kernel_rfl
 have h:(Op.equalIn 10000 55 (.agg #[.int .i64 a,.int .i64 b]) (.agg #[.int .i64 a,.int .i64 b])).run Tryz.prog w= .ok true w:=by
  rw [show (10000:Nat)=9999+1 from rfl,run_equalIn_agg w 9999 55 _ _ hS hp]
  simp only [Program.fieldsOf,Tryz.underlying55]
  go_simp
 rw [run_neq_struct,h];rfl
theorem same_gt (b1 b2:Nat) (v1 v2:Value) (l:List Gt) (w:World) (h:Zq w b1 2 v1 l.length (gtC l)) (k:Zq w b2 2 v2 l.length (gtC l)):
 Calls Tryz.prog 74 #[v1,v2] w (Ret (.bool true) w):=by
 obtain ⟨A,cap,rfl,h1,h2,h3,h4⟩:=h
 obtain ⟨A',cap',rfl,k1,k2,k3,k4⟩:=k
 have hn63:(l.length:Int)<=9223372036854775807:=by unfold maxLen at h2;omega
 go_enter Tryz.func74,Tryz.ntmps74
 go_wp2
 go_loopw [5] (fun i wr=>∃k:Nat,k<=l.length/\i= .int .i64 k/\Ext w wr) (fun i _=>l.length-(intOf i).toNat)
 case atStart=>exact ⟨0,Nat.zero_le _,rfl,Ext.refl _⟩
 obtain ⟨k,hk,rfl,e1⟩:=hrel
 by_cases hkn:k<l.length
 ·rcases h4 with h4 | ⟨g,rfl,hb,hlt,hcell⟩
  ·omega
  rcases k4 with k4 | ⟨g',rfl,hb',hlt',hcell'⟩
  ·omega
  have hj1:(0:Int)<=(k:Int):=by omega
  have hj2:(k:Int)<(l.length:Int):=by omega
  have hld:∀wq,Ext wr wq->(loadVar 55 ⟨g,k*2,none⟩).run Tryz.prog wq= .ok (gtAgg (l[k]'hkn)) wq:=fun wq q=>load_gt wq g k l hkn (fun j u hu=>by rw [Zh ((Xt e1 q).block hlt)];exact hcell j u hu)
  have hld':∀wq,Ext wr wq->(loadVar 55 ⟨g',k*2,none⟩).run Tryz.prog wq= .ok (gtAgg (l[k]'hkn)) wq:=fun wq q=>load_gt wq g' k l hkn (fun j u hu=>by rw [Zh ((Xt e1 q).block hlt')];exact hcell' j u hu)
  clear hcell hcell' h3 k3
  generalize (l[k]'hkn)=x at *
  obtain ⟨x0,x1⟩:=x
  simp only [gtAgg] at hld hld'
  have hne:=neq_gt x0 x1
  go_wp2_with fail
  refine Yo Zl [] (by kernel_rfl) (by kernel_rfl) ?_
  intro w1 hw1
  have ld1:∀w',(∃u:ExtOf w1,w'=u.to)->(loadVar 55 ⟨g,k*2,none⟩).run Tryz.prog w'=_:=fun w' ⟨u,hu⟩=>by subst hu;exact hld u.to (Xt hw1 u.h)
  have ld2:∀w',(∃u:ExtOf w1,w'=u.to)->(loadVar 55 ⟨g',k*2,none⟩).run Tryz.prog w'=_:=fun w' ⟨u,hu⟩=>by subst hu;exact hld' u.to (Xt hw1 u.h)
  clear hld hld'
  simp only [Zj,List.contains_nil,Bool.false_eq_true,Nat.reduceAdd,↓reduceIte]
  repeat (first | go_big_quiet_step (fail) | (go_big_quiet_want;(first | refine Z5 55 _ _ _ rfl rfl ld1 ?_ | refine Z5 55 _ _ _ rfl rfl ld2 ?_);go_big_quiet_on;simp only [Act.put,Rg.puB]))
  refine wpQuiet_nil ?_
  refine Vr (by kernel_rfl) ?_
  intro w4 e4 e4'
  try simp only [Act.put,Rg.puC,Rg.puB]
  clear ld1 ld2 hw1
  go_wp2
  exact ⟨⟨k+1,by omega,by go_num,Xt e1 e4⟩,by simp [intOf];omega⟩
 have hk':k=l.length:=by omega
 subst hk'
 clear h3 k3 h4 k4
 go_wp2
 go_ret
 exact ⟨rfl,e1⟩
theorem Zgx (b1 b2:Nat) (v1 v2:Value) (e i:Int) (l:List Gt) (w:World) (h:Zq w b1 2 v1 l.length (gtC l)) (k:Zq w b2 2 v2 l.length (gtC l)):
 Calls Tryz.prog 40 #[.agg #[.int .i64 e,.int .i64 i,v1],.agg #[.int .i64 e,.int .i64 i,v2]] w (Ret (.bool true) w):=by
 have hsm:=fun W (q:Ext w W)=>same_gt b1 b2 v1 v2 l W (h.ext q) (k.ext q)
 obtain ⟨A,cap,rfl,_⟩:=h
 obtain ⟨A',cap',rfl,_⟩:=k
 have h0:=Zb w (.cells #[.int .i64 e,.int .i64 i,.slice A l.length cap] 38)
 have e0:=Zc w (.cells #[.int .i64 e,.int .i64 i,.slice A l.length cap] 38)
 have s0:=size_alloc w (.cells #[.int .i64 e,.int .i64 i,.slice A l.length cap] 38)
 have h1:=Zb (w.alloc (.cells #[.int .i64 e,.int .i64 i,.slice A l.length cap] 38)) (.cells #[.int .i64 e,.int .i64 i,.slice A' l.length cap'] 38)
 have e1:=Zc (w.alloc (.cells #[.int .i64 e,.int .i64 i,.slice A l.length cap] 38)) (.cells #[.int .i64 e,.int .i64 i,.slice A' l.length cap'] 38)
 have h0:=e1.at h0
 rw [s0] at h1
 have E1:=Xt e0 e1
 clear e0 e1 s0
 go_enter Tryz.func40,Tryz.ntmps40
 have x0:=Za (j:=0) h0 rfl
 have x1:=Za (j:=1) h0 rfl
 have x2:=Za (j:=2) h0 rfl
 have y0:=Za (j:=0) h1 rfl
 have y1:=Za (j:=1) h1 rfl
 have y2:=Za (j:=2) h1 rfl
 go_wp2_with fail
 refine (hsm _ E1).mono ?_
 rintro e w2 ⟨rfl,e2⟩
 go_wp2
 go_ret
 exact ⟨rfl,Xt E1 e2⟩
theorem Zrr (a:Option Addr) (w:World) (hth:∀W,Ext w W->Calls Tryz.prog 52 #[.pointer a] W (Ret (.bool false) W)):
 Calls Tryz.prog 39 #[.pointer a] w (Ret (.pointer none) w):=by
 go_enter Tryz.func39,Tryz.ntmps39
 go_wp2_with fail
 refine (hth w (Ext.refl _)).mono ?_
 rintro e w3 ⟨rfl,e3⟩
 go_wp2
 go_ret
 exact ⟨rfl,e3⟩
def xs1:Stp:=⟨1,1,0,0,0,0,0,0,0,0⟩
def xs2:Stp:=⟨1,2,0,0,0,0,0,0,0,0⟩
def xp (n:Int):Stp:=⟨3,2,1,3,0,n,0,0,0,0⟩
def xd:Stp:=⟨8,1,2,3,0,0,0,0,0,0⟩
theorem FrA.trans {A:Nat->Prop} {a b c:World} (h:FrA A a b) (k:FrA A b c):FrA A a c:=
 ⟨k.os.trans h.os,k.tape.trans h.tape,k.output.trans h.output,Nat.le_trans h.size k.size,fun i hi hA=>(k.block i (Nat.lt_of_lt_of_le hi h.size) hA).trans (h.block i hi hA)⟩
theorem FrA.mono {A B:Nat->Prop} {a b:World} (h:FrA A a b) (hAB:∀x,A x->B x):FrA B a b:=⟨h.os,h.tape,h.output,h.size,fun i hi hB=>h.block i hi fun ha=>hB (hAB _ ha)⟩
theorem Zq.fra2 {A:Nat->Prop} {w w':World} {base size n:Nat} {v:Value} {xs:List Value} (h:Zq w base size v n xs) (k:FrA A w w') (hS:∀x,A x->x<base\/w.heap.size<=x):Zq w' base size v n xs:=by
 obtain ⟨B,cap,hv,h1,h2,h3,h4⟩:=h
 refine ⟨B,cap,hv,h1,h2,h3,?_⟩
 rcases h4 with h4 | ⟨g,hA,hb,hlt,hc⟩
 ·exact .inl h4
 refine .inr ⟨g,hA,hb,Nat.lt_of_lt_of_le hlt k.size,fun j u hu=> ?_⟩
 rw [Zh (k.block g hlt (fun hg=>by have:=hS g hg;omega))]
 exact hc j u hu
theorem ap_at {l:List Stp} {L L':Led} {B B':Bk} {e i:Int} {gl:List Gt} (hr:Z4 l L B=((e,i,gl),L',B')) (n:Nat) (hn:gl.length=n) (q p m pb:Nat) (g:Option Nat) (v:Value) (w:World) (h:IsM w q p m pb g L B) (hs:Zq w 0 10 v l.length (Vf l)) (hin:∀s∈l,Zd0 s):
 Calls Tryz.prog 17 #[.pointer (some ⟨q,0,none⟩),.agg #[v]] w (fun en w'=>∃A cap p m pb g,en= .returned (.agg #[.int .i64 e,.int .i64 i,.slice A n cap])/\FrA (fun x=>x=q) w w'/\Zq w' w.heap.size 2 (.slice A n cap) gl.length (gtC gl)/\IsM w' q p m pb g L' B'):=by
 subst hn
 refine (Zar q p m pb g L B l v w h hs.arg hin).mono ?_
 rw [hr]
 rintro en w' ⟨v',p',m',pb',g',rfl,f,hs',hM⟩
 have hs2:=hs'
 obtain ⟨A,cap,hv,_⟩:=hs2
 simp only at hv hs' hM
 subst hv
 exact ⟨A,cap,p',m',pb',g',rfl,f,hs',hM⟩
end Go.Proofs.YtipjchbdogmccaaGreat
