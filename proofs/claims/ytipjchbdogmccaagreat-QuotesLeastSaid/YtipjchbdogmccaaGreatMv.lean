/- Machines that are none; two replies compared; one command. Machines: the chapter's example. -/
import Derived.Test.YtipjchbdogmccaaGreatAp
import Derived.Test.YtipjchbdogmccaaGreatAll
set_option maxHeartbeats 1600000
set_option maxRecDepth 100000
namespace Go.Rg
open Go.RowKit Go.BigFrame
variable {P:Program} {ops:Array Oper} {Q:Exit->Act->World->Prop} {rest:List Oper} {o:Oper} {a:Act} {w:World}
theorem Jp {t:TypeId} {len:Nat} {parts:Array (Nat×Operand)} (_hop:o.op= .buildSlice t len parts) (hg:Region.wanted o (yielded ops a.tmps)=true) (ob:Obj) (v:Value) (dst:Option Tmp) (hdst:o.dst=dst)
 (hm:(execOp a.eval o).run P w= .ok (.value v) (w.alloc ob))
 (h:∀w':World,Ext w w'->w'.heap[w.heap.size]? =some ob->wpList P ops Q rest (a.put dst v) w'):wpList P ops Q (o::rest) a w:=
 wpList_want hg fun K hK=>by
  unfold Oper.wp
  rw [hm,Oper.upon_value,hdst]
  exact hK _ _ (h _ (Zc w ob) (Zb w ob))
end Go.Rg
namespace Go.Proofs.YtipjchbdogmccaaGreat
open Go.RowKit Go.Rg Go.BigFrame
theorem Zch {w:World} {b base size n:Nat} {cs:List Value} {e:TypeId} (h:w.heap[b]? =some (.cells cs.toArray e (0,0))) (hl:cs.length=n*size) (hn:n<=maxLen) (hb:base<=b):Zn w base size (.slice (some ⟨b,0,none⟩) n n) n cs:=
 ⟨_,_,rfl,Nat.le_refl _,hn,hl,.inr ⟨b,rfl,hb,Zg h,fun j u hu=>by rw [cell_of_row w b j _ e _ h];simpa using hu⟩⟩
def gtAgg (x:Gt):Value:= .agg #[.int .i64 x.1,.int .i64 x.2]
theorem load_gt (w:World) (g k:Nat) (l:List Gt) (hk:k<l.length) (h:∀j u,(gtC l)[j]? =some u->w.cell? ⟨g,j,none⟩=some u):
 (loadVar 55 ⟨g,k*2,none⟩).run Tryz.prog w= .ok (gtAgg (l[k]'hk)) w:=
 Zs w g (k*2) 55 (gtC1 (l[k]'hk)) _ (fun j u hu=>by
  have hj:j<2:=(List.getElem?_eq_some_iff.1 hu).1
  exact h _ _ ((Zrg l k j hk hj).trans hu)) Tryz.underlying55 rfl (by kernel_rfl)
theorem neq_gt (a b:Int) (w:World):(binOp .neq 55 (.agg #[.int .i64 a,.int .i64 b]) (.agg #[.int .i64 a,.int .i64 b])).run Tryz.prog w= .ok (.bool false) w:=by
 have hS:Tryz.prog.underlying 55=some (.struct (Tryz.prog.fieldsOf 55)):=by kernel_rfl
 have hp:Tryz.prog.stoodInHeld 55=false:=by kernel_rfl
 have h:(Op.equalIn 10000 55 (.agg #[.int .i64 a,.int .i64 b]) (.agg #[.int .i64 a,.int .i64 b])).run Tryz.prog w= .ok true w:=by
  rw [show (10000:Nat)=9999+1 from rfl,run_equalIn_agg w 9999 55 _ _ hS hp]
  simp only [Program.fieldsOf,Tryz.underlying55]
  go_simp
 rw [run_neq_struct,h];rfl
theorem same_gt (b1 b2:Nat) (v1 v2:Value) (l:List Gt) (w:World) (h:Zn w b1 2 v1 l.length (gtC l)) (k:Zn w b2 2 v2 l.length (gtC l)):
 Calls Tryz.prog 74 #[v1,v2] w (Ret (.bool true) w):=by
 obtain ⟨A,cap,rfl,h1,h2,h3,h4⟩:=h
 obtain ⟨A',cap',rfl,k1,k2,k3,k4⟩:=k
 have hn63:(l.length:Int)<=9223372036854775807:=by unfold maxLen at h2;omega
 go_enter Tryz.func74,Tryz.ntmps74
 go_wp2
 go_loopw [5] (fun i wr=>∃k:Nat,k<=l.length/\i= .int .i64 k/\Ext w wr) (fun i _=>l.length-(intOf i).toNat)
 case atStart=>exact ⟨0,Nat.zero_le _,rfl,Ext.refl _⟩
 obtain ⟨k,hk,rfl,e1⟩:=hrel
 by_cases hkn:k<l.length
 ·rcases h4 with h4 | ⟨g,rfl,hb,hlt,hcell⟩
  ·omega
  rcases k4 with k4 | ⟨g',rfl,hb',hlt',hcell'⟩
  ·omega
  have hj1:(0:Int)<=(k:Int):=by omega
  have hj2:(k:Int)<(l.length:Int):=by omega
  have hld:∀wq,Ext wr wq->(loadVar 55 ⟨g,k*2,none⟩).run Tryz.prog wq= .ok (gtAgg (l[k]'hkn)) wq:=fun wq q=>load_gt wq g k l hkn (fun j u hu=>by rw [Zf ((Xt e1 q).block hlt)];exact hcell j u hu)
  have hld':∀wq,Ext wr wq->(loadVar 55 ⟨g',k*2,none⟩).run Tryz.prog wq= .ok (gtAgg (l[k]'hkn)) wq:=fun wq q=>load_gt wq g' k l hkn (fun j u hu=>by rw [Zf ((Xt e1 q).block hlt')];exact hcell' j u hu)
  clear hcell hcell' h3 k3
  generalize (l[k]'hkn)=x at *
  obtain ⟨x0,x1⟩:=x
  simp only [gtAgg] at hld hld'
  have hne:=neq_gt x0 x1
  go_wp2_with fail
  refine Z9 Zl [] (by kernel_rfl) (by kernel_rfl) ?_
  intro w1 hw1
  have ld1:∀w',(∃u:ExtOf w1,w'=u.to)->(loadVar 55 ⟨g,k*2,none⟩).run Tryz.prog w'=_:=fun w' ⟨u,hu⟩=>by subst hu;exact hld u.to (Xt hw1 u.h)
  have ld2:∀w',(∃u:ExtOf w1,w'=u.to)->(loadVar 55 ⟨g',k*2,none⟩).run Tryz.prog w'=_:=fun w' ⟨u,hu⟩=>by subst hu;exact hld' u.to (Xt hw1 u.h)
  clear hld hld'
  simp only [Zk,List.contains_nil,Bool.false_eq_true,Nat.reduceAdd,↓reduceIte]
  repeat (first | go_big_quiet_step (fail) | (go_big_quiet_want;(first | refine Z0 55 _ _ _ rfl rfl ld1 ?_ | refine Z0 55 _ _ _ rfl rfl ld2 ?_);go_big_quiet_on;simp only [Act.put,Rg.puB]))
  refine wpQuiet_nil ?_
  refine Xc (by kernel_rfl) ?_
  intro w4 e4 e4'
  try simp only [Act.put,Rg.puC,Rg.puB]
  clear ld1 ld2 hw1
  go_wp2
  exact ⟨⟨k+1,by omega,by go_num,Xt e1 e4⟩,by simp [intOf];omega⟩
 have hk':k=l.length:=by omega
 subst hk'
 clear h3 k3 h4 k4
 go_wp2
 go_ret
 exact ⟨rfl,e1⟩
theorem sameR_any (b1 b2:Nat) (v1 v2:Value) (e i:Int) (l:List Gt) (w:World) (h:Zn w b1 2 v1 l.length (gtC l)) (k:Zn w b2 2 v2 l.length (gtC l)):
 Calls Tryz.prog 40 #[.agg #[.int .i64 e,.int .i64 i,v1],.agg #[.int .i64 e,.int .i64 i,v2]] w (Ret (.bool true) w):=by
 have hsm:=fun W (q:Ext w W)=>same_gt b1 b2 v1 v2 l W (h.ext q) (k.ext q)
 obtain ⟨A,cap,rfl,_⟩:=h
 obtain ⟨A',cap',rfl,_⟩:=k
 have h0:=Zb w (.cells #[.int .i64 e,.int .i64 i,.slice A l.length cap] 38)
 have e0:=Zc w (.cells #[.int .i64 e,.int .i64 i,.slice A l.length cap] 38)
 have s0:=size_alloc w (.cells #[.int .i64 e,.int .i64 i,.slice A l.length cap] 38)
 have h1:=Zb (w.alloc (.cells #[.int .i64 e,.int .i64 i,.slice A l.length cap] 38)) (.cells #[.int .i64 e,.int .i64 i,.slice A' l.length cap'] 38)
 have e1:=Zc (w.alloc (.cells #[.int .i64 e,.int .i64 i,.slice A l.length cap] 38)) (.cells #[.int .i64 e,.int .i64 i,.slice A' l.length cap'] 38)
 have h0:=e1.at h0
 rw [s0] at h1
 have E1:=Xt e0 e1
 clear e0 e1 s0
 go_enter Tryz.func40,Tryz.ntmps40
 have x0:=Za (j:=0) h0 rfl
 have x1:=Za (j:=1) h0 rfl
 have x2:=Za (j:=2) h0 rfl
 have y0:=Za (j:=0) h1 rfl
 have y1:=Za (j:=1) h1 rfl
 have y2:=Za (j:=2) h1 rfl
 go_wp2_with fail
 refine (hsm _ E1).mono ?_
 rintro e w2 ⟨rfl,e2⟩
 go_wp2
 go_ret
 exact ⟨rfl,Xt E1 e2⟩
theorem Zj5 (a:Option Addr) (v:Value) (w:World) (hth:∀W,Ext w W->Calls Tryz.prog 52 #[.pointer a] W (Ret (.bool false) W)):
 Calls Tryz.prog 17 #[.pointer a,.agg #[v]] w (Ret (.agg #[.int .i64 2,.int .i64 0,.slice none 0 0]) w):=by
 have e0:=Zc w (.cells #[v] 42)
 have s0:=size_alloc w (.cells #[v] 42)
 generalize hW:w.alloc (.cells #[v] 42)=W at *
 have HW:=Lib.hid hW
 clear hW
 go_enter Tryz.func17,Tryz.ntmps17
 go_wp2_with (first
  | (refine Zu rfl 38 rfl (.cells #[.int .i64 0,.int .i64 0,.slice none 0 0] 38) _ rfl (by go_simp) ?_
     rw [HW.out]
     intro w2 e2 h2
     rw [s0] at h2))
 have e02:=Xt e0 e2
 clear e0 e2 HW s0
 refine (hth w2 e02).mono ?_
 rintro e w3 ⟨rfl,e3⟩
 have h3:=e3.at h2
 have e03:=Xt e02 e3
 go_wp2_with (refine Ze rfl rfl 38 _ _ rfl (w.heap.size+1) _ rfl rfl 38 _ h3 (by kernel_rfl) (by rfl) (by rfl) ?_
              intro w8 hb8 ho8 hs8)
 exact Yp (w.heap.size+1) 38 _ _ _ rfl rfl hs8 Tryz.underlying38 rfl (by kernel_rfl) rfl ⟨rfl,hb8 _ _ (by omega) e03⟩
theorem Zi7 (a:Option Addr) (w:World) (hth:∀W,Ext w W->Calls Tryz.prog 52 #[.pointer a] W (Ret (.bool false) W)):
 Calls Tryz.prog 39 #[.pointer a] w (Ret (.pointer none) w):=by
 go_enter Tryz.func39,Tryz.ntmps39
 go_wp2_with fail
 refine (hth w (Ext.refl _)).mono ?_
 rintro e w3 ⟨rfl,e3⟩
 go_wp2
 go_ret
 exact ⟨rfl,e3⟩
theorem Zp8 (a:Option Addr) (w:World) (hth:∀W,Ext w W->Calls Tryz.prog 52 #[.pointer a] W (Ret (.bool false) W)):
 Calls Tryz.prog 18 #[.pointer a] w (Ret (.agg #[.slice none 0 0,.slice none 0 0,.slice none 0 0,.int .u64 0]) w):=by
 have h0:=Zb w (.cells #[.slice none 0 0,.slice none 0 0,.slice none 0 0,.int .u64 0] 47)
 have e0:=Zc w (.cells #[.slice none 0 0,.slice none 0 0,.slice none 0 0,.int .u64 0] 47)
 go_enter Tryz.func18,Tryz.ntmps18
 go_wp2_with fail
 refine (hth _ e0).mono ?_
 rintro e w3 ⟨rfl,e3⟩
 have h3:=e3.at h0
 have e03:=Xt e0 e3
 go_wp2_with (refine Ze rfl rfl 47 _ _ rfl w.heap.size _ rfl rfl 47 _ h3 (by kernel_rfl) (by rfl) (by rfl) ?_
              intro w8 hb8 ho8 hs8)
 exact Yp w.heap.size 47 _ _ _ rfl rfl hs8 Tryz.underlying47 rfl (by kernel_rfl) rfl ⟨rfl,hb8 _ _ (Nat.le_refl _) e03⟩
def xs1:Stp:=⟨1,1,0,0,0,0,0,0,0,0⟩
def xs2:Stp:=⟨1,2,0,0,0,0,0,0,0,0⟩
def xd:Stp:=⟨8,1,2,3,0,0,0,0,0,0⟩
theorem Zn.fra2 {A:Nat->Prop} {w w':World} {base size n:Nat} {v:Value} {xs:List Value} (h:Zn w base size v n xs) (k:FrA A w w') (hS:∀x,A x->x<base\/w.heap.size<=x):Zn w' base size v n xs:=by
 obtain ⟨B,cap,hv,h1,h2,h3,h4⟩:=h
 refine ⟨B,cap,hv,h1,h2,h3,?_⟩
 rcases h4 with h4 | ⟨g,hA,hb,hlt,hc⟩
 ·exact .inl h4
 refine .inr ⟨g,hA,hb,Nat.lt_of_lt_of_le hlt k.size,fun j u hu=> ?_⟩
 rw [Zf (k.block g hlt (fun hg=>by have:=hS g hg;omega))]
 exact hc j u hu
theorem ap_at {l:List Stp} {L L':Led} {B B':Bk} {e i:Int} {gl:List Gt} (hr:Z6 l L B=((e,i,gl),L',B')) (n:Nat) (hn:gl.length=n) (q p m pb:Nat) (g:Option Nat) (v:Value) (w:World) (h:IsM w q p m pb g L B) (hs:Zn w 0 10 v l.length (X3 l)) (hin:∀s∈l,Zfl s):
 Calls Tryz.prog 17 #[.pointer (some ⟨q,0,none⟩),.agg #[v]] w (fun en w'=>∃A cap p m pb g,en= .returned (.agg #[.int .i64 e,.int .i64 i,.slice A n cap])/\FrA (fun x=>x=q) w w'/\Zn w' w.heap.size 2 (.slice A n cap) gl.length (gtC gl)/\IsM w' q p m pb g L' B'):=by
 subst hn
 refine (Zbs q p m pb g L B l v w h hs.arg hin).mono ?_
 rw [hr]
 rintro en w' ⟨v',p',m',pb',g',rfl,f,hs',hM⟩
 have hs2:=hs'
 obtain ⟨A,cap,hv,_⟩:=hs2
 simp only at hv hs' hM
 subst hv
 exact ⟨A,cap,p',m',pb',g',rfl,f,hs',hM⟩
end Go.Proofs.YtipjchbdogmccaaGreat
