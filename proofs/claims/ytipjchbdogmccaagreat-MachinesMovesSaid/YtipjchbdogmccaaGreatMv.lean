/- Machines that are none; two replies compared; one command. Machines: the chapter's example. -/
import Derived.Test.YtipjchbdogmccaaGreatAp
import Derived.Test.YtipjchbdogmccaaGreatAll
set_option maxHeartbeats 12800000
set_option maxRecDepth 100000
namespace Go.Rg
open Go.RowKit Go.BigFrame
variable {P:Program} {ops:Array Oper} {Q:Exit->Act->World->Prop} {rest:List Oper} {o:Oper} {a:Act} {w:World}
theorem Xx {t:TypeId} {len:Nat} {parts:Array (Nat×Operand)} (_hop:o.op= .buildSlice t len parts) (hg:Region.wanted o (yielded ops a.tmps)=true) (ob:Obj) (v:Value) (dst:Option Tmp) (hdst:o.dst=dst)
 (hm:(execOp a.eval o).run P w= .ok (.value v) (w.alloc ob))
 (h:∀w':World,Ext w w'->w'.heap[w.heap.size]? =some ob->wpList P ops Q rest (a.put dst v) w'):wpList P ops Q (o::rest) a w:=
 wpList_want hg fun K hK=>by
  unfold Oper.wp
  rw [hm,Oper.upon_value,hdst]
  exact hK _ _ (h _ (Zc w ob) (Zb w ob))
end Go.Rg
namespace Go.Proofs.YtipjchbdogmccaaGreat
open Go.RowKit Go.Rg Go.BigFrame
theorem Jw {w:World} {b base size n:Nat} {cs:List Value} {e:TypeId} (h:w.heap[b]? =some (.cells cs.toArray e (0,0))) (hl:cs.length=n*size) (hn:n<=maxLen) (hb:base<=b):Zs w base size (.slice (some ⟨b,0,none⟩) n n) n cs:=
 ⟨_,_,rfl,Nat.le_refl _,hn,hl,.inr ⟨b,rfl,hb,Zg h,fun j u hu=>by rw [cell_of_row w b j _ e _ h];simpa using hu⟩⟩
def gtAgg (x:Gt):Value:= .agg #[.int .i64 x.1,.int .i64 x.2]
theorem load_gt (w:World) (g k:Nat) (l:List Gt) (hk:k<l.length) (h:∀j u,(gtC l)[j]? =some u->w.cell? ⟨g,j,none⟩=some u):
 (loadVar 55 ⟨g,k*2,none⟩).run Tryz.prog w= .ok (gtAgg (l[k]'hk)) w:=
 Zu w g (k*2) 55 (gtC1 (l[k]'hk)) _ (fun j u hu=>by
  have hj:j<2:=(List.getElem?_eq_some_iff.1 hu).1
  exact h _ _ ((Zqg l k j hk hj).trans hu)) Tryz.underlying55 rfl (by kernel_rfl)
theorem neq_gt (a b:Int) (w:World):(binOp .neq 55 (.agg #[.int .i64 a,.int .i64 b]) (.agg #[.int .i64 a,.int .i64 b])).run Tryz.prog w= .ok (.bool false) w:=by
 have hS:Tryz.prog.underlying 55=some (.struct (Tryz.prog.fieldsOf 55)):=by kernel_rfl
 have hp:Tryz.prog.stoodInHeld 55=false:=by kernel_rfl
 have h:(Op.equalIn 10000 55 (.agg #[.int .i64 a,.int .i64 b]) (.agg #[.int .i64 a,.int .i64 b])).run Tryz.prog w= .ok true w:=by
  rw [show (10000:Nat)=9999+1 from rfl,run_equalIn_agg w 9999 55 _ _ hS hp]
  simp only [Program.fieldsOf,Tryz.underlying55]
  go_simp
 rw [run_neq_struct,h];rfl
theorem same_gt (b1 b2:Nat) (v1 v2:Value) (l:List Gt) (w:World) (h:Zs w b1 2 v1 l.length (gtC l)) (k:Zs w b2 2 v2 l.length (gtC l)):
 Calls Tryz.prog 74 #[v1,v2] w (Ret (.bool true) w):=by
 obtain ⟨A,cap,rfl,h1,h2,h3,h4⟩:=h
 obtain ⟨A',cap',rfl,k1,k2,k3,k4⟩:=k
 have hn63:(l.length:Int)<=9223372036854775807:=by unfold maxLen at h2;omega
 go_enter Tryz.func74,Tryz.ntmps74
 go_wp2
 go_loopw [5] (fun i wr=>∃k:Nat,k<=l.length/\i= .int .i64 k/\Ext w wr) (fun i _=>l.length-(intOf i).toNat)
 case atStart=>exact ⟨0,Nat.zero_le _,rfl,Ext.refl _⟩
 obtain ⟨k,hk,rfl,e1⟩:=hrel
 by_cases hkn:k<l.length
 ·rcases h4 with h4 | ⟨g,rfl,hb,hlt,hcell⟩
  ·omega
  rcases k4 with k4 | ⟨g',rfl,hb',hlt',hcell'⟩
  ·omega
  have hj1:(0:Int)<=(k:Int):=by omega
  have hj2:(k:Int)<(l.length:Int):=by omega
  have hld:∀wq,Ext wr wq->(loadVar 55 ⟨g,k*2,none⟩).run Tryz.prog wq= .ok (gtAgg (l[k]'hkn)) wq:=fun wq q=>load_gt wq g k l hkn (fun j u hu=>by rw [Zh ((Xt e1 q).block hlt)];exact hcell j u hu)
  have hld':∀wq,Ext wr wq->(loadVar 55 ⟨g',k*2,none⟩).run Tryz.prog wq= .ok (gtAgg (l[k]'hkn)) wq:=fun wq q=>load_gt wq g' k l hkn (fun j u hu=>by rw [Zh ((Xt e1 q).block hlt')];exact hcell' j u hu)
  clear hcell hcell' h3 k3
  generalize (l[k]'hkn)=x at *
  obtain ⟨x0,x1⟩:=x
  simp only [gtAgg] at hld hld'
  have hne:=neq_gt x0 x1
  go_wp2_with fail
  refine Yc Zk [] (by kernel_rfl) (by kernel_rfl) ?_
  intro w1 hw1
  have ld1:∀w',(∃u:ExtOf w1,w'=u.to)->(loadVar 55 ⟨g,k*2,none⟩).run Tryz.prog w'=_:=fun w' ⟨u,hu⟩=>by subst hu;exact hld u.to (Xt hw1 u.h)
  have ld2:∀w',(∃u:ExtOf w1,w'=u.to)->(loadVar 55 ⟨g',k*2,none⟩).run Tryz.prog w'=_:=fun w' ⟨u,hu⟩=>by subst hu;exact hld' u.to (Xt hw1 u.h)
  clear hld hld'
  simp only [Zj,List.contains_nil,Bool.false_eq_true,Nat.reduceAdd,↓reduceIte]
  repeat (first | go_big_quiet_step (fail) | (go_big_quiet_want;(first | refine Zq 55 _ _ _ rfl rfl ld1 ?_ | refine Zq 55 _ _ _ rfl rfl ld2 ?_);go_big_quiet_on;simp only [Act.put,Rg.puB]))
  refine wpQuiet_nil ?_
  refine Xs (by kernel_rfl) ?_
  intro w4 e4 e4'
  try simp only [Act.put,Rg.puC,Rg.puB]
  clear ld1 ld2 hw1
  go_wp2
  exact ⟨⟨k+1,by omega,by go_num,Xt e1 e4⟩,by simp [intOf];omega⟩
 have hk':k=l.length:=by omega
 subst hk'
 clear h3 k3 h4 k4
 go_wp2
 go_ret
 exact ⟨rfl,e1⟩
theorem Za5 (b1 b2:Nat) (v1 v2:Value) (e i:Int) (l:List Gt) (w:World) (h:Zs w b1 2 v1 l.length (gtC l)) (k:Zs w b2 2 v2 l.length (gtC l)):
 Calls Tryz.prog 40 #[.agg #[.int .i64 e,.int .i64 i,v1],.agg #[.int .i64 e,.int .i64 i,v2]] w (Ret (.bool true) w):=by
 have hsm:=fun W (q:Ext w W)=>same_gt b1 b2 v1 v2 l W (h.ext q) (k.ext q)
 obtain ⟨A,cap,rfl,_⟩:=h
 obtain ⟨A',cap',rfl,_⟩:=k
 have h0:=Zb w (.cells #[.int .i64 e,.int .i64 i,.slice A l.length cap] 38)
 have e0:=Zc w (.cells #[.int .i64 e,.int .i64 i,.slice A l.length cap] 38)
 have s0:=size_alloc w (.cells #[.int .i64 e,.int .i64 i,.slice A l.length cap] 38)
 have h1:=Zb (w.alloc (.cells #[.int .i64 e,.int .i64 i,.slice A l.length cap] 38)) (.cells #[.int .i64 e,.int .i64 i,.slice A' l.length cap'] 38)
 have e1:=Zc (w.alloc (.cells #[.int .i64 e,.int .i64 i,.slice A l.length cap] 38)) (.cells #[.int .i64 e,.int .i64 i,.slice A' l.length cap'] 38)
 have h0:=e1.at h0
 rw [s0] at h1
 have E1:=Xt e0 e1
 clear e0 e1 s0
 go_enter Tryz.func40,Tryz.ntmps40
 have x0:=Za (j:=0) h0 rfl
 have x1:=Za (j:=1) h0 rfl
 have x2:=Za (j:=2) h0 rfl
 have y0:=Za (j:=0) h1 rfl
 have y1:=Za (j:=1) h1 rfl
 have y2:=Za (j:=2) h1 rfl
 go_wp2_with fail
 refine (hsm _ E1).mono ?_
 rintro e w2 ⟨rfl,e2⟩
 go_wp2
 go_ret
 exact ⟨rfl,Xt E1 e2⟩
theorem Zey (A:Option Addr) (n cap:Nat) (w:World):Calls Tryz.prog 19 #[.slice A n cap] w (Ret (.agg #[.slice A n cap]) w):=by
 have h0:=Zb w (.cells #[.slice none 0 0] 42)
 have e0:=Zc w (.cells #[.slice none 0 0] 42)
 go_enter Tryz.func19,Tryz.ntmps19
 go_wp2_with (refine Ze rfl rfl 42 _ _ rfl w.heap.size _ rfl rfl 42 _ h0 (by kernel_rfl) (by rfl) (by rfl) ?_
              intro w8 hb8 ho8 hs8)
 exact Yw w.heap.size 42 _ _ _ rfl rfl hs8 Tryz.underlying42 rfl (by kernel_rfl) rfl ⟨rfl,hb8 _ _ (Nat.le_refl _) e0⟩
def xs1:Stp:=⟨1,1,0,0,0,0,0,0,0,0⟩
def xs2:Stp:=⟨1,2,0,0,0,0,0,0,0,0⟩
def xs3:Stp:=⟨2,1,2,3,0,50,0,0,0,0⟩
def xp (n:Int):Stp:=⟨3,2,1,3,0,n,0,0,0,0⟩
def xq:Stp:=⟨9,1,0,3,0,0,0,0,0,0⟩
def xd:Stp:=⟨8,1,2,3,0,0,0,0,0,0⟩
def xL1:Led:=(Xf [xs1,xs2,xs3] Ziz ⟨[],1⟩).2.1
def xL2:Led:=(Xf [xp 20,xq] xL1 ⟨[],1⟩).2.1
theorem xa1:Xf [xs1,xs2,xs3] Ziz ⟨[],1⟩=((0,0,[(0,0),(0,0),(0,0)]),xL1,⟨[],1⟩):=by kernel_rfl
theorem xa2:Xf [xp 20,xq] xL1 ⟨[],1⟩=((0,0,[(1,0),(20,0)]),xL2,⟨[],1⟩):=by kernel_rfl
theorem xa3:Xf [xp 5,xp 26] xL2 ⟨[],1⟩=((11,1,[]),xL2,⟨[],1⟩):=by kernel_rfl
theorem xa4:Xf [xd] xL2 ⟨[],1⟩=((0,0,[(20,50)]),xL2,⟨[],1⟩):=by kernel_rfl
theorem xa5:Xf [] xL2 ⟨[],1⟩=((3,0,[]),xL2,⟨[],1⟩):=rfl
theorem FrA.trans {A:Nat->Prop} {a b c:World} (h:FrA A a b) (k:FrA A b c):FrA A a c:=
 ⟨k.os.trans h.os,k.tape.trans h.tape,k.output.trans h.output,Nat.le_trans h.size k.size,fun i hi hA=>(k.block i (Nat.lt_of_lt_of_le hi h.size) hA).trans (h.block i hi hA)⟩
theorem FrA.mono {A B:Nat->Prop} {a b:World} (h:FrA A a b) (hAB:∀x,A x->B x):FrA B a b:=⟨h.os,h.tape,h.output,h.size,fun i hi hB=>h.block i hi fun ha=>hB (hAB _ ha)⟩
theorem Zs.fra2 {A:Nat->Prop} {w w':World} {base size n:Nat} {v:Value} {xs:List Value} (h:Zs w base size v n xs) (k:FrA A w w') (hS:∀x,A x->x<base\/w.heap.size<=x):Zs w' base size v n xs:=by
 obtain ⟨B,cap,hv,h1,h2,h3,h4⟩:=h
 refine ⟨B,cap,hv,h1,h2,h3,?_⟩
 rcases h4 with h4 | ⟨g,hA,hb,hlt,hc⟩
 ·exact .inl h4
 refine .inr ⟨g,hA,hb,Nat.lt_of_lt_of_le hlt k.size,fun j u hu=> ?_⟩
 rw [Zh (k.block g hlt (fun hg=>by have:=hS g hg;omega))]
 exact hc j u hu
theorem Zoz {l:List Stp} {L L':Led} {B B':Bk} {e i:Int} {gl:List Gt} (hr:Xf l L B=((e,i,gl),L',B')) (n:Nat) (hn:gl.length=n) (q p m pb:Nat) (g:Option Nat) (v:Value) (w:World) (h:IsM w q p m pb g L B) (hs:Zs w 0 10 v l.length (U4 l)) (hin:∀s∈l,Zfm s):
 Calls Tryz.prog 17 #[.pointer (some ⟨q,0,none⟩),.agg #[v]] w (fun en w'=>∃A cap p m pb g,en= .returned (.agg #[.int .i64 e,.int .i64 i,.slice A n cap])/\FrA (fun x=>x=q) w w'/\Zs w' w.heap.size 2 (.slice A n cap) gl.length (gtC gl)/\IsM w' q p m pb g L' B'):=by
 subst hn
 refine (Zgn q p m pb g L B l v w h hs.arg hin).mono ?_
 rw [hr]
 rintro en w' ⟨v',p',m',pb',g',rfl,f,hs',hM⟩
 have hs2:=hs'
 obtain ⟨A,cap,hv,_⟩:=hs2
 simp only at hv hs' hM
 subst hv
 exact ⟨A,cap,p',m',pb',g',rfl,f,hs',hM⟩
abbrev xpC (n:Int):Array Value:=#[.int .u8 3,.int .u8 2,.int .u8 1,.int .u8 3,.int .u8 0,.int .i64 n,.int .i64 0,.int .i64 0,.int .i64 0,.int .u64 0]
theorem xp_set {W:World} {b:Nat} {n:Int} (h:W.heap[b]? =some (.cells (xpC n) 30 (0,0))) (k:Int):(W.setCell ⟨b,5,none⟩ (.int .i64 k)).heap[b]? =some (.cells (xpC k) 30 (0,0)):=heap_setCell_same W b 5 _ _ (.int .i64 k) h
theorem Zlk {W:World} {b:Nat} {n:Int} (h:W.heap[b]? =some (.cells (xpC n) 30 (0,0))):(loadVar 30 ⟨b,0,none⟩).run Tryz.prog W= .ok (.agg (xpC n)) W:=run_loadVar_row (P:=Tryz.prog) W b _ 30 _ _ _ h Tryz.underlying30 rfl (by kernel_rfl)
theorem Zq8 {W:World} {b c i:Nat} {v:Value} {ob:Obj} (h:W.heap[b]? =some ob) (hn:b≠c):(W.setCell ⟨c,i,none⟩ v).heap[b]? =some ob:=(Keep.setCell (S:=[c]) (Keep.refl _ W) (p:=⟨c,i,none⟩) (.inl (by simp)) v).at h (by simpa using hn)
theorem IsM.set {w:World} {q p m pb x:Nat} {g:Option Nat} {L:Led} {B:Bk} {cs:Array Value} (h:IsM w q p m pb g L B) (hr:w.heap[x]? =some (.cells cs 30 (0,0))) (hq:q≠x) (i:Nat) (v:Value):IsM (w.setCell ⟨x,i,none⟩ v) q p m pb g L B:=
 have hl:=Zgb h.led hr (by decide)
 have hb:=Zdj h.book hr (by decide) (by decide)
 h.keep (S:=[x]) (Keep.setCell (Keep.refl _ w) (p:=⟨x,i,none⟩) (.inl (by simp)) v) (by simpa using hq) hl.1 hl.2 hb.1 hb.2
theorem Zeu {W:World} {b:Nat} {e i:Int} {v:Value} (h:W.heap[b]? =some (.cells #[.int .i64 e,.int .i64 i,v] 38 (0,0))):(loadVar 38 ⟨b,0,none⟩).run Tryz.prog W= .ok (.agg #[.int .i64 e,.int .i64 i,v]) W:=run_loadVar_row (P:=Tryz.prog) W b _ 38 _ _ _ h Tryz.underlying38 rfl (by kernel_rfl)
theorem Uq (w:World):Calls Tryz.prog 15 #[] w (Ret (.bool true) w):=by
 have hxin:∀s∈[xs1,xs2,xs3,xp 20,xp 5,xp 26,xq,xd],Zfm s:=by
  intro s hs
  simp only [List.mem_cons,List.not_mem_nil,or_false] at hs
  rcases hs with rfl | rfl | rfl | rfl | rfl | rfl | rfl | rfl
  ·exact Zi4 _ rfl ⟨by decide,by decide,by decide,by decide⟩
  ·exact Zi4 _ rfl ⟨by decide,by decide,by decide,by decide⟩
  ·exact Znx _ rfl ⟨by decide,by decide,by decide,by decide⟩
  ·exact Zge _ rfl ⟨by decide,by decide,by decide,by decide⟩
  ·exact Zge _ rfl ⟨by decide,by decide,by decide,by decide⟩
  ·exact Zge _ rfl ⟨by decide,by decide,by decide,by decide⟩
  ·exact Zi3 _ rfl ⟨by decide,by decide,by decide,by decide⟩
  exact Zqb _ rfl ⟨by decide,by decide,by decide,by decide⟩
 have HIN:=Lib.hid hxin
 clear hxin
 go_enter Tryz.func15,Tryz.ntmps15
 go_wp2_with fail
 refine (Znk w).mono ?_
 rintro e w1 ⟨q,p,m,pb,g,rfl,e1,hM1,hq⟩
 have q1:=Zg hM1.row
 go_wp2_with (first
  | (refine Xx (len:=3) rfl (by kernel_rfl) (.cells (U4 [xs1,xs2,xs3]).toArray 30) (.slice (some ⟨w1.heap.size,0,none⟩) 3 3) _ rfl (by kernel_rfl) ?_
     intro w2 e2 h2))
 refine (Zey _ _ _ _).mono ?_
 rintro e w3 ⟨rfl,e3⟩
 go_wp2_with fail
 refine (Zoz xa1 3 rfl q p m pb g _ w3 (hM1.ext (Xt e2 e3)) (Jw (e3.at h2) rfl (by decide) (Nat.zero_le _)) (fun s hs=>HIN.out s (by simp only [List.mem_cons,List.not_mem_nil,or_false] at hs ⊢;rcases hs with rfl | rfl | rfl<;>simp))).mono ?_
 rintro e w4 ⟨A4,c4,p4,m4,pb4,g4,rfl,f4,hs4,hM4⟩
 have x3:=(Xt e2 e3).size
 have x4:=f4.size
 clear hM1 h2
 go_wp2_with (first
  | (refine Zo rfl 38 rfl (.cells #[.int .i64 0,.int .i64 0,.slice none 0 0] 38) _ rfl (by go_simp) ?_;intro w5 e5 h5)
  | (refine Ze rfl rfl 38 _ _ rfl w4.heap.size _ rfl rfl 38 _ h5 (by kernel_rfl) (by rfl) (by rfl) ?_
     intro w6 hb6 ho6 h6)
  | (refine Zo rfl 30 rfl (.cells #[.int .u8 0,.int .u8 0,.int .u8 0,.int .u8 0,.int .u8 0,.int .i64 0,.int .i64 0,.int .i64 0,.int .i64 0,.int .u64 0] 30) _ rfl (by go_simp) ?_;intro w7 e7 h7)
  | (refine Ze rfl rfl 30 _ _ rfl w6.heap.size _ rfl rfl 30 _ h7 (by kernel_rfl) (by rfl) (by rfl) ?_
     intro w8 hb8 ho8 h8
     have ld8:=run_loadVar_row (P:=Tryz.prog) w8 w6.heap.size _ 30 _ _ _ h8 Tryz.underlying30 rfl (by kernel_rfl))
  | (refine Z6 30 _ _ _ (by kernel_rfl) rfl rfl ld8 ?_)
  | (refine Xx (len:=2) rfl (by kernel_rfl) (.cells (U4 [xp 20,xq]).toArray 30) (.slice (some ⟨w8.heap.size,0,none⟩) 2 2) _ rfl (by kernel_rfl) ?_
     intro w9 e9 h9))
 refine (Zey _ _ _ _).mono ?_
 rintro e w10 ⟨rfl,e10⟩
 go_wp2_with fail
 have e46:Ext w4 w6:=hb6 _ _ (Nat.le_refl _) e5
 have e68:Ext w6 w8:=hb8 _ _ (Nat.le_refl _) e7
 have e8t:Ext w8 w10:=Xt e9 e10
 refine (Zoz xa2 2 rfl q p4 m4 pb4 g4 _ w10 (hM4.ext (Xt e46 (Xt e68 e8t))) (Jw (e10.at h9) rfl (by decide) (Nat.zero_le _)) (fun s hs=>HIN.out s (by simp only [List.mem_cons,List.not_mem_nil,or_false] at hs ⊢;rcases hs with rfl | rfl<;>simp))).mono ?_
 rintro e w11 ⟨A11,c11,p11,m11,pb11,g11,rfl,f11,hs11,hM11⟩
 have x6:=e46.size
 have x8:=e68.size
 have x10:=e8t.size
 have x11:=f11.size
 have l6:=Zg h6
 have l8:=Zg h8
 have h11:=f11.at (e8t.at h8) (show w6.heap.size≠q by omega)
 clear hM4 h9 ld8 hb6 hb8 ho6 ho8 h5 h7 h8
 have hWsz:∀(W:World) (a:Addr) (v:Value),(W.setCell a v).heap.size=W.heap.size:=fun W a v=>by rw [World.size_setCell]
 have H11:=Lib.hid (show w11.heap[w6.heap.size]? =some (.cells (xpC 20) 30 (0,0)) from h11)
 clear h11
 go_wp2_with (first
  | (refine Zo rfl 38 rfl (.cells #[.int .i64 0,.int .i64 0,.slice none 0 0] 38) _ rfl (by go_simp) ?_;intro w12 e12 h12)
  | (refine Ze rfl rfl 38 _ _ rfl w11.heap.size _ rfl rfl 38 _ h12 (by kernel_rfl) (by rfl) (by rfl) ?_
     intro w13 hb13 ho13 h13
     have e13:Ext w11 w13:=hb13 _ _ (Nat.le_refl _) e12
     have hp13:=e13.at H11.out
     have zc13:=Za (j:=5) hp13 rfl
     have zf13:=frozen_of_row w13 w6.heap.size 5 _ _ hp13
     have hq13:=xp_set hp13 5
     have ld13:=Zlk hq13)
  | (refine Z6 30 _ _ _ (by kernel_rfl) rfl rfl ld13 ?_)
  | (refine Zo rfl 30 rfl (.cells #[.int .u8 0,.int .u8 0,.int .u8 0,.int .u8 0,.int .u8 0,.int .i64 0,.int .i64 0,.int .i64 0,.int .i64 0,.int .u64 0] 30) _ rfl (by go_simp) ?_;intro w14 e14 h14)
  | (refine Ze rfl rfl 30 _ _ rfl (w13.setCell ⟨w6.heap.size,5,none⟩ (.int .i64 5)).heap.size _ rfl rfl 30 _ h14 (by kernel_rfl) (by rfl) (by rfl) ?_
     intro w15 hb15 ho15 h15
     have e15:Ext (w13.setCell ⟨w6.heap.size,5,none⟩ (.int .i64 5)) w15:=hb15 _ _ (Nat.le_refl _) e14
     rw [World.size_setCell] at h15
     have zc15:=Za (j:=5) h15 rfl
     have zf15:=frozen_of_row w15 w13.heap.size 5 _ _ h15
     have hq15:=xp_set (n:=5) h15 26
     have hp15:=Zq8 (c:=w13.heap.size) (i:=5) (v:= .int .i64 26) (e15.at hq13) (by have:=Zg hp13;omega)
     have ld15:=Zlk hq15
     have ld15b:=Zlk hp15)
  | (refine Z6 30 _ _ _ (by kernel_rfl) rfl rfl ld15 ?_)
  | (refine Z6 30 _ _ _ (by kernel_rfl) rfl rfl ld15b ?_)
  | (refine Xx (len:=2) rfl (by kernel_rfl) (.cells (U4 [xp 5,xp 26]).toArray 30) (.slice (some ⟨(w15.setCell ⟨w13.heap.size,5,none⟩ (.int .i64 26)).heap.size,0,none⟩) 2 2) _ rfl (by kernel_rfl) ?_
     intro w16 e16 h16
     rw [World.size_setCell] at h16))
 refine (Zey _ _ _ _).mono ?_
 rintro e w17 ⟨rfl,e17⟩
 go_wp2_with fail
 have e13x:=e13
 have x13:=e13.size
 have x15:=e15.size
 rw [World.size_setCell] at x15
 have x16:=e16.size
 rw [World.size_setCell] at x16
 have x17:=e17.size
 have l13:=Zg h13
 have hM17:=(((hM11.ext e13).set hp13 (by omega) 5 (.int .i64 5)).ext e15).set h15 (by omega) 5 (.int .i64 26)
 have hM17:=hM17.ext (Xt e16 e17)
 obtain ⟨AA,hAA⟩:∃AA:Nat->Prop,AA=fun x=>x=q\/x=w6.heap.size:=⟨_,rfl⟩
 have aq:∀x,x=q->AA x:=fun x hx=>by rw [hAA];exact .inl hx
 have ab:AA w6.heap.size:=by rw [hAA];exact .inr rfl
 have ac:∀x,AA x->x=q\/x=w6.heap.size:=fun x hx=>by rw [hAA] at hx;exact hx
 clear hAA
 have F1317:FrA AA w13 w17:=Z1 (Z1 (Z1 (Z1 (FrA.of_ext (Ext.refl w13)) (Keep.setCell (S:=[w6.heap.size]) (Keep.refl _ w13) (p:=⟨w6.heap.size,5,none⟩) (.inl (by simp)) (.int .i64 5)) (fun x hx=>.inl (by rw [List.mem_singleton.1 hx];exact ab))) (Kx (S:=[]) e15) (by simp)) (Keep.setCell (S:=[w13.heap.size]) (Keep.refl _ w15) (p:=⟨w13.heap.size,5,none⟩) (.inl (by simp)) (.int .i64 26)) (fun x hx=>.inr (by rw [List.mem_singleton.1 hx];exact Nat.le_refl _))) (Kx (S:=[]) (Xt e16 e17)) (by simp)
 have F611:FrA AA w6 w11:=(FrA.of_ext (Xt e68 e8t)).trans (f11.mono aq)
 have G13:=Lib.hid h13
 have G16:=Lib.hid (e17.at h16)
 have S4:=Lib.hid hs4
 have S11:=Lib.hid hs11
 have F4m:=f4.mono aq
 have E3:=Xt e1 (Xt e2 e3)
 clear hM11 H11 hp13 hq13 zc13 zf13 ld13 e13 e15 zc15 zf15 hq15 hp15 ld15 ld15b h16 h15 h14 h12 hb13 ho13 hb15 ho15 h13 hs4 hs11 f4 f11
 refine (Zoz xa3 0 rfl q p11 m11 pb11 g11 _ w17 hM17 (Jw G16.out rfl (by decide) (Nat.zero_le _)) (fun s hs=>HIN.out s (by simp only [List.mem_cons,List.not_mem_nil,or_false] at hs ⊢;rcases hs with rfl | rfl<;>simp))).mono ?_
 rintro e w18 ⟨A18,c18,p18,m18,pb18,g18,rfl,f18,hs18,hM18⟩
 have x18:=f18.size
 have F18m:=f18.mono aq
 have S18:=Lib.hid hs18
 clear hM17 f18 hs18
 go_wp2_with (first
  | (refine Zo rfl 38 rfl (.cells #[.int .i64 0,.int .i64 0,.slice none 0 0] 38) _ rfl (by go_simp) ?_;intro w19 e19 h19)
  | (refine Ze rfl rfl 38 _ _ rfl w18.heap.size _ rfl rfl 38 _ h19 (by kernel_rfl) (by rfl) (by rfl) ?_
     intro w20 hb20 ho20 h20)
  | (refine Xx (len:=1) rfl (by kernel_rfl) (.cells (U4 [xd]).toArray 30) (.slice (some ⟨w20.heap.size,0,none⟩) 1 1) _ rfl (by kernel_rfl) ?_
     intro w21 e21 h21))
 refine (Zey _ _ _ _).mono ?_
 rintro e w22 ⟨rfl,e22⟩
 go_wp2_with fail
 have e20:Ext w18 w20:=hb20 _ _ (Nat.le_refl _) e19
 have e2022:=Xt e21 e22
 refine (Zoz xa4 1 rfl q p18 m18 pb18 g18 _ w22 (hM18.ext (Xt e20 e2022)) (Jw (e22.at h21) rfl (by decide) (Nat.zero_le _)) (fun s hs=>HIN.out s (by simp only [List.mem_cons,List.not_mem_nil,or_false] at hs ⊢;subst hs;simp))).mono ?_
 rintro e w23 ⟨A23,c23,p23,m23,pb23,g23,rfl,f23,hs23,hM23⟩
 have x20:=e20.size
 have x22:=e2022.size
 have x23:=f23.size
 have l20:=Zg h20
 have F23m:=f23.mono aq
 have S23:=Lib.hid hs23
 have G20:=Lib.hid h20
 clear hM18 f23 hs23 hb20 ho20 h19 h20 h21
 go_wp2_with (first
  | (refine Zo rfl 38 rfl (.cells #[.int .i64 0,.int .i64 0,.slice none 0 0] 38) _ rfl (by go_simp) ?_;intro w24 e24 h24)
  | (refine Ze rfl rfl 38 _ _ rfl w23.heap.size _ rfl rfl 38 _ h24 (by kernel_rfl) (by rfl) (by rfl) ?_
     intro w25 hb25 ho25 h25))
 have e25:Ext w23 w25:=hb25 _ _ (Nat.le_refl _) e24
 refine (Zoz xa5 0 rfl q p23 m23 pb23 g23 _ w25 (hM23.ext e25) (Zag _ _ _) (fun s hs=>by simp at hs)).mono ?_
 rintro e w26 ⟨A26,c26,p26,m26,pb26,g26,rfl,f26,hs26,hM26⟩
 have x25:=e25.size
 have x26:=f26.size
 have l25:=Zg h25
 have F26m:=f26.mono aq
 have F2026:FrA AA w20 w26:=(FrA.of_ext e2022).trans (F23m.trans ((FrA.of_ext e25).trans F26m))
 have F1826:FrA AA w18 w26:=(FrA.of_ext e20).trans F2026
 have F1326:FrA AA w13 w26:=F1317.trans (F18m.trans F1826)
 have F626:FrA AA w6 w26:=F611.trans ((FrA.of_ext e13x).trans F1326)
 have na:∀x,x≠q->x≠w6.heap.size->¬AA x:=fun x h1 h2 h3=>by rcases ac x h3 with h | h<;>contradiction
 have r1:=F626.at h6 (na _ (by omega) (by omega))
 have r2:=F1326.at G13.out (na _ (by omega) (by omega))
 have r3:=F2026.at G20.out (na _ (by omega) (by omega))
 have r4:=F26m.at h25 (na _ (by omega) (by omega))
 have s1:=S4.out.fra2 ((FrA.of_ext e46).trans F626) (fun x hx=>by rcases ac x hx with h | h<;>omega)
 have s2:=S11.out.fra2 ((FrA.of_ext e13x).trans F1326) (fun x hx=>by rcases ac x hx with h | h<;>omega)
 have s3:=S18.out.fra2 F1826 (fun x hx=>by rcases ac x hx with h | h<;>omega)
 have s4:=S23.out.fra2 ((FrA.of_ext e25).trans F26m) (fun x hx=>by rcases ac x hx with h | h<;>omega)
 have E26:Ext w w26:=FrA.ext0 E3 (F4m.trans ((FrA.of_ext e46).trans F626)) (fun x hx=>by have:=e1.size;rcases ac x hx with h | h<;>omega)
 clear hM23 hM26 f26 h24 h25 hb25 ho25 F2026 F1826 F1326 F626 F26m F23m F18m F611 F1317 F4m G13 G20 S4 S11 S18 S23 G16 aq ab ac na h6 e46 e68 e8t
 go_wp2_with (first
  | (refine Zo rfl 38 rfl (.cells #[.int .i64 0,.int .i64 0,.slice none 0 0] 38) _ rfl (by go_simp) ?_;intro w27 e27 h27)
  | (refine Ze rfl rfl 38 _ _ rfl w26.heap.size _ rfl rfl 38 _ h27 (by kernel_rfl) (by rfl) (by rfl) ?_
     intro w28 hb28 ho28 h28
     have e28:Ext w26 w28:=hb28 _ _ (Nat.le_refl _) e27
     have ld1:=Zeu (e28.at r1))
  | (refine Z6 38 _ _ _ (by kernel_rfl) rfl rfl ld1 ?_)
  | (refine Xx (len:=3) rfl (by kernel_rfl) (.cells (gtC [(0,0),(0,0),(0,0)]).toArray 55) (.slice (some ⟨w28.heap.size,0,none⟩) 3 3) _ rfl (by kernel_rfl) ?_
     intro w29 e29 h29))
 refine (Za5 w3.heap.size w28.heap.size _ _ 0 0 [(0,0),(0,0),(0,0)] w29 (s1.ext (Xt e28 e29)) (Jw h29 rfl (by decide) (Nat.le_refl _))).mono ?_
 rintro e w30 ⟨rfl,e30⟩
 have T30:Ext w26 w30:=Xt e28 (Xt e29 e30)
 have ld2:=Zeu (T30.at r2)
 clear ld1
 go_wp2_with (first
  | (refine Z6 38 _ _ _ (by kernel_rfl) rfl rfl ld2 ?_)
  | (refine Xx (len:=2) rfl (by kernel_rfl) (.cells (gtC [(1,0),(20,0)]).toArray 55) (.slice (some ⟨w30.heap.size,0,none⟩) 2 2) _ rfl (by kernel_rfl) ?_
     intro w31 e31 h31))
 refine (Za5 w10.heap.size w30.heap.size _ _ 0 0 [(1,0),(20,0)] w31 (s2.ext (Xt T30 e31)) (Jw h31 rfl (by decide) (Nat.le_refl _))).mono ?_
 rintro e w32 ⟨rfl,e32⟩
 have T32:Ext w26 w32:=Xt T30 (Xt e31 e32)
 have ld3:=Zeu (T32.at r3)
 clear ld2
 go_wp2_with (first
  | (refine Z6 38 _ _ _ (by kernel_rfl) rfl rfl ld3 ?_))
 refine (Za5 w17.heap.size 0 _ _ 11 1 [] w32 (s3.ext T32) (Zag _ _ _)).mono ?_
 rintro e w33 ⟨rfl,e33⟩
 have T33:Ext w26 w33:=Xt T32 e33
 have ld4:=Zeu (T33.at r4)
 clear ld3
 go_wp2_with (first
  | (refine Z6 38 _ _ _ (by kernel_rfl) rfl rfl ld4 ?_)
  | (refine Xx (len:=1) rfl (by kernel_rfl) (.cells (gtC [(20,50)]).toArray 55) (.slice (some ⟨w33.heap.size,0,none⟩) 1 1) _ rfl (by kernel_rfl) ?_
     intro w34 e34 h34))
 refine (Za5 w22.heap.size w33.heap.size _ _ 0 0 [(20,50)] w34 (s4.ext (Xt T33 e34)) (Jw h34 rfl (by decide) (Nat.le_refl _))).mono ?_
 rintro e w35 ⟨rfl,e35⟩
 have T35:Ext w26 w35:=Xt T33 (Xt e34 e35)
 have ld5:=Zeu ((Xt e29 (Xt e30 (Xt e31 (Xt e32 (Xt e33 (Xt e34 e35)))))).at h28)
 clear ld4
 go_wp2_with (first
  | (refine Z6 38 _ _ _ (by kernel_rfl) rfl rfl ld5 ?_))
 refine (Za5 w25.heap.size 0 _ _ 3 0 [] w35 (hs26.ext T35) (Zag _ _ _)).mono ?_
 rintro e w36 ⟨rfl,e36⟩
 go_wp2
 go_ret
 exact ⟨rfl,Xt E26 (Xt T35 e36)⟩
end Go.Proofs.YtipjchbdogmccaaGreat
