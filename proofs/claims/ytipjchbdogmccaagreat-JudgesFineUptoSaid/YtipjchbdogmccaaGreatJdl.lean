/- The judges' law: the chapter's example; walked. -/
import Derived.Test.YtipjchbdogmccaaGreatJd6
namespace Go.Proofs.YtipjchbdogmccaaGreat
open Go.RowKit Go.Rg Go.BigFrame
theorem xs1_in:∀s∈[xs1],s.In:=by
 intro s hs
 rw [List.mem_singleton.1 hs]
 exact ⟨by decide,by decide,by decide,by decide⟩
def jlC (k:Int) (v:Value):Cl:=⟨k,1,v,[xs1]⟩
def jlF (k:Int) (v:Value) (t:Int):An:=⟨k,1,0,0,v,[(0,0)],t⟩
def jlT:An:=⟨1,1,8,0,.slice none 0 0,[],3⟩
theorem jl_1 (v g:Value):Y6 [(jlC 1 v,1),(jlC 2 v,5)] [jlF 1 g 3] [jlC 1 v,jlC 2 v]=(0,-1):=by kernel_rfl
theorem jl_2 (v g:Value):Y6 [(jlC 1 v,1),(jlC 2 v,5)] [jlF 1 g 3] [jlC 2 v,jlC 1 v]=(4,0):=by kernel_rfl
theorem jl_3 (v g:Value):Y6 [(jlC 1 v,1),(jlC 2 v,5)] [jlF 2 g 9] [jlC 1 v,jlC 2 v]=(4,0):=by kernel_rfl
theorem jl_4 (v:Value):Y6 [(jlC 1 v,1),(jlC 2 v,5)] [jlT] [jlC 2 v,jlC 1 v]=(5,0):=by kernel_rfl
theorem jl_5 (v:Value):Y6 [(jlC 1 v,1),(jlC 2 v,5)] [] [jlC 1 v,jlC 1 v]=(2,1):=by kernel_rfl
theorem jl_6 (v g:Value):Y6 [(jlC 1 v,1),(jlC 2 v,5)] [jlF 1 g 3] []=(3,0):=by kernel_rfl
theorem jl_7 (v:Value):Y6 [] [] [jlC 1 v]=(1,0):=by kernel_rfl
theorem Zpy (w:World) (size:Nat):Z4 w size (.slice none 0 0) 0 []:=⟨none,0,rfl,Nat.le_refl _,Nat.zero_le _,by simp,.inl rfl⟩
theorem ldc0 (w:World) (g:Nat) (c:Cl) (t:TypeId) (h:w.heap[g]? =some (.cells c.cells.toArray t (0,0))):(loadVar 73 ⟨g,0,none⟩).run Tryz.prog w= .ok (Jf c) w:=
 Zm w g 0 73 c.cells _ (fun j u hu=>by rw [Nat.zero_add];exact Za h (by simpa using hu)) Tryz.underlying73 rfl (by kernel_rfl)
theorem lda0 (w:World) (g:Nat) (c:An) (t:TypeId) (h:w.heap[g]? =some (.cells c.cells.toArray t (0,0))):(loadVar 71 ⟨g,0,none⟩).run Tryz.prog w= .ok (Zfu c) w:=
 Zm w g 0 71 c.cells _ (fun j u hu=>by rw [Nat.zero_add];exact Za h (by simpa using hu)) Tryz.underlying71 rfl (by kernel_rfl)
def Held (p:Prop):Prop:=p
theorem held {p:Prop} (h:Held p):p:=h
theorem Yj {p:Prop} (h:p):Held p:=h
set_option maxRecDepth 100000 in
set_option maxHeartbeats 51200000 in
theorem Yp (w:World):Calls Tryz.prog 27 #[] w (Ret (.bool true) w):=by
 go_enter Tryz.func27,Tryz.ntmps27
 go_wp2_with (refine Yf (w:=w) (len:=1) rfl (by kernel_rfl) (.cells (Zbd [xs1]).toArray 30) (.slice (some ⟨w.heap.size,0,none⟩) 1 1) _ rfl (by kernel_rfl) ?_
              intro wa ea ha
              refine held ?_)
 refine Yj ?_
 go_wp2_with (refine Zr (w:=wa) rfl 42 rfl (.cells #[.slice none 0 0] 42) _ rfl (by go_simp) ?_
              intro wb eb hb
              refine held ?_)
 refine Yj ?_
 go_wp2_with (refine Ze (w:=wb) rfl rfl 42 _ _ rfl wa.heap.size _ rfl rfl 42 _ hb (by kernel_rfl) (by rfl) (by rfl) ?_
              intro wc kc oc hc
              have ec:Ext wa wc:=kc _ _ (Nat.le_refl _) eb
              have z1:=Za (j:=0) hc rfl
              refine held ?_)
 refine Yj ?_
 go_wp2_with (refine Zr (w:=wc) rfl 73 rfl (.cells #[.int .u8 0,.int .u64 0,.slice none 0 0] 73) _ rfl (by go_simp) ?_
              intro wd ed hd
              refine held ?_)
 refine Yj ?_
 go_wp2_with (refine Ze (w:=wd) rfl rfl 73 _ _ rfl wc.heap.size _ rfl rfl 73 _ hd (by kernel_rfl) (by rfl) (by rfl) ?_
              intro we ke oe he
              have ee:Ext wc we:=ke _ _ (Nat.le_refl _) ed
              have z2:=Za (j:=0) (ee.at hc) rfl
              refine held ?_)
 refine Yj ?_
 go_wp2_with (refine Zr (w:=we) rfl 73 rfl (.cells #[.int .u8 0,.int .u64 0,.slice none 0 0] 73) _ rfl (by go_simp) ?_
              intro wf ef hf
              refine held ?_)
 refine Yj ?_
 go_wp2_with (refine Ze (w:=wf) rfl rfl 73 _ _ rfl we.heap.size _ rfl rfl 73 _ hf (by kernel_rfl) (by rfl) (by rfl) ?_
              intro wg kg og hg
              have eg:Ext we wg:=kg _ _ (Nat.le_refl _) ef
              have z30:=Za (j:=0) (eg.at he) rfl
              have z31:=Za (j:=1) (eg.at he) rfl
              have z32:=Za (j:=2) (eg.at he) rfl
              have z40:=Za (j:=0) hg rfl
              have z41:=Za (j:=1) hg rfl
              have z42:=Za (j:=2) hg rfl
              clear z1 z2 kg kc ke og oc oe
              refine held ?_)
 refine Yj ?_
 go_wp2_with (refine Yf (w:=wg) (len:=2) rfl (by kernel_rfl) (.cells #[.int .u8 1,.int .u64 1,.slice (some ⟨w.heap.size,0,none⟩) 1 1,.int .u64 1,.int .u8 2,.int .u64 1,.slice (some ⟨w.heap.size,0,none⟩) 1 1,.int .u64 5] 155) (.slice (some ⟨wg.heap.size,0,none⟩) 2 2) _ rfl (by kernel_rfl) ?_
              intro wh eh hh
              clear z30 z31 z32 z40 z41 z42
              refine held ?_)
 refine Yj ?_
 go_wp2_with (refine Yf (w:=wh) (len:=1) rfl (by kernel_rfl) (.cells #[.int .i64 0,.int .i64 0] 55) (.slice (some ⟨wh.heap.size,0,none⟩) 1 1) _ rfl (by kernel_rfl) ?_
              intro wi ei hi
              refine held ?_)
 refine Yj ?_
 go_wp2_with (refine Zr (w:=wi) rfl 71 rfl (.cells #[.int .u8 0,.int .u64 0,.int .i64 0,.int .i64 0,.slice none 0 0,.int .u64 0] 71) _ rfl (by go_simp) ?_
              intro wj ej hj
              refine held ?_)
 refine Yj ?_
 go_wp2_with (refine Ze (w:=wj) rfl rfl 71 _ _ rfl wi.heap.size _ rfl rfl 71 _ hj (by kernel_rfl) (by rfl) (by rfl) ?_
              intro wk kk ok hk
              have ek:Ext wi wk:=kk _ _ (Nat.le_refl _) ej
              have f0:=Za (j:=0) hk rfl
              have f1:=Za (j:=1) hk rfl
              have f2:=Za (j:=2) hk rfl
              have f3:=Za (j:=3) hk rfl
              have f4:=Za (j:=4) hk rfl
              have f5:=Za (j:=5) hk rfl
              refine held ?_)
 refine Yj ?_
 go_wp2_with (refine Zr (w:=wk) rfl 71 rfl (.cells #[.int .u8 0,.int .u64 0,.int .i64 0,.int .i64 0,.slice none 0 0,.int .u64 0] 71) _ rfl (by go_simp) ?_
              intro wl el hl
              clear f0 f1 f2 f3 f4 f5
              refine held ?_)
 refine Yj ?_
 go_wp2_with (first
  | (refine Ze (w:=wl) rfl rfl 71 _ _ rfl wk.heap.size _ rfl rfl 71 _ hl (by kernel_rfl) (by rfl) (by rfl) ?_
     intro wm km om hm
     have em:Ext wk wm:=km _ _ (Nat.le_refl _) el
     have c0:=Za (j:=0) hm rfl
     have d0:=frozen_of_row _ _ 0 _ _ hm
     have hm2:=heap_setCell_same wm wk.heap.size 0 _ _ (.int .u8 2) hm
     have c5:=Za (j:=5) hm2 rfl
     have d5:=frozen_of_row _ _ 5 _ _ hm2
     have hm3:=heap_setCell_same _ wk.heap.size 5 _ _ (.int .u64 9) hm2
     have k6:Keep [wk.heap.size] wm ((wm.setCell ⟨wk.heap.size,0,none⟩ (.int .u8 2)).setCell ⟨wk.heap.size,5,none⟩ (.int .u64 9)):=((Keep.refl _ _).setCell (.inl (by simp)) _).setCell (.inl (by simp)) _
     have en:Ext wk ((wm.setCell ⟨wk.heap.size,0,none⟩ (.int .u8 2)).setCell ⟨wk.heap.size,5,none⟩ (.int .u64 9)):=(Keep.trans_fresh (S:=[]) (Kx em) k6 (fun x hx=>by right;simp at hx;omega)).ext
     have hsz:((wm.setCell ⟨wk.heap.size,0,none⟩ (.int .u8 2)).setCell ⟨wk.heap.size,5,none⟩ (.int .u64 9)).heap.size=wm.heap.size:=by rw [World.size_setCell,World.size_setCell]
     have hn5:=en.at hk
     have g0:=Za (j:=0) hn5 rfl
     have g1:=Za (j:=1) hn5 rfl
     have g2:=Za (j:=2) hn5 rfl
     have g3:=Za (j:=3) hn5 rfl
     have g4:=Za (j:=4) hn5 rfl
     have g5:=Za (j:=5) hn5 rfl
     have hq:=Zb ((wm.setCell ⟨wk.heap.size,0,none⟩ (.int .u8 2)).setCell ⟨wk.heap.size,5,none⟩ (.int .u64 9)) (.cells #[.int .u8 1,.int .u64 1,.int .i64 8,.int .i64 0,.slice none 0 0,.int .u64 3] 71)
     rw [hsz] at hq
     have ez:=Zc ((wm.setCell ⟨wk.heap.size,0,none⟩ (.int .u8 2)).setCell ⟨wk.heap.size,5,none⟩ (.int .u64 9)) (.cells #[.int .u8 1,.int .u64 1,.int .i64 8,.int .i64 0,.slice none 0 0,.int .u64 3] 71)
     have l5:=lda0 _ wi.heap.size (jlF 1 (.slice (some ⟨wh.heap.size,0,none⟩) 1 1) 3) _ ((Xt en ez).at hk))
  | (refine Zd rfl _ _ _ _ rfl rfl l5 ?_
     refine held ?_))
 refine Yj ?_
 generalize (wm.setCell ⟨wk.heap.size,0,none⟩ (.int .u8 2)).setCell ⟨wk.heap.size,5,none⟩ (.int .u64 9)=wn at *
 clear c0 d0 c5 d5 hm hm2 k6 em km om el kk ok
 generalize wn.alloc (.cells #[.int .u8 1,.int .u64 1,.int .i64 8,.int .i64 0,.slice none 0 0,.int .u64 3] 71)=wz at *
 clear g0 g1 g2 g3 g4 g5 l5 hsz
 have xi:Ext wi wz:=Xt ek (Xt en ez)
 have xg:Ext wg wz:=Xt eh (Xt ei xi)
 have xw:Ext w wz:=Xt ea (Xt ec (Xt ee (Xt eg xg)))
 have L2:∀W,Ext wz W->(loadVar 73 ⟨wc.heap.size,0,none⟩).run Tryz.prog W= .ok (Jf (jlC 1 (.slice (some ⟨w.heap.size,0,none⟩) 1 1))) W:=fun W k=>ldc0 W _ _ _ ((Xt eg (Xt xg k)).at he)
 have L3:∀W,Ext wz W->(loadVar 73 ⟨we.heap.size,0,none⟩).run Tryz.prog W= .ok (Jf (jlC 2 (.slice (some ⟨w.heap.size,0,none⟩) 1 1))) W:=fun W k=>ldc0 W _ _ _ ((Xt xg k).at hg)
 have L5:∀W,Ext wz W->(loadVar 71 ⟨wi.heap.size,0,none⟩).run Tryz.prog W= .ok (Zfu (jlF 1 (.slice (some ⟨wh.heap.size,0,none⟩) 1 1) 3)) W:=fun W k=>lda0 W _ _ _ ((Xt en (Xt ez k)).at hk)
 have L6:∀W,Ext wz W->(loadVar 71 ⟨wk.heap.size,0,none⟩).run Tryz.prog W= .ok (Zfu (jlF 2 (.slice (some ⟨wh.heap.size,0,none⟩) 1 1) 9)) W:=fun W k=>lda0 W _ _ _ ((Xt ez k).at hm3)
 have L7:∀W,Ext wz W->(loadVar 71 ⟨wm.heap.size,0,none⟩).run Tryz.prog W= .ok (Zfu jlT) W:=fun W k=>lda0 W _ _ _ (k.at hq)
 have HOK:∀W,Ext wz W->∀i,J2 W (jlC i (.slice (some ⟨w.heap.size,0,none⟩) 1 1)):=fun W k i=>⟨(X9 (base:=0) (n:=1) (size:=10) (((Xt ec (Xt ee (Xt eg (Xt xg k)))).at ha)) rfl (by decide) (Nat.zero_le _)).arg,xs1_in⟩
 have HAN:∀W,Ext wz W->∀i t,AnR W (jlF i (.slice (some ⟨wh.heap.size,0,none⟩) 1 1) t):=fun W k i t=>(X9 (base:=0) (n:=1) (size:=2) (cs:=gtC [(0,0)]) ((Xt xi k).at hi) rfl (by decide) (Nat.zero_le _)).arg
 have HCS:∀W,Ext wz W->Z4 W 4 (.slice (some ⟨wg.heap.size,0,none⟩) 2 2) [(jlC 1 (.slice (some ⟨w.heap.size,0,none⟩) 1 1),(1:Int)),(jlC 2 (.slice (some ⟨w.heap.size,0,none⟩) 1 1),5)].length ([(jlC 1 (.slice (some ⟨w.heap.size,0,none⟩) 1 1),(1:Int)),(jlC 2 (.slice (some ⟨w.heap.size,0,none⟩) 1 1),5)].flatMap Yr):=fun W k=>(X9 (base:=0) (n:=2) (size:=4) ((Xt ei (Xt xi k)).at hh) rfl (by decide) (Nat.zero_le _)).arg
 have JA:∀W,Ext wz W->∀(an:List An) (av:Value) (ol:List Cl) (ov:Value),Z4 W 6 av an.length (an.flatMap An.cells)->Z4 W 3 ov ol.length (ol.flatMap Cl.cells)->(∀a∈an,AnR W a)->(∀c∈ol,∃k,c=jlC k (.slice (some ⟨w.heap.size,0,none⟩) 1 1))->ol.length<=1000->Calls Tryz.prog 29 #[.slice (some ⟨wg.heap.size,0,none⟩) 2 2,av,ov] W (Ret (.tuple #[.int .u8 (Y6 [(jlC 1 (.slice (some ⟨w.heap.size,0,none⟩) 1 1),1),(jlC 2 (.slice (some ⟨w.heap.size,0,none⟩) 1 1),5)] an ol).1,.int .i64 (Y6 [(jlC 1 (.slice (some ⟨w.heap.size,0,none⟩) 1 1),1),(jlC 2 (.slice (some ⟨w.heap.size,0,none⟩) 1 1),5)] an ol).2]) W):=fun W k an av ol ov h1 h2 h3 h4 h5=>by
  refine U0 _ an ol _ av ov W (HCS W k) h1 h2 (fun x hx=> ?_) h3 (fun c hc=> ?_) h5
  ·simp only [List.mem_cons,List.not_mem_nil,or_false] at hx
   rcases hx with rfl | rfl
   ·exact HOK W k 1
   exact HOK W k 2
  obtain ⟨i,rfl⟩:=h4 c hc
  exact HOK W k i
 have HAT:∀W,AnR W jlT:=fun W=>Zpy W 2
 clear ha hb hc hd he hf hg hh hi hj hk hn5 hm3 hq ec ee eg eh ei ek en ez xi xg ej eb ed ef ea HCS
 have E0:=Ext.refl wz
 go_wp2_with (refine Yf (w:=wz) (len:=1) rfl (by kernel_rfl) (.cells #[.int .u8 1,.int .u64 1,.int .i64 0,.int .i64 0,.slice (some ⟨wh.heap.size,0,none⟩) 1 1,.int .u64 3] 71) (.slice (some ⟨wz.heap.size,0,none⟩) 1 1) _ rfl (by kernel_rfl) ?_
              intro a1 p1 h1
              have A1:=Xt E0 p1
              refine held ?_)
 refine Yj ?_
 go_wp2_with (refine Zd rfl _ _ _ _ rfl rfl (L2 _ A1) ?_;refine held ?_)
 refine Yj ?_
 go_wp2_with (refine Zd rfl _ _ _ _ rfl rfl (L3 _ A1) ?_;refine held ?_)
 refine Yj ?_
 go_wp2_with (refine Yf (w:=a1) (len:=2) rfl (by kernel_rfl) (.cells #[.int .u8 1,.int .u64 1,.slice (some ⟨w.heap.size,0,none⟩) 1 1,.int .u8 2,.int .u64 1,.slice (some ⟨w.heap.size,0,none⟩) 1 1] 73) (.slice (some ⟨a1.heap.size,0,none⟩) 2 2) _ rfl (by kernel_rfl) ?_
              intro b1 q1 o1
              have B1:=Xt A1 q1
              refine held ?_)
 refine Yj ?_
 go_wp2_with fail
 have j1:=JA b1 B1 [jlF 1 (.slice (some ⟨wh.heap.size,0,none⟩) 1 1) 3] _ [jlC 1 (.slice (some ⟨w.heap.size,0,none⟩) 1 1),jlC 2 (.slice (some ⟨w.heap.size,0,none⟩) 1 1)] _ ((X9 (base:=0) (n:=1) (size:=6) (q1.at h1) rfl (by decide) (Nat.zero_le _)).arg) ((X9 (base:=0) (n:=2) (size:=3) o1 rfl (by decide) (Nat.zero_le _)).arg) (fun x hx=>by rw [List.mem_singleton.1 hx];exact HAN _ B1 _ _) (fun c hc=>by simp only [List.mem_cons,List.not_mem_nil,or_false] at hc;rcases hc with rfl | rfl<;>exact ⟨_,rfl⟩) (by simp)
 rw [jl_1] at j1
 refine j1.mono ?_
 rintro e c1 ⟨rfl,r1⟩
 have C1:=Xt B1 r1
 clear j1 h1 p1 o1 q1 r1
 go_wp2_with (refine Zd rfl _ _ _ _ rfl rfl (L5 _ C1) ?_;refine held ?_)
 refine Yj ?_
 go_wp2_with (refine Yf (w:=c1) (len:=1) rfl (by kernel_rfl) (.cells #[.int .u8 1,.int .u64 1,.int .i64 0,.int .i64 0,.slice (some ⟨wh.heap.size,0,none⟩) 1 1,.int .u64 3] 71) (.slice (some ⟨c1.heap.size,0,none⟩) 1 1) _ rfl (by kernel_rfl) ?_
              intro a2 p2 h2
              have A2:=Xt C1 p2
              refine held ?_)
 refine Yj ?_
 go_wp2_with (refine Zd rfl _ _ _ _ rfl rfl (L3 _ A2) ?_;refine held ?_)
 refine Yj ?_
 go_wp2_with (refine Zd rfl _ _ _ _ rfl rfl (L2 _ A2) ?_;refine held ?_)
 refine Yj ?_
 go_wp2_with (refine Yf (w:=a2) (len:=2) rfl (by kernel_rfl) (.cells #[.int .u8 2,.int .u64 1,.slice (some ⟨w.heap.size,0,none⟩) 1 1,.int .u8 1,.int .u64 1,.slice (some ⟨w.heap.size,0,none⟩) 1 1] 73) (.slice (some ⟨a2.heap.size,0,none⟩) 2 2) _ rfl (by kernel_rfl) ?_
              intro b2 q2 o2
              have B2:=Xt A2 q2
              refine held ?_)
 refine Yj ?_
 go_wp2_with fail
 have j2:=JA b2 B2 [jlF 1 (.slice (some ⟨wh.heap.size,0,none⟩) 1 1) 3] _ [jlC 2 (.slice (some ⟨w.heap.size,0,none⟩) 1 1),jlC 1 (.slice (some ⟨w.heap.size,0,none⟩) 1 1)] _ ((X9 (base:=0) (n:=1) (size:=6) (q2.at h2) rfl (by decide) (Nat.zero_le _)).arg) ((X9 (base:=0) (n:=2) (size:=3) o2 rfl (by decide) (Nat.zero_le _)).arg) (fun x hx=>by rw [List.mem_singleton.1 hx];exact HAN _ B2 _ _) (fun c hc=>by simp only [List.mem_cons,List.not_mem_nil,or_false] at hc;rcases hc with rfl | rfl<;>exact ⟨_,rfl⟩) (by simp)
 rw [jl_2] at j2
 refine j2.mono ?_
 rintro e c2 ⟨rfl,r2⟩
 have C2:=Xt B2 r2
 clear j2 h2 p2 o2 q2 r2
 go_wp2_with (refine Zd rfl _ _ _ _ rfl rfl (L6 _ C2) ?_;refine held ?_)
 refine Yj ?_
 go_wp2_with (refine Yf (w:=c2) (len:=1) rfl (by kernel_rfl) (.cells #[.int .u8 2,.int .u64 1,.int .i64 0,.int .i64 0,.slice (some ⟨wh.heap.size,0,none⟩) 1 1,.int .u64 9] 71) (.slice (some ⟨c2.heap.size,0,none⟩) 1 1) _ rfl (by kernel_rfl) ?_
              intro a3 p3 h3
              have A3:=Xt C2 p3
              refine held ?_)
 refine Yj ?_
 go_wp2_with (refine Zd rfl _ _ _ _ rfl rfl (L2 _ A3) ?_;refine held ?_)
 refine Yj ?_
 go_wp2_with (refine Zd rfl _ _ _ _ rfl rfl (L3 _ A3) ?_;refine held ?_)
 refine Yj ?_
 go_wp2_with (refine Yf (w:=a3) (len:=2) rfl (by kernel_rfl) (.cells #[.int .u8 1,.int .u64 1,.slice (some ⟨w.heap.size,0,none⟩) 1 1,.int .u8 2,.int .u64 1,.slice (some ⟨w.heap.size,0,none⟩) 1 1] 73) (.slice (some ⟨a3.heap.size,0,none⟩) 2 2) _ rfl (by kernel_rfl) ?_
              intro b3 q3 o3
              have B3:=Xt A3 q3
              refine held ?_)
 refine Yj ?_
 go_wp2_with fail
 have j3:=JA b3 B3 [jlF 2 (.slice (some ⟨wh.heap.size,0,none⟩) 1 1) 9] _ [jlC 1 (.slice (some ⟨w.heap.size,0,none⟩) 1 1),jlC 2 (.slice (some ⟨w.heap.size,0,none⟩) 1 1)] _ ((X9 (base:=0) (n:=1) (size:=6) (q3.at h3) rfl (by decide) (Nat.zero_le _)).arg) ((X9 (base:=0) (n:=2) (size:=3) o3 rfl (by decide) (Nat.zero_le _)).arg) (fun x hx=>by rw [List.mem_singleton.1 hx];exact HAN _ B3 _ _) (fun c hc=>by simp only [List.mem_cons,List.not_mem_nil,or_false] at hc;rcases hc with rfl | rfl<;>exact ⟨_,rfl⟩) (by simp)
 rw [jl_3] at j3
 refine j3.mono ?_
 rintro e c3 ⟨rfl,r3⟩
 have C3:=Xt B3 r3
 clear j3 h3 p3 o3 q3 r3
 go_wp2_with (refine Zd rfl _ _ _ _ rfl rfl (L7 _ C3) ?_;refine held ?_)
 refine Yj ?_
 go_wp2_with (refine Yf (w:=c3) (len:=1) rfl (by kernel_rfl) (.cells #[.int .u8 1,.int .u64 1,.int .i64 8,.int .i64 0,.slice none 0 0,.int .u64 3] 71) (.slice (some ⟨c3.heap.size,0,none⟩) 1 1) _ rfl (by kernel_rfl) ?_
              intro a4 p4 h4
              have A4:=Xt C3 p4
              refine held ?_)
 refine Yj ?_
 go_wp2_with (refine Zd rfl _ _ _ _ rfl rfl (L3 _ A4) ?_;refine held ?_)
 refine Yj ?_
 go_wp2_with (refine Zd rfl _ _ _ _ rfl rfl (L2 _ A4) ?_;refine held ?_)
 refine Yj ?_
 go_wp2_with (refine Yf (w:=a4) (len:=2) rfl (by kernel_rfl) (.cells #[.int .u8 2,.int .u64 1,.slice (some ⟨w.heap.size,0,none⟩) 1 1,.int .u8 1,.int .u64 1,.slice (some ⟨w.heap.size,0,none⟩) 1 1] 73) (.slice (some ⟨a4.heap.size,0,none⟩) 2 2) _ rfl (by kernel_rfl) ?_
              intro b4 q4 o4
              have B4:=Xt A4 q4
              refine held ?_)
 refine Yj ?_
 go_wp2_with fail
 have j4:=JA b4 B4 [jlT] _ [jlC 2 (.slice (some ⟨w.heap.size,0,none⟩) 1 1),jlC 1 (.slice (some ⟨w.heap.size,0,none⟩) 1 1)] _ ((X9 (base:=0) (n:=1) (size:=6) (q4.at h4) rfl (by decide) (Nat.zero_le _)).arg) ((X9 (base:=0) (n:=2) (size:=3) o4 rfl (by decide) (Nat.zero_le _)).arg) (fun x hx=>by rw [List.mem_singleton.1 hx];exact HAT _) (fun c hc=>by simp only [List.mem_cons,List.not_mem_nil,or_false] at hc;rcases hc with rfl | rfl<;>exact ⟨_,rfl⟩) (by simp)
 rw [jl_4] at j4
 refine j4.mono ?_
 rintro e c4 ⟨rfl,r4⟩
 have C4:=Xt B4 r4
 clear j4 h4 p4 o4 q4 r4
 go_wp2_with (refine Zd rfl _ _ _ _ rfl rfl (L2 _ C4) ?_;refine held ?_)
 refine Yj ?_
 go_wp2_with (refine Yf (w:=c4) (len:=2) rfl (by kernel_rfl) (.cells #[.int .u8 1,.int .u64 1,.slice (some ⟨w.heap.size,0,none⟩) 1 1,.int .u8 1,.int .u64 1,.slice (some ⟨w.heap.size,0,none⟩) 1 1] 73) (.slice (some ⟨c4.heap.size,0,none⟩) 2 2) _ rfl (by kernel_rfl) ?_
              intro b5 q5 o5
              have B5:=Xt C4 q5
              refine held ?_)
 refine Yj ?_
 go_wp2_with fail
 have j5:=JA b5 B5 [] _ [jlC 1 (.slice (some ⟨w.heap.size,0,none⟩) 1 1),jlC 1 (.slice (some ⟨w.heap.size,0,none⟩) 1 1)] _ ((Zpy _ 6)) ((X9 (base:=0) (n:=2) (size:=3) o5 rfl (by decide) (Nat.zero_le _)).arg) (fun x hx=>absurd hx (by simp)) (fun c hc=>by simp only [List.mem_cons,List.not_mem_nil,or_false] at hc;rcases hc with rfl | rfl<;>exact ⟨_,rfl⟩) (by simp)
 rw [jl_5] at j5
 refine j5.mono ?_
 rintro e c5 ⟨rfl,r5⟩
 have C5:=Xt B5 r5
 clear j5 o5 q5 r5
 go_wp2_with (refine Zd rfl _ _ _ _ rfl rfl (L5 _ C5) ?_;refine held ?_)
 refine Yj ?_
 go_wp2_with (refine Yf (w:=c5) (len:=1) rfl (by kernel_rfl) (.cells #[.int .u8 1,.int .u64 1,.int .i64 0,.int .i64 0,.slice (some ⟨wh.heap.size,0,none⟩) 1 1,.int .u64 3] 71) (.slice (some ⟨c5.heap.size,0,none⟩) 1 1) _ rfl (by kernel_rfl) ?_
              intro a6 p6 h6
              have A6:=Xt C5 p6
              refine held ?_)
 refine Yj ?_
 go_wp2_with fail
 have j6:=JA a6 A6 [jlF 1 (.slice (some ⟨wh.heap.size,0,none⟩) 1 1) 3] _ [] _ ((X9 (base:=0) (n:=1) (size:=6) ((Ext.refl _).at h6) rfl (by decide) (Nat.zero_le _)).arg) ((Zpy _ 3)) (fun x hx=>by rw [List.mem_singleton.1 hx];exact HAN _ A6 _ _) (fun x hx=>absurd hx (by simp)) (by decide)
 rw [jl_6] at j6
 refine j6.mono ?_
 rintro e c6 ⟨rfl,r6⟩
 have C6:=Xt A6 r6
 clear j6 h6 p6 r6
 go_wp2_with (refine Zd rfl _ _ _ _ rfl rfl (L2 _ C6) ?_;refine held ?_)
 refine Yj ?_
 go_wp2_with (refine Yf (w:=c6) (len:=1) rfl (by kernel_rfl) (.cells #[.int .u8 1,.int .u64 1,.slice (some ⟨w.heap.size,0,none⟩) 1 1] 73) (.slice (some ⟨c6.heap.size,0,none⟩) 1 1) _ rfl (by kernel_rfl) ?_
              intro b7 q7 o7
              have B7:=Xt C6 q7
              refine held ?_)
 refine Yj ?_
 go_wp2_with fail
 have j7:=U0 [] [] [jlC 1 (.slice (some ⟨w.heap.size,0,none⟩) 1 1)] _ _ _ b7 (Zpy _ 4) (Zpy _ 6) ((X9 (base:=0) (n:=1) (size:=3) o7 rfl (by decide) (Nat.zero_le _)).arg) (fun x hx=>absurd hx (by simp)) (fun x hx=>absurd hx (by simp)) (fun c hc=>by rw [List.mem_singleton.1 hc];exact HOK _ B7 1) (by simp)
 rw [jl_7] at j7
 refine j7.mono ?_
 rintro e c7 ⟨rfl,r7⟩
 have C7:=Xt B7 r7
 clear j7 o7 q7 r7
 go_wp2
 go_ret
 exact ⟨rfl,Xt xw C7⟩
end Go.Proofs.YtipjchbdogmccaaGreat
