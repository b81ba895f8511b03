/- MachinesBatch: what a command does, step by step; the walk. Commands that come in, opened: slices of slices of steps. A machine's state, walked; two states that say the same. What is asked of a journal, opened. -/
import Derived.Test.YtipjchbdogmccaaGreatMv
import Derived.Test.YtipjchbdogmccaaGreatMade
set_option maxHeartbeats 1600000
set_option maxRecDepth 100000
namespace Go.Proofs.YtipjchbdogmccaaGreat
open Go.Joins Go.Deep Go.WideElems Go.Maps Go.ChangeShapes Go.WideShapes Go.ChangeAt Go.RowKit Go.Rg Go.BigFrame
abbrev Cmd:=Value×List Stp
def Cmd.cells (x:Cmd):List Value:=[x.1]
def Zcb (w:World) (x:Cmd):Prop:=Vn w 10 x.1 x.2.length (Vf x.2)/\∀s∈x.2,s.In
theorem Zcb.ext {w w':World} {x:Cmd} (h:Zcb w x) (k:Ext w w'):Zcb w' x:=⟨h.1.ext k,h.2⟩
theorem Zae (l:List Cmd) (k:Nat) (hk:k<l.length):(l.flatMap Cmd.cells)[k]? =some (l[k]'hk).1:=by
 have:=Zeg Cmd.cells 1 (fun _=>rfl) l k 0 hk (by omega)
 rw [Nat.mul_one,Nat.add_zero] at this
 rw [this]
 rfl
theorem list10 {α:Type} {cs:List α} (h:cs.length=10):∃c0 c1 c2 c3 c4 c5 c6 c7 c8 c9,cs=[c0,c1,c2,c3,c4,c5,c6,c7,c8,c9]:=by
 match cs,h with
 | [c0,c1,c2,c3,c4,c5,c6,c7,c8,c9],_=>exact ⟨c0,c1,c2,c3,c4,c5,c6,c7,c8,c9,rfl⟩
section
variable {H:Type} {enc:TypeId×Value->H} {w:World} {base:Nat} {spare:Nat->Bool} {held:Bool}
theorem open_step {fuel:Nat} {cs:List Value} {x:DataW H×List MemPlace} (h:DataW.trod enc Tryz.prog w base spare held fuel 30 cs=some x):∃a:Stp,cs=a.cells/\a.In:=by
 have hu:=Tryz.underlying30
 have hl:=(DataW.trod_struct hu h).choose_spec.choose_spec.2.2.1
 obtain ⟨c0,c1,c2,c3,c4,c5,c6,c7,c8,c9,rfl⟩:=list10 (hl.trans (by kernel_rfl))
 obtain ⟨_,_,h0⟩:=Uu hu h 0 0 1 _ rfl (by kernel_rfl)
 obtain ⟨_,_,h1⟩:=Uu hu h 1 1 1 _ rfl (by kernel_rfl)
 obtain ⟨_,_,h2⟩:=Uu hu h 2 2 1 _ rfl (by kernel_rfl)
 obtain ⟨_,_,h3⟩:=Uu hu h 3 3 1 _ rfl (by kernel_rfl)
 obtain ⟨_,_,h4⟩:=Uu hu h 4 4 1 _ rfl (by kernel_rfl)
 obtain ⟨_,_,h5⟩:=Uu hu h 5 5 1 _ rfl (by kernel_rfl)
 obtain ⟨_,_,h6⟩:=Uu hu h 6 6 1 _ rfl (by kernel_rfl)
 obtain ⟨_,_,hr⟩:=Uu hu h 7 7 2 _ rfl (by kernel_rfl)
 obtain ⟨_,_,h9⟩:=Uu hu h 8 9 1 _ rfl (by kernel_rfl)
 have hv:=Tryz.underlying27
 obtain ⟨_,_,h7⟩:=Uu hv hr 0 0 1 _ rfl (by kernel_rfl)
 obtain ⟨_,_,h8⟩:=Uu hv hr 1 1 1 _ rfl (by kernel_rfl)
 simp only [List.drop_succ_cons,List.drop_zero,List.take_succ_cons,List.take_zero] at h0 h1 h2 h3 h4 h5 h6 h7 h8 h9
 obtain ⟨x0,rfl,_⟩:=Ub Tryz.underlying23 h0
 obtain ⟨x1,rfl,_⟩:=Ub Tryz.underlying24 h1
 obtain ⟨x2,rfl,_⟩:=Ub Tryz.underlying24 h2
 obtain ⟨x3,rfl,_⟩:=Ub Tryz.underlying25 h3
 obtain ⟨x4,rfl,_⟩:=Ub Tryz.underlying25 h4
 obtain ⟨x5,rfl,w5⟩:=Ub Tryz.underlying2 h5
 obtain ⟨x6,rfl,w6⟩:=Ub Tryz.underlying2 h6
 obtain ⟨x7,rfl,w7⟩:=Ub Tryz.underlying2 h7
 obtain ⟨x8,rfl,w8⟩:=Ub Tryz.underlying2 h8
 obtain ⟨x9,rfl,_⟩:=Ub Tryz.underlying28 h9
 exact ⟨⟨x0,x1,x2,x3,x4,x5,x6,x7,x8,x9⟩,rfl,(bounds_i64 w5).2,(bounds_i64 w6).2,(bounds_i64 w7).2,(bounds_i64 w8).2⟩
theorem open_cmdL {fuel:Nat} {cs:List Value} {x:DataW H×List MemPlace} (h:DataW.trod enc Tryz.prog w base spare held fuel 42 cs=some x):∃a:Cmd,cs=a.cells/\Zcb w a:=by
 have hu:=Tryz.underlying42
 have hl:=(DataW.trod_struct hu h).choose_spec.choose_spec.2.2.1
 obtain ⟨v,rfl⟩:=List.length_eq_one_iff.1 (hl.trans (by kernel_rfl))
 obtain ⟨_,_,h0⟩:=Uu hu h 0 0 1 _ rfl (by kernel_rfl)
 simp only [List.drop_zero,List.take_succ_cons,List.take_zero] at h0
 obtain ⟨v',l,e,ha,ho⟩:=Zlu Stp.cells Stp.In 10 (by omega) (fun _=>rfl) Tryz.underlying40 (by kernel_rfl) (fun n cs y=>open_step) h0
 cases e
 exact ⟨(v,l),rfl,ha,ho⟩
theorem Zd8 {b0:Nat} {r:Reach} {v:Value} {d:DataW H} {p:List MemPlace} (hv:Value.okWide Tryz.prog w r b0 22 v) (h:DataW.Trod enc Tryz.prog w base spare held 22 v d p):
 ∃l:List Cmd,Vn w 1 v l.length (l.flatMap Cmd.cells)/\∀x∈l,Zcb w x:=by
 obtain ⟨A,n,cap,rfl⟩:=okWide_slice Tryz.underlying22 hv
 obtain ⟨fuel,hf⟩:=h
 obtain ⟨v',l,e,ha,ho⟩:=Zlu Cmd.cells (Zcb w) 1 (by omega) (fun _=>rfl) Tryz.underlying22 (by kernel_rfl) (fun n cs y=>open_cmdL) hf
 simp only [Value.cells] at e
 cases e
 exact ⟨l,ha,ho⟩
end
end Go.Proofs.YtipjchbdogmccaaGreat
namespace Go.Rg
open Go.RowKit
section
variable {P:Program} {ops:Array Oper} {md:Region.Mode}
theorem Xs {n f:Nat} {L:Array Bool->Act->World->Prop} {listed:Array Bool} {a:Act} {w0 w:World} (i:Nat) (o:Oper) (v:Value) (hg:o.guard=none)
 (hr:Region.ready md ops listed=[i]) (hin:i<n) (ho:ops[i]? =some o) (hl:∀w',Ext w w'->(execOp a.eval o).run P w'= .ok (.value v) w')
 (h:∀w':World,Ext w0 w'->Ext w w'->wpX P md ops w0 n L f (listed.setIfInBounds i true) (a.put o.dst v) w'):wpX P md ops w0 n L (f+1) listed a w:=by
 refine Ve i o hr hin ho (by simp [Region.wanted,hg]) fun w' h0 hw'=> ?_
 unfold Xz
 rw [hl w' hw']
 exact ⟨h0,h w' h0 hw'⟩
end
end Go.Rg
namespace Go.Proofs.YtipjchbdogmccaaGreat
open Go.RowKit Go.Rg Go.BigFrame
def Zhn (w:World) (base:Nat) (v:Value) (L:Led) (B:Bk):Prop:=
 ∃v1 v2 v3,v= .agg #[v1,v2,v3,.int .u64 B.next]/\Zq w base 1 v1 (Zw L).length ((Zw L).map (.int .u8))/\Zq w base 5 v2 (Yk L.lines).length (Y3 (Yk L.lines))/\Zcx w base v3 B.offs
def RetSt (L:Led) (B:Bk) (w:World) (e:Ending) (w':World):Prop:=∃v,e= .returned v/\Ext w w'/\Zhn w' w.heap.size v L B
theorem Zhn.ext {w w':World} {base:Nat} {v:Value} {L:Led} {B:Bk} (h:Zhn w base v L B) (k:Ext w w'):Zhn w' base v L B:=
 let ⟨v1,v2,v3,e,h1,h2,h3⟩:=h
 ⟨v1,v2,v3,e,h1.ext k,h2.ext k,Zq.ext h3 k⟩
theorem Zhn.fra2 {A:Nat->Prop} {w w':World} {base:Nat} {v:Value} {L:Led} {B:Bk} (h:Zhn w base v L B) (k:FrA A w w') (hS:∀x,A x->x<base\/w.heap.size<=x):Zhn w' base v L B:=
 let ⟨v1,v2,v3,e,h1,h2,h3⟩:=h
 ⟨v1,v2,v3,e,h1.fra2 k hS,h2.fra2 k hS,Zq.fra2 h3 k hS⟩
theorem Jr (q p m pb:Nat) (g:Option Nat) (L:Led) (B:Bk) (w:World) (h:IsM w q p m pb g L B):Calls Tryz.prog 18 #[.pointer (some ⟨q,0,none⟩)] w (RetSt L B w):=by
 have h0:=Zb w (.cells #[.slice none 0 0,.slice none 0 0,.slice none 0 0,.int .u64 0] 47)
 have e0:=Zc w (.cells #[.slice none 0 0,.slice none 0 0,.slice none 0 0,.int .u64 0] 47)
 go_enter Tryz.func18,Tryz.ntmps18
 go_wp2_with fail
 refine (Zff q p m pb g L B _ (h.ext e0)).mono ?_
 rintro e w3 ⟨rfl,e3⟩
 have h3:=e3.at h0
 have e03:=Xt e0 e3
 have hM:=h.ext e03
 clear h0 e0 e3 h
 go_wp2_with fail
 refine Zg Zl 25 [5,11,17,23,24] (by kernel_rfl) (by kernel_rfl) ?_
 intro w1 hw1
 have d0:=fun u:ExtOf w1=>Za (j:=0) ((Xt hw1 u.h).at hM.row) rfl
 have d1:=fun u:ExtOf w1=>Za (j:=1) ((Xt hw1 u.h).at hM.row) rfl
 simp only [Zj,Rg.hsB,Nat.reduceBEq,Nat.reduceAdd,↓reduceIte]
 repeat (go_big_quiet_step (fail))
 refine wpQuiet_nil ?_
 clear d0 d1
 refine Z0 5 55 _ #[.pointer (some ⟨p,0,none⟩)] _ (by rfl) _ _ (by rfl) Tryz.func55 rfl rfl (by kernel_rfl) (by rfl) (by kernel_rfl) (by decide) ?_
 intro w4 h04 h4
 refine (Zhu p m L w4 (hM.led.ext h04)).mono ?_
 rintro e w5 ⟨v1,rfl,e5,s1⟩
 have s1':=s1
 obtain ⟨A1,k1,rfl,_⟩:=s1'
 refine ⟨_,rfl,Xt h04 e5,?_⟩
 refine Z0 11 56 _ #[.pointer (some ⟨p,0,none⟩)] _ (by rfl) _ _ (by rfl) Tryz.func56 rfl rfl (by kernel_rfl) (by rfl) (by kernel_rfl) (by decide) ?_
 intro w6 h06 h6
 refine (Zee p m L w6 (hM.led.ext h06) hM.ok.wf).mono ?_
 rintro e w7 ⟨v2,rfl,e7,s2⟩
 obtain ⟨A2,k2,rfl⟩:=Yd s2
 refine ⟨_,rfl,Xt h06 e7,?_⟩
 refine Z0 17 57 _ #[.pointer (some ⟨pb,0,none⟩)] _ (by rfl) _ _ (by rfl) Tryz.func57 rfl rfl (by kernel_rfl) (by rfl) (by kernel_rfl) (by decide) ?_
 intro w8 h08 h8
 refine (Zqr pb g B w8 (hM.book.ext h08)).mono ?_
 rintro e w9 ⟨v3,rfl,e9,s3⟩
 have s3':=s3
 obtain ⟨A3,k3,rfl,_⟩:=s3'
 refine ⟨_,rfl,Xt h08 e9,?_⟩
 refine Z0 23 58 _ #[.pointer (some ⟨pb,0,none⟩)] _ (by rfl) _ _ (by rfl) Tryz.func58 rfl rfl (by kernel_rfl) (by rfl) (by kernel_rfl) (by decide) ?_
 intro w10 h010 h10
 refine (bnext_any pb g B w10 (hM.book.ext h010)).mono ?_
 rintro e w11 ⟨rfl,e11⟩
 refine ⟨_,rfl,Xt h010 e11,?_⟩
 refine Xs 24 _ (.agg #[.slice A1 (Zw L).length k1,.slice A2 (Yk L.lines).length k2,.slice A3 B.offs.length k3,.int .u64 B.next]) rfl (by kernel_rfl) (by decide) rfl (fun w' _=>by go_simp) ?_
 intro w12 h012 h12
 refine Zi (by kernel_rfl) ?_
 intro w13 e13 e13'
 simp only [Act.put,Rg.puB]
 simp only [Rg.puC,Rg.puB]
 have h13:=e13.at h3
 have z3:=e03.size
 have z4:=h04.size
 have z6:=h06.size
 have z8:=h08.size
 have f11:Ext w11 w13:=Xt h12 e13'
 have f9:Ext w9 w13:=Xt h10 (Xt e11 f11)
 have f7:Ext w7 w13:=Xt h8 (Xt e9 f9)
 have f5:Ext w5 w13:=Xt h6 (Xt e7 f7)
 have s1:=(s1.ext f5).low (show w.heap.size+1<=w4.heap.size by have:=Zd h3;omega)
 have s2:=((Zq.of_own s2).ext f7).low (show w.heap.size+1<=w6.heap.size by have:=Zd h3;omega)
 have s3:=Zq.low (Zq.ext s3 f9) (show w.heap.size+1<=w8.heap.size by have:=Zd h3;omega)
 clear f5 f7 f9 f11 e5 e7 e9 e11 h4 h6 h8 h10 h12 h04 h06 h08 h010 h012
 go_wp2_with (refine Zf rfl rfl 47 _ _ rfl w.heap.size _ rfl rfl 47 _ h13 (by kernel_rfl) (by rfl) (by rfl) ?_
              intro w14 hb14 ho14 hs14)
 have k14:Keep [w.heap.size] w13 w14:=by
  have kz:=hb14 0 w13 (Nat.zero_le _) (Below.refl 0 w13)
  exact ⟨kz.os,kz.tape,kz.output,kz.size,fun k _ hk=>ho14 k (by simpa using hk)⟩
 have hfr:FrA (fun x=>x=w.heap.size) w13 w14:=⟨k14.os,k14.tape,k14.output,k14.size,fun k hk hA=>k14.block k hk (by simpa using hA)⟩
 exact Yy w.heap.size 47 _ _ _ rfl rfl hs14 Tryz.underlying47 rfl (by kernel_rfl) rfl
  ⟨_,rfl,(Keep.trans_fresh (S:=[]) (Kx (Xt e03 e13)) k14 (fun x hx=>by right;simp at hx;omega)).ext,_,_,_,rfl,(s1.fra2 hfr (fun x hx=>by omega)).low (by omega),(s2.fra2 hfr (fun x hx=>by omega)).low (by omega),Zq.low (Zq.fra2 s3 hfr (fun x hx=>by omega)) (by omega)⟩
theorem same_u8 (b1 b2:Nat) (v1 v2:Value) (l:List Int) (w:World) (h:Zq w b1 1 v1 l.length (l.map (Value.int .u8))) (k:Zq w b2 1 v2 l.length (l.map (Value.int .u8))):
 Calls Tryz.prog 109 #[v1,v2] w (Ret (.bool true) w):=by
 obtain ⟨A,cap,rfl,h1,h2,h3,h4⟩:=h
 obtain ⟨A',cap',rfl,k1,k2,k3,k4⟩:=k
 have hn63:(l.length:Int)<=9223372036854775807:=by unfold maxLen at h2;omega
 go_enter Tryz.func109,Tryz.ntmps109
 go_wp2
 go_loopw [5] (fun i wr=>∃k:Nat,k<=l.length/\i= .int .i64 k/\Ext w wr) (fun i _=>l.length-(intOf i).toNat)
 case atStart=>exact ⟨0,Nat.zero_le _,rfl,Ext.refl _⟩
 obtain ⟨k,hk,rfl,e1⟩:=hrel
 by_cases hkn:k<l.length
 ·rcases h4 with h4 | ⟨g,rfl,hb,hlt,hcell⟩
  ·omega
  rcases k4 with k4 | ⟨g',rfl,hb',hlt',hcell'⟩
  ·omega
  have hj1:(0:Int)<=(k:Int):=by omega
  have hj2:(k:Int)<(l.length:Int):=by omega
  have hld:∀wq,Ext wr wq->wq.cell? ⟨g,k,none⟩=some (.int .u8 (l[k]'hkn)):=fun wq q=>by rw [Zh ((Xt e1 q).block hlt)];exact hcell k _ (by simp [hkn])
  have hld':∀wq,Ext wr wq->wq.cell? ⟨g',k,none⟩=some (.int .u8 (l[k]'hkn)):=fun wq q=>by rw [Zh ((Xt e1 q).block hlt')];exact hcell' k _ (by simp [hkn])
  clear hcell hcell' h3 k3
  generalize (l[k]'hkn)=x at *
  go_wp2_with fail
  refine Yo Zl [] (by kernel_rfl) (by kernel_rfl) ?_
  intro w1 hw1
  have ld1:∀u:ExtOf w1,u.to.cell? ⟨g,k,none⟩=_:=fun u=>hld u.to (Xt hw1 u.h)
  have ld2:∀u:ExtOf w1,u.to.cell? ⟨g',k,none⟩=_:=fun u=>hld' u.to (Xt hw1 u.h)
  clear hld hld'
  simp only [Zj,Rg.hsB,Nat.reduceAdd,↓reduceIte]
  repeat (go_big_quiet_step (fail))
  refine wpQuiet_nil ?_
  refine Vr (by kernel_rfl) ?_
  intro w4 e4 e4'
  try simp only [Act.put,Rg.puC,Rg.puB]
  clear ld1 ld2 hw1
  go_wp2
  exact ⟨⟨k+1,by omega,by go_num,Xt e1 e4⟩,by simp [intOf];omega⟩
 have hk':k=l.length:=by omega
 subst hk'
 clear h3 k3 h4 k4
 go_wp2
 go_ret
 exact ⟨rfl,e1⟩
theorem sameP_any (b1 b2:Nat) (v1 v2:Value) (l:List Int) (w:World) (h:Zq w b1 1 v1 l.length (l.map (Value.int .u8))) (k:Zq w b2 1 v2 l.length (l.map (Value.int .u8))):Calls Tryz.prog 59 #[v1,v2] w (Ret (.bool true) w):=by
 have hs:=same_u8 b1 b2 v1 v2 l w h k
 obtain ⟨A,cap,rfl,_⟩:=h
 obtain ⟨A',cap',rfl,_⟩:=k
 go_enter Tryz.func59,Tryz.ntmps59
 go_wp2_with fail
 refine hs.mono ?_
 rintro e w1 ⟨rfl,e1⟩
 go_wp2
 go_ret
 exact ⟨rfl,e1⟩
theorem Zj4 (b1 b2:Nat) (v1 v2:Value) (L:Led) (B:Bk) (w:World) (h:Zhn w b1 v1 L B) (k:Zhn w b2 v2 L B):Calls Tryz.prog 20 #[v1,v2] w (Ret (.bool true) w):=by
 obtain ⟨p1,l1,o1,rfl,hp,hl,ho⟩:=h
 obtain ⟨p2,l2,o2,rfl,kp,kl,ko⟩:=k
 have h0:=Zb w (.cells #[p1,l1,o1,.int .u64 B.next] 47)
 have e0:=Zc w (.cells #[p1,l1,o1,.int .u64 B.next] 47)
 have s0:=size_alloc w (.cells #[p1,l1,o1,.int .u64 B.next] 47)
 have h1:=Zb (w.alloc (.cells #[p1,l1,o1,.int .u64 B.next] 47)) (.cells #[p2,l2,o2,.int .u64 B.next] 47)
 have e1:=Zc (w.alloc (.cells #[p1,l1,o1,.int .u64 B.next] 47)) (.cells #[p2,l2,o2,.int .u64 B.next] 47)
 have h0:=e1.at h0
 rw [s0] at h1
 have E1:=Xt e0 e1
 clear e0 e1 s0
 go_enter Tryz.func20,Tryz.ntmps20
 have x0:=Za (j:=0) h0 rfl
 have y0:=Za (j:=0) h1 rfl
 go_wp2_with fail
 refine (sameP_any b1 b2 p1 p2 _ _ (hp.ext E1) (kp.ext E1)).mono ?_
 rintro e w2 ⟨rfl,e2⟩
 have x1:=Za (j:=1) (e2.at h0) rfl
 have y1:=Za (j:=1) (e2.at h1) rfl
 clear x0 y0
 go_wp2_with fail
 refine (Zk6 b1 b2 l1 l2 _ _ (hl.ext (Xt E1 e2)) (kl.ext (Xt E1 e2))).mono ?_
 rintro e w3 ⟨rfl,e3⟩
 have E3:=Xt E1 (Xt e2 e3)
 have x2:=Za (j:=2) ((Xt e2 e3).at h0) rfl
 have y2:=Za (j:=2) ((Xt e2 e3).at h1) rfl
 clear x1 y1
 go_wp2_with fail
 refine (Zjj b1 b2 o1 o2 _ _ (Zq.ext ho E3) (Zq.ext ko E3)).mono ?_
 rintro e w4 ⟨rfl,e4⟩
 have x3:=Za (j:=3) ((Xt e2 (Xt e3 e4)).at h0) rfl
 have y3:=Za (j:=3) ((Xt e2 (Xt e3 e4)).at h1) rfl
 clear x2 y2
 go_wp2_with fail
 go_ret
 exact ⟨rfl,Xt E3 e4⟩
open Go.Joins Go.Deep Go.WideElems Go.Maps Go.ChangeShapes Go.WideShapes Go.ChangeAt Go.RowKit Go.Rg Go.BigFrame
theorem cmd_one32:Tryz.prog.cellsOf 42=1:=by kernel_rfl
theorem Zrm {cs:Array Value} (h:cs.size=1):∃v,cs=#[v]:=by
 obtain ⟨l⟩:=cs
 match l,h with
 | [v],_=>exact ⟨v,rfl⟩
theorem list3 {α:Type} {cs:List α} (h:cs.length=3):∃c0 c1 c2,cs=[c0,c1,c2]:=by
 match cs,h with
 | [c0,c1,c2],_=>exact ⟨c0,c1,c2,rfl⟩
section
variable {H:Type} {enc:TypeId×Value->H} {w:World} {base:Nat} {spare:Nat->Bool} {held:Bool}
theorem Zow {fuel:Nat} {cs:List Value} {x:DataW H×List MemPlace} (h:DataW.trod enc Tryz.prog w base spare held fuel 88 cs=some x):
 ∃pa cu at_:Int,cs=[.int .u8 pa,.int .u8 cu,.int .i64 at_]/\(Lit.int .u8 pa).wf=true/\(Lit.int .u8 cu).wf=true/\(Lit.int .i64 at_).wf=true:=by
 have hu:=Tryz.underlying88
 have hl:=(DataW.trod_struct hu h).choose_spec.choose_spec.2.2.1
 obtain ⟨c0,c1,c2,rfl⟩:=list3 (hl.trans (by kernel_rfl))
 obtain ⟨_,_,h0⟩:=Uu hu h 0 0 1 _ rfl (by kernel_rfl)
 obtain ⟨_,_,h1⟩:=Uu hu h 1 1 1 _ rfl (by kernel_rfl)
 obtain ⟨_,_,h2⟩:=Uu hu h 2 2 1 _ rfl (by kernel_rfl)
 simp only [List.drop_succ_cons,List.drop_zero,List.take_succ_cons,List.take_zero] at h0 h1 h2
 obtain ⟨x0,rfl,w0⟩:=Ub Tryz.underlying24 h0
 obtain ⟨x1,rfl,w1⟩:=Ub Tryz.underlying25 h1
 obtain ⟨x2,rfl,w2⟩:=Ub Tryz.underlying3 h2
 exact ⟨x0,x1,x2,rfl,w0,w1,w2⟩
theorem Zjv {b0:Nat} {r:Reach} {v:Value} {d:DataW H} {p:List MemPlace} (hv:Value.okWide Tryz.prog w r b0 88 v) (h:DataW.Trod enc Tryz.prog w base spare held 88 v d p):
 ∃pa cu at_:Int,v= .agg #[.int .u8 pa,.int .u8 cu,.int .i64 at_]/\(Lit.int .u8 pa).wf=true/\(Lit.int .u8 cu).wf=true/\(Lit.int .i64 at_).wf=true:=by
 obtain ⟨cs,rfl,hsz⟩:=okWide_struct Tryz.underlying88 hv
 obtain ⟨fuel,hf⟩:=h
 obtain ⟨pa,cu,at_,ha,hb⟩:=Zow hf
 refine ⟨pa,cu,at_,?_,hb⟩
 obtain ⟨l⟩:=cs
 simp only [Value.cells] at ha
 have:l=[.int .u8 pa,.int .u8 cu,.int .i64 at_]:=by simpa using ha
 subst this
 rfl
end
theorem Zmr (s:Stp) (L:Led) (B:Bk):Z4 [s] L B=if (Z7 s L B).2.1≠0 then (((Z7 s L B).2.1,0,[]),L,B) else ((0,0,[(Z7 s L B).1]),(Z7 s L B).2.2.1,(Z7 s L B).2.2.2):=by
 have hn:¬([s].length=0\/8<[s].length):=by simp
 by_cases h:(Z7 s L B).2.1=0
 ·rw [if_neg (by simpa using h)]
  exact Zfp (L':=(Z7 s L B).2.2.1) hn L B (i:=0) ((Zbv s [] 0 L B [] h).trans rfl)
 rw [if_pos (by simpa using h)]
 exact Zek hn L B (Zbw s [] 0 L B [] h) h
theorem Zhr:∀(l:List Stp) (i:Int) (L:Led) (B:Bk) (g:List Gt),(Un l i L B g).1=0->∃t,(Un l i L B g).2.2.1=g++t/\t.length=l.length
 | [],_,_,_,g,_=>⟨[],by simp [Un],rfl⟩
 | s::l,i,L,B,g,h=>by
   by_cases hs:(Z7 s L B).2.1=0
   ·rw [Zbv s l i L B g hs] at h ⊢
    obtain ⟨t,h1,h2⟩:=Zhr l _ _ _ _ h
    exact ⟨(Z7 s L B).1::t,by rw [h1];simp,by simp [h2]⟩
   rw [Zbw s l i L B g hs] at h
   exact absurd h hs
structure AtK (l:List Stp) (L0:Led) (B0:Bk) (k:Nat) (L:Led) (B:Bk) (gl:List Gt):Prop where
 le:k<=l.length
 len:gl.length=k
 run:Un l 0 L0 B0 []=Un (l.drop k) k L B gl
theorem AtK.start (l:List Stp) (L:Led) (B:Bk):AtK l L B 0 L B []:=⟨Nat.zero_le _,rfl,rfl⟩
theorem AtK.bad {l:List Stp} {L0 L:Led} {B0 B:Bk} {k:Nat} {gl:List Gt} (h:AtK l L0 B0 k L B gl) (hn:¬(l.length=0\/8<l.length)) (hk:k<l.length) (he:(Z7 (l[k]'hk) L B).2.1≠0):
 Z4 l L0 B0=(((Z7 (l[k]'hk) L B).2.1,(k:Int),[]),L0,B0):=by
 have hr:=h.run
 rw [List.drop_eq_getElem_cons hk,Zbw _ _ _ _ _ _ he] at hr
 exact Zek hn L0 B0 hr he
theorem AtK.next {l:List Stp} {L0 L:Led} {B0 B:Bk} {k:Nat} {gl:List Gt} (h:AtK l L0 B0 k L B gl) (hk:k<l.length) (he:(Z7 (l[k]'hk) L B).2.1=0):
 AtK l L0 B0 (k+1) (Z7 (l[k]'hk) L B).2.2.1 (Z7 (l[k]'hk) L B).2.2.2 (gl++[(Z7 (l[k]'hk) L B).1]):=by
 have hr:=h.run
 rw [List.drop_eq_getElem_cons hk,Zbv _ _ _ _ _ _ he] at hr
 exact ⟨hk,by simp [h.len],by rw [hr,show (((k+1:Nat)):Int)=(k:Int)+1 by omega]⟩
theorem AtK.got {l:List Stp} {L0 L:Led} {B0 B:Bk} {k:Nat} {gl:List Gt} (h:AtK l L0 B0 k L B gl) (hn:¬(l.length=0\/8<l.length)) (h0:(Z4 l L0 B0).1.1=0):
 ∃t,(Z4 l L0 B0).1.2.2=gl++t/\(Z4 l L0 B0).1.2.2.length=l.length:=by
 by_cases hr:(Un l 0 L0 B0 []).1=0
 ·obtain ⟨t,h1,h2⟩:=Zhr (l.drop k) k L B gl (by rw [<-h.run];exact hr)
  have ha:(Z4 l L0 B0).1.2.2=(Un l 0 L0 B0 []).2.2.1:=by unfold Z4;rw [if_neg hn,if_neg (by simpa using hr)]
  rw [ha,h.run,h1]
  exact ⟨t,rfl,by have:=h.le;have:=h.len;simp [h2];omega⟩
 exfalso
 refine hr ?_
 have ha:(Z4 l L0 B0).1.1=(Un l 0 L0 B0 []).1:=by unfold Z4;rw [if_neg hn,if_pos (by simpa using hr)]
 rw [<-ha];exact h0
theorem AtK.done {l:List Stp} {L0 L:Led} {B0 B:Bk} {gl:List Gt} (h:AtK l L0 B0 l.length L B gl) (hn:¬(l.length=0\/8<l.length)):Z4 l L0 B0=((0,0,gl),L,B):=
 Zfp hn L0 B0 (i:=0) (by rw [h.run,List.drop_length];rfl)
theorem IsM.fraq {w w':World} {q p m pb:Nat} {g:Option Nat} {L:Led} {B:Bk} (h:IsM w q p m pb g L B) {q2:Nat} {cs:Array Value} {fr:Nat×Nat} (hr:w.heap[q2]? =some (.cells cs 105 fr)) (k:FrA (fun x=>x=q2) w w') (hne:q≠q2):IsM w' q p m pb g L B:=by
 have hk:Keep [q2] w w':=⟨k.os,k.tape,k.output,k.size,fun i hi hn=>k.block i hi (by simpa using hn)⟩
 have h1:=Zde h.led hr (by decide)
 have h2:=Zbl h.book hr (by decide) (by decide)
 exact h.keep hk (by simpa using hne) h1.1 h1.2 h2.1 h2.2
theorem Zf2 {w:World} {g k:Nat} {v:Value} (h:w.cell? ⟨g,k,none⟩=some v):(loadVar 42 ⟨g,k,none⟩).run Tryz.prog w= .ok (.agg #[v]) w:=
 Zr w g k 42 [v] _ (fun j u hu=>by
  have hj:j=0:=by have:=(List.getElem?_eq_some_iff.1 hu).1;simp at this;exact this
  subst hj
  simp at hu
  subst hu
  simpa using h) Tryz.underlying42 rfl (by kernel_rfl)
end Go.Proofs.YtipjchbdogmccaaGreat
