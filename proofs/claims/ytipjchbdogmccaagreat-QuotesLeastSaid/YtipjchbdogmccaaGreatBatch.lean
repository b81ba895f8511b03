/- MachinesBatch: what a command does, step by step; the walk. Commands that come in, opened: slices of slices of steps. A machine's state, walked; two states that say the same. -/
import Derived.Test.YtipjchbdogmccaaGreatMv
import Derived.Test.YtipjchbdogmccaaGreatMade
set_option maxRecDepth 100000
namespace Go.Proofs.YtipjchbdogmccaaGreat
open Go.Joins Go.Deep Go.WideElems Go.Maps Go.ChangeShapes Go.WideShapes Go.ChangeAt Go.RowKit Go.Rg Go.BigFrame
abbrev Cmd:=Value×List Stp
def Cmd.cells (x:Cmd):List Value:=[x.1]
def Zd4 (w:World) (x:Cmd):Prop:=Zbu w 10 x.1 x.2.length (X3 x.2)/\∀s∈x.2,s.In
theorem Zd4.ext {w w':World} {x:Cmd} (h:Zd4 w x) (k:Ext w w'):Zd4 w' x:=⟨h.1.ext k,h.2⟩
theorem Zhi (l:List Cmd) (k:Nat) (hk:k<l.length):(l.flatMap Cmd.cells)[k]? =some (l[k]'hk).1:=by
 have:=Za8 Cmd.cells 1 (fun _=>rfl) l k 0 hk (by omega)
 rw [Nat.mul_one,Nat.add_zero] at this
 rw [this]
 rfl
theorem list10 {α:Type} {cs:List α} (h:cs.length=10):∃c0 c1 c2 c3 c4 c5 c6 c7 c8 c9,cs=[c0,c1,c2,c3,c4,c5,c6,c7,c8,c9]:=by
 match cs,h with
 | [c0,c1,c2,c3,c4,c5,c6,c7,c8,c9],_=>exact ⟨c0,c1,c2,c3,c4,c5,c6,c7,c8,c9,rfl⟩
section
variable {H:Type} {enc:TypeId×Value->H} {w:World} {base:Nat} {spare:Nat->Bool} {held:Bool}
theorem open_step {fuel:Nat} {cs:List Value} {x:DataW H×List MemPlace} (h:DataW.trod enc Tryz.prog w base spare held fuel 30 cs=some x):∃a:Stp,cs=a.cells/\a.In:=by
 have hu:=Tryz.underlying30
 have hl:=(DataW.trod_struct hu h).choose_spec.choose_spec.2.2.1
 obtain ⟨c0,c1,c2,c3,c4,c5,c6,c7,c8,c9,rfl⟩:=list10 (hl.trans (by kernel_rfl))
 obtain ⟨_,_,h0⟩:=V0 hu h 0 0 1 _ rfl (by kernel_rfl)
 obtain ⟨_,_,h1⟩:=V0 hu h 1 1 1 _ rfl (by kernel_rfl)
 obtain ⟨_,_,h2⟩:=V0 hu h 2 2 1 _ rfl (by kernel_rfl)
 obtain ⟨_,_,h3⟩:=V0 hu h 3 3 1 _ rfl (by kernel_rfl)
 obtain ⟨_,_,h4⟩:=V0 hu h 4 4 1 _ rfl (by kernel_rfl)
 obtain ⟨_,_,h5⟩:=V0 hu h 5 5 1 _ rfl (by kernel_rfl)
 obtain ⟨_,_,h6⟩:=V0 hu h 6 6 1 _ rfl (by kernel_rfl)
 obtain ⟨_,_,hr⟩:=V0 hu h 7 7 2 _ rfl (by kernel_rfl)
 obtain ⟨_,_,h9⟩:=V0 hu h 8 9 1 _ rfl (by kernel_rfl)
 have hv:=Tryz.underlying27
 obtain ⟨_,_,h7⟩:=V0 hv hr 0 0 1 _ rfl (by kernel_rfl)
 obtain ⟨_,_,h8⟩:=V0 hv hr 1 1 1 _ rfl (by kernel_rfl)
 simp only [List.drop_succ_cons,List.drop_zero,List.take_succ_cons,List.take_zero] at h0 h1 h2 h3 h4 h5 h6 h7 h8 h9
 obtain ⟨x0,rfl,_⟩:=Vh Tryz.underlying23 h0
 obtain ⟨x1,rfl,_⟩:=Vh Tryz.underlying24 h1
 obtain ⟨x2,rfl,_⟩:=Vh Tryz.underlying24 h2
 obtain ⟨x3,rfl,_⟩:=Vh Tryz.underlying25 h3
 obtain ⟨x4,rfl,_⟩:=Vh Tryz.underlying25 h4
 obtain ⟨x5,rfl,w5⟩:=Vh Tryz.underlying2 h5
 obtain ⟨x6,rfl,w6⟩:=Vh Tryz.underlying2 h6
 obtain ⟨x7,rfl,w7⟩:=Vh Tryz.underlying2 h7
 obtain ⟨x8,rfl,w8⟩:=Vh Tryz.underlying2 h8
 obtain ⟨x9,rfl,_⟩:=Vh Tryz.underlying28 h9
 exact ⟨⟨x0,x1,x2,x3,x4,x5,x6,x7,x8,x9⟩,rfl,(bounds_i64 w5).2,(bounds_i64 w6).2,(bounds_i64 w7).2,(bounds_i64 w8).2⟩
theorem open_cmdL {fuel:Nat} {cs:List Value} {x:DataW H×List MemPlace} (h:DataW.trod enc Tryz.prog w base spare held fuel 42 cs=some x):∃a:Cmd,cs=a.cells/\Zd4 w a:=by
 have hu:=Tryz.underlying42
 have hl:=(DataW.trod_struct hu h).choose_spec.choose_spec.2.2.1
 obtain ⟨v,rfl⟩:=List.length_eq_one_iff.1 (hl.trans (by kernel_rfl))
 obtain ⟨_,_,h0⟩:=V0 hu h 0 0 1 _ rfl (by kernel_rfl)
 simp only [List.drop_zero,List.take_succ_cons,List.take_zero] at h0
 obtain ⟨v',l,e,ha,ho⟩:=Zlj Stp.cells Stp.In 10 (by omega) (fun _=>rfl) Tryz.underlying40 (by kernel_rfl) (fun n cs y=>open_step) h0
 cases e
 exact ⟨(v,l),rfl,ha,ho⟩
theorem Zli {b0:Nat} {r:Reach} {v:Value} {d:DataW H} {p:List MemPlace} (hv:Value.okWide Tryz.prog w r b0 22 v) (h:DataW.Trod enc Tryz.prog w base spare held 22 v d p):
 ∃l:List Cmd,Zbu w 1 v l.length (l.flatMap Cmd.cells)/\∀x∈l,Zd4 w x:=by
 obtain ⟨A,n,cap,rfl⟩:=okWide_slice Tryz.underlying22 hv
 obtain ⟨fuel,hf⟩:=h
 obtain ⟨v',l,e,ha,ho⟩:=Zlj Cmd.cells (Zd4 w) 1 (by omega) (fun _=>rfl) Tryz.underlying22 (by kernel_rfl) (fun n cs y=>open_cmdL) hf
 simp only [Value.cells] at e
 cases e
 exact ⟨l,ha,ho⟩
end
end Go.Proofs.YtipjchbdogmccaaGreat
namespace Go.Rg
open Go.RowKit
section
variable {P:Program} {ops:Array Oper} {md:Region.Mode}
theorem Xv {n f:Nat} {L:Array Bool->Act->World->Prop} {listed:Array Bool} {a:Act} {w0 w:World} (i:Nat) (o:Oper) (v:Value) (hg:o.guard=none)
 (hr:Region.ready md ops listed=[i]) (hin:i<n) (ho:ops[i]? =some o) (hl:∀w',Ext w w'->(execOp a.eval o).run P w'= .ok (.value v) w')
 (h:∀w':World,Ext w0 w'->Ext w w'->wpX P md ops w0 n L f (listed.setIfInBounds i true) (a.put o.dst v) w'):wpX P md ops w0 n L (f+1) listed a w:=by
 refine Vq i o hr hin ho (by simp [Region.wanted,hg]) fun w' h0 hw'=> ?_
 unfold Xn
 rw [hl w' hw']
 exact ⟨h0,h w' h0 hw'⟩
end
end Go.Rg
namespace Go.Proofs.YtipjchbdogmccaaGreat
open Go.RowKit Go.Rg Go.BigFrame
def StSl (w:World) (base:Nat) (v:Value) (L:Led) (B:Bk):Prop:=
 ∃v1 v2 v3,v= .agg #[v1,v2,v3,.int .u64 B.next]/\Zn w base 1 v1 (Zx L).length ((Zx L).map (.int .u8))/\Zn w base 5 v2 (Z2 L.lines).length (Ym (Z2 L.lines))/\Zhk w base v3 B.offs
def RetSt (L:Led) (B:Bk) (w:World) (e:Ending) (w':World):Prop:=∃v,e= .returned v/\Ext w w'/\StSl w' w.heap.size v L B
set_option maxHeartbeats 1600000 in
theorem Zk3 (q p m pb:Nat) (g:Option Nat) (L:Led) (B:Bk) (w:World) (h:IsM w q p m pb g L B):Calls Tryz.prog 18 #[.pointer (some ⟨q,0,none⟩)] w (RetSt L B w):=by
 have h0:=Zb w (.cells #[.slice none 0 0,.slice none 0 0,.slice none 0 0,.int .u64 0] 47)
 have e0:=Zc w (.cells #[.slice none 0 0,.slice none 0 0,.slice none 0 0,.int .u64 0] 47)
 go_enter Tryz.func18,Tryz.ntmps18
 go_wp2_with fail
 refine (Zeh q p m pb g L B _ (h.ext e0)).mono ?_
 rintro e w3 ⟨rfl,e3⟩
 have h3:=e3.at h0
 have e03:=Xt e0 e3
 have hM:=h.ext e03
 clear h0 e0 e3 h
 go_wp2_with fail
 refine Zh Zl 25 [5,11,17,23,24] (by kernel_rfl) (by kernel_rfl) ?_
 intro w1 hw1
 have d0:=fun u:ExtOf w1=>Za (j:=0) ((Xt hw1 u.h).at hM.row) rfl
 have d1:=fun u:ExtOf w1=>Za (j:=1) ((Xt hw1 u.h).at hM.row) rfl
 simp only [Zk,Rg.hsB,Nat.reduceBEq,Nat.reduceAdd,↓reduceIte]
 repeat (go_big_quiet_step (fail))
 refine wpQuiet_nil ?_
 clear d0 d1
 refine Zv 5 55 _ #[.pointer (some ⟨p,0,none⟩)] _ (by rfl) _ _ (by rfl) Tryz.func55 rfl rfl (by kernel_rfl) (by rfl) (by kernel_rfl) (by decide) ?_
 intro w4 h04 h4
 refine (Zg0 p m L w4 (hM.led.ext h04)).mono ?_
 rintro e w5 ⟨v1,rfl,e5,s1⟩
 have s1':=s1
 obtain ⟨A1,k1,rfl,_⟩:=s1'
 refine ⟨_,rfl,Xt h04 e5,?_⟩
 refine Zv 11 56 _ #[.pointer (some ⟨p,0,none⟩)] _ (by rfl) _ _ (by rfl) Tryz.func56 rfl rfl (by kernel_rfl) (by rfl) (by kernel_rfl) (by decide) ?_
 intro w6 h06 h6
 refine (Zdl p m L w6 (hM.led.ext h06) hM.ok.wf).mono ?_
 rintro e w7 ⟨v2,rfl,e7,s2⟩
 obtain ⟨A2,k2,rfl⟩:=Z7 s2
 refine ⟨_,rfl,Xt h06 e7,?_⟩
 refine Zv 17 57 _ #[.pointer (some ⟨pb,0,none⟩)] _ (by rfl) _ _ (by rfl) Tryz.func57 rfl rfl (by kernel_rfl) (by rfl) (by kernel_rfl) (by decide) ?_
 intro w8 h08 h8
 refine (Zpw pb g B w8 (hM.book.ext h08)).mono ?_
 rintro e w9 ⟨v3,rfl,e9,s3⟩
 have s3':=s3
 obtain ⟨A3,k3,rfl,_⟩:=s3'
 refine ⟨_,rfl,Xt h08 e9,?_⟩
 refine Zv 23 58 _ #[.pointer (some ⟨pb,0,none⟩)] _ (by rfl) _ _ (by rfl) Tryz.func58 rfl rfl (by kernel_rfl) (by rfl) (by kernel_rfl) (by decide) ?_
 intro w10 h010 h10
 refine (bnext_any pb g B w10 (hM.book.ext h010)).mono ?_
 rintro e w11 ⟨rfl,e11⟩
 refine ⟨_,rfl,Xt h010 e11,?_⟩
 refine Xv 24 _ (.agg #[.slice A1 (Zx L).length k1,.slice A2 (Z2 L.lines).length k2,.slice A3 B.offs.length k3,.int .u64 B.next]) rfl (by kernel_rfl) (by decide) rfl (fun w' _=>by go_simp) ?_
 intro w12 h012 h12
 refine Zj (by kernel_rfl) ?_
 intro w13 e13 e13'
 simp only [Act.put,Rg.puB]
 simp only [Rg.puC,Rg.puB]
 have h13:=e13.at h3
 have z3:=e03.size
 have z4:=h04.size
 have z6:=h06.size
 have z8:=h08.size
 have f11:Ext w11 w13:=Xt h12 e13'
 have f9:Ext w9 w13:=Xt h10 (Xt e11 f11)
 have f7:Ext w7 w13:=Xt h8 (Xt e9 f9)
 have f5:Ext w5 w13:=Xt h6 (Xt e7 f7)
 have s1:=(s1.ext f5).low (show w.heap.size+1<=w4.heap.size by have:=Zg h3;omega)
 have s2:=((Zn.of_own s2).ext f7).low (show w.heap.size+1<=w6.heap.size by have:=Zg h3;omega)
 have s3:=Zn.low (Zn.ext s3 f9) (show w.heap.size+1<=w8.heap.size by have:=Zg h3;omega)
 clear f5 f7 f9 f11 e5 e7 e9 e11 h4 h6 h8 h10 h12 h04 h06 h08 h010 h012
 go_wp2_with (refine Ze rfl rfl 47 _ _ rfl w.heap.size _ rfl rfl 47 _ h13 (by kernel_rfl) (by rfl) (by rfl) ?_
              intro w14 hb14 ho14 hs14)
 have k14:Keep [w.heap.size] w13 w14:=by
  have kz:=hb14 0 w13 (Nat.zero_le _) (Below.refl 0 w13)
  exact ⟨kz.os,kz.tape,kz.output,kz.size,fun k _ hk=>ho14 k (by simpa using hk)⟩
 have hfr:FrA (fun x=>x=w.heap.size) w13 w14:=⟨k14.os,k14.tape,k14.output,k14.size,fun k hk hA=>k14.block k hk (by simpa using hA)⟩
 exact Yp w.heap.size 47 _ _ _ rfl rfl hs14 Tryz.underlying47 rfl (by kernel_rfl) rfl
  ⟨_,rfl,(Keep.trans_fresh (S:=[]) (Kx (Xt e03 e13)) k14 (fun x hx=>by right;simp at hx;omega)).ext,_,_,_,rfl,(s1.fra2 hfr (fun x hx=>by omega)).low (by omega),(s2.fra2 hfr (fun x hx=>by omega)).low (by omega),Zn.low (Zn.fra2 s3 hfr (fun x hx=>by omega)) (by omega)⟩
theorem apply_one (s:Stp) (L:Led) (B:Bk):Z6 [s] L B=if (Xd s L B).2.1≠0 then (((Xd s L B).2.1,0,[]),L,B) else ((0,0,[(Xd s L B).1]),(Xd s L B).2.2.1,(Xd s L B).2.2.2):=by
 have hn:¬([s].length=0\/8<[s].length):=by simp
 by_cases h:(Xd s L B).2.1=0
 ·rw [if_neg (by simpa using h)]
  exact Zj6 (L':=(Xd s L B).2.2.1) hn L B (i:=0) ((Zfx s [] 0 L B [] h).trans rfl)
 rw [if_pos (by simpa using h)]
 exact Zgr hn L B (Zev s [] 0 L B [] h) h
theorem Zgx:∀(l:List Stp) (i:Int) (L:Led) (B:Bk) (g:List Gt),(Zak l i L B g).1=0->∃t,(Zak l i L B g).2.2.1=g++t/\t.length=l.length
 | [],_,_,_,g,_=>⟨[],by simp [Zak],rfl⟩
 | s::l,i,L,B,g,h=>by
   by_cases hs:(Xd s L B).2.1=0
   ·rw [Zfx s l i L B g hs] at h ⊢
    obtain ⟨t,h1,h2⟩:=Zgx l _ _ _ _ h
    exact ⟨(Xd s L B).1::t,by rw [h1];simp,by simp [h2]⟩
   rw [Zev s l i L B g hs] at h
   exact absurd h hs
structure AtK (l:List Stp) (L0:Led) (B0:Bk) (k:Nat) (L:Led) (B:Bk) (gl:List Gt):Prop where
 le:k<=l.length
 len:gl.length=k
 run:Zak l 0 L0 B0 []=Zak (l.drop k) k L B gl
theorem AtK.got {l:List Stp} {L0 L:Led} {B0 B:Bk} {k:Nat} {gl:List Gt} (h:AtK l L0 B0 k L B gl) (hn:¬(l.length=0\/8<l.length)) (h0:(Z6 l L0 B0).1.1=0):
 ∃t,(Z6 l L0 B0).1.2.2=gl++t/\(Z6 l L0 B0).1.2.2.length=l.length:=by
 by_cases hr:(Zak l 0 L0 B0 []).1=0
 ·obtain ⟨t,h1,h2⟩:=Zgx (l.drop k) k L B gl (by rw [<-h.run];exact hr)
  have ha:(Z6 l L0 B0).1.2.2=(Zak l 0 L0 B0 []).2.2.1:=by unfold Z6;rw [if_neg hn,if_neg (by simpa using hr)]
  rw [ha,h.run,h1]
  exact ⟨t,rfl,by have:=h.le;have:=h.len;simp [h2];omega⟩
 exfalso
 refine hr ?_
 have ha:(Z6 l L0 B0).1.1=(Zak l 0 L0 B0 []).1:=by unfold Z6;rw [if_neg hn,if_pos (by simpa using hr)]
 rw [<-ha];exact h0
theorem Zi9 {w:World} {g k:Nat} {v:Value} (h:w.cell? ⟨g,k,none⟩=some v):(loadVar 42 ⟨g,k,none⟩).run Tryz.prog w= .ok (.agg #[v]) w:=
 Zs w g k 42 [v] _ (fun j u hu=>by
  have hj:j=0:=by have:=(List.getElem?_eq_some_iff.1 hu).1;simp at this;exact this
  subst hj
  simp at hu
  subst hu
  simpa using h) Tryz.underlying42 rfl (by kernel_rfl)
end Go.Proofs.YtipjchbdogmccaaGreat
