/- MachinesMoves, walked. Commands that come in, opened: slices of slices of steps. A machine's state, walked; two states that say the same. MachinesBatch: what a command does, step by step; the walk. What else a machine keeps true: numbers of offers rise, owners are parties, there are few. Sound (countinghouselaw14), walked. What a step does to positions, plainly: payments, swaps, offers that are placed. What payments and nettings do to positions, plainly: a netting leaves each position as it was. MachinesMoves, plainly: whose positions a step changes, and what it answers. What MachinesMoves asks of states, walked: positions, owners, whether an offer has less left. -/
import Derived.Test.YtipjchbdogmccaaGreatMv
import Derived.Test.YtipjchbdogmccaaGreatMade
import Derived.Test.YtipjchbdogmccaaGreatRnd
import Derived.Test.YtipjchbdogmccaaGreatStands
set_option maxHeartbeats 25600000
set_option maxRecDepth 100000
namespace Go.Proofs.YtipjchbdogmccaaGreat
open Go.Joins Go.Deep Go.WideElems Go.Maps Go.ChangeShapes Go.WideShapes Go.ChangeAt Go.RowKit Go.Rg Go.BigFrame
abbrev Cmd:=Value×List Stp
def Cmd.cells (x:Cmd):List Value:=[x.1]
def Zhd (w:World) (x:Cmd):Prop:=Zdz w 10 x.1 x.2.length (U4 x.2)/\∀s∈x.2,s.In
theorem Zhd.ext {w w':World} {x:Cmd} (h:Zhd w x) (k:Ext w w'):Zhd w' x:=⟨h.1.ext k,h.2⟩
theorem Zha (l:List Cmd) (k:Nat) (hk:k<l.length):(l.flatMap Cmd.cells)[k]? =some (l[k]'hk).1:=by
 have:=Zdg Cmd.cells 1 (fun _=>rfl) l k 0 hk (by omega)
 rw [Nat.mul_one,Nat.add_zero] at this
 rw [this]
 rfl
theorem list10 {α:Type} {cs:List α} (h:cs.length=10):∃c0 c1 c2 c3 c4 c5 c6 c7 c8 c9,cs=[c0,c1,c2,c3,c4,c5,c6,c7,c8,c9]:=by
 match cs,h with
 | [c0,c1,c2,c3,c4,c5,c6,c7,c8,c9],_=>exact ⟨c0,c1,c2,c3,c4,c5,c6,c7,c8,c9,rfl⟩
section
variable {H:Type} {enc:TypeId×Value->H} {w:World} {base:Nat} {spare:Nat->Bool} {held:Bool}
theorem Zkn {fuel:Nat} {cs:List Value} {x:DataW H×List MemPlace} (h:DataW.trod enc Tryz.prog w base spare held fuel 30 cs=some x):∃a:Stp,cs=a.cells/\a.In:=by
 have hu:=Tryz.underlying30
 have hl:=(DataW.trod_struct hu h).choose_spec.choose_spec.2.2.1
 obtain ⟨c0,c1,c2,c3,c4,c5,c6,c7,c8,c9,rfl⟩:=list10 (hl.trans (by kernel_rfl))
 obtain ⟨_,_,h0⟩:=J5 hu h 0 0 1 _ rfl (by kernel_rfl)
 obtain ⟨_,_,h1⟩:=J5 hu h 1 1 1 _ rfl (by kernel_rfl)
 obtain ⟨_,_,h2⟩:=J5 hu h 2 2 1 _ rfl (by kernel_rfl)
 obtain ⟨_,_,h3⟩:=J5 hu h 3 3 1 _ rfl (by kernel_rfl)
 obtain ⟨_,_,h4⟩:=J5 hu h 4 4 1 _ rfl (by kernel_rfl)
 obtain ⟨_,_,h5⟩:=J5 hu h 5 5 1 _ rfl (by kernel_rfl)
 obtain ⟨_,_,h6⟩:=J5 hu h 6 6 1 _ rfl (by kernel_rfl)
 obtain ⟨_,_,hr⟩:=J5 hu h 7 7 2 _ rfl (by kernel_rfl)
 obtain ⟨_,_,h9⟩:=J5 hu h 8 9 1 _ rfl (by kernel_rfl)
 have hv:=Tryz.underlying27
 obtain ⟨_,_,h7⟩:=J5 hv hr 0 0 1 _ rfl (by kernel_rfl)
 obtain ⟨_,_,h8⟩:=J5 hv hr 1 1 1 _ rfl (by kernel_rfl)
 simp only [List.drop_succ_cons,List.drop_zero,List.take_succ_cons,List.take_zero] at h0 h1 h2 h3 h4 h5 h6 h7 h8 h9
 obtain ⟨x0,rfl,_⟩:=Jt Tryz.underlying23 h0
 obtain ⟨x1,rfl,_⟩:=Jt Tryz.underlying24 h1
 obtain ⟨x2,rfl,_⟩:=Jt Tryz.underlying24 h2
 obtain ⟨x3,rfl,_⟩:=Jt Tryz.underlying25 h3
 obtain ⟨x4,rfl,_⟩:=Jt Tryz.underlying25 h4
 obtain ⟨x5,rfl,w5⟩:=Jt Tryz.underlying2 h5
 obtain ⟨x6,rfl,w6⟩:=Jt Tryz.underlying2 h6
 obtain ⟨x7,rfl,w7⟩:=Jt Tryz.underlying2 h7
 obtain ⟨x8,rfl,w8⟩:=Jt Tryz.underlying2 h8
 obtain ⟨x9,rfl,_⟩:=Jt Tryz.underlying28 h9
 exact ⟨⟨x0,x1,x2,x3,x4,x5,x6,x7,x8,x9⟩,rfl,(bounds_i64 w5).2,(bounds_i64 w6).2,(bounds_i64 w7).2,(bounds_i64 w8).2⟩
theorem open_cmdL {fuel:Nat} {cs:List Value} {x:DataW H×List MemPlace} (h:DataW.trod enc Tryz.prog w base spare held fuel 42 cs=some x):∃a:Cmd,cs=a.cells/\Zhd w a:=by
 have hu:=Tryz.underlying42
 have hl:=(DataW.trod_struct hu h).choose_spec.choose_spec.2.2.1
 obtain ⟨v,rfl⟩:=List.length_eq_one_iff.1 (hl.trans (by kernel_rfl))
 obtain ⟨_,_,h0⟩:=J5 hu h 0 0 1 _ rfl (by kernel_rfl)
 simp only [List.drop_zero,List.take_succ_cons,List.take_zero] at h0
 obtain ⟨v',l,e,ha,ho⟩:=Zko Stp.cells Stp.In 10 (by omega) (fun _=>rfl) Tryz.underlying40 (by kernel_rfl) (fun n cs y=>Zkn) h0
 cases e
 exact ⟨(v,l),rfl,ha,ho⟩
theorem open_stp {b0:Nat} {r:Reach} {v:Value} {d:DataW H} {p:List MemPlace} (hv:Value.okWide Tryz.prog w r b0 30 v) (h:DataW.Trod enc Tryz.prog w base spare held 30 v d p):
 ∃a:Stp,v=a.agg/\a.In:=by
 obtain ⟨cs,rfl,hsz⟩:=okWide_struct Tryz.underlying30 hv
 obtain ⟨fuel,hf⟩:=h
 obtain ⟨a,ha,hb⟩:=Zkn hf
 refine ⟨a,?_,hb⟩
 obtain ⟨l⟩:=cs
 simp only [Value.cells] at ha
 have:l=a.cells:=by simpa using ha
 subst this
 rfl
theorem open_cmds {b0:Nat} {r:Reach} {v:Value} {d:DataW H} {p:List MemPlace} (hv:Value.okWide Tryz.prog w r b0 22 v) (h:DataW.Trod enc Tryz.prog w base spare held 22 v d p):
 ∃l:List Cmd,Zdz w 1 v l.length (l.flatMap Cmd.cells)/\∀x∈l,Zhd w x:=by
 obtain ⟨A,n,cap,rfl⟩:=okWide_slice Tryz.underlying22 hv
 obtain ⟨fuel,hf⟩:=h
 obtain ⟨v',l,e,ha,ho⟩:=Zko Cmd.cells (Zhd w) 1 (by omega) (fun _=>rfl) Tryz.underlying22 (by kernel_rfl) (fun n cs y=>open_cmdL) hf
 simp only [Value.cells] at e
 cases e
 exact ⟨l,ha,ho⟩
end
end Go.Proofs.YtipjchbdogmccaaGreat
namespace Go.Rg
open Go.RowKit
section
variable {P:Program} {ops:Array Oper} {md:Region.Mode}
theorem X3 {n f:Nat} {L:Array Bool->Act->World->Prop} {listed:Array Bool} {a:Act} {w0 w:World} (i:Nat) (o:Oper) (v:Value) (hg:o.guard=none)
 (hr:Region.ready md ops listed=[i]) (hin:i<n) (ho:ops[i]? =some o) (hl:∀w',Ext w w'->(execOp a.eval o).run P w'= .ok (.value v) w')
 (h:∀w':World,Ext w0 w'->Ext w w'->wpX P md ops w0 n L f (listed.setIfInBounds i true) (a.put o.dst v) w'):wpX P md ops w0 n L (f+1) listed a w:=by
 refine V0 i o hr hin ho (by simp [Region.wanted,hg]) fun w' h0 hw'=> ?_
 unfold X6
 rw [hl w' hw']
 exact ⟨h0,h w' h0 hw'⟩
end
end Go.Rg
namespace Go.Proofs.YtipjchbdogmccaaGreat
open Go.RowKit Go.Rg Go.BigFrame
def Zfl (w:World) (base:Nat) (v:Value) (L:Led) (B:Bk):Prop:=
 ∃v1 v2 v3,v= .agg #[v1,v2,v3,.int .u64 B.next]/\Zs w base 1 v1 (Zv L).length ((Zv L).map (.int .u8))/\Zs w base 5 v2 (Z9 L.lines).length (Y9 (Z9 L.lines))/\Zb0 w base v3 B.offs
def RetSt (L:Led) (B:Bk) (w:World) (e:Ending) (w':World):Prop:=∃v,e= .returned v/\Ext w w'/\Zfl w' w.heap.size v L B
theorem Zfl.ext {w w':World} {base:Nat} {v:Value} {L:Led} {B:Bk} (h:Zfl w base v L B) (k:Ext w w'):Zfl w' base v L B:=
 let ⟨v1,v2,v3,e,h1,h2,h3⟩:=h
 ⟨v1,v2,v3,e,h1.ext k,h2.ext k,Zs.ext h3 k⟩
theorem Zfl.fra2 {A:Nat->Prop} {w w':World} {base:Nat} {v:Value} {L:Led} {B:Bk} (h:Zfl w base v L B) (k:FrA A w w') (hS:∀x,A x->x<base\/w.heap.size<=x):Zfl w' base v L B:=
 let ⟨v1,v2,v3,e,h1,h2,h3⟩:=h
 ⟨v1,v2,v3,e,h1.fra2 k hS,h2.fra2 k hS,Zs.fra2 h3 k hS⟩
theorem Zfs (q p m pb:Nat) (g:Option Nat) (L:Led) (B:Bk) (w:World) (h:IsM w q p m pb g L B):Calls Tryz.prog 18 #[.pointer (some ⟨q,0,none⟩)] w (RetSt L B w):=by
 have h0:=Zb w (.cells #[.slice none 0 0,.slice none 0 0,.slice none 0 0,.int .u64 0] 47)
 have e0:=Zc w (.cells #[.slice none 0 0,.slice none 0 0,.slice none 0 0,.int .u64 0] 47)
 go_enter Tryz.func18,Tryz.ntmps18
 go_wp2_with fail
 refine (Zit q p m pb g L B _ (h.ext e0)).mono ?_
 rintro e w3 ⟨rfl,e3⟩
 have h3:=e3.at h0
 have e03:=Xt e0 e3
 have hM:=h.ext e03
 clear h0 e0 e3 h
 go_wp2_with fail
 refine Zf Zk 25 [5,11,17,23,24] (by kernel_rfl) (by kernel_rfl) ?_
 intro w1 hw1
 have d0:=fun u:ExtOf w1=>Za (j:=0) ((Xt hw1 u.h).at hM.row) rfl
 have d1:=fun u:ExtOf w1=>Za (j:=1) ((Xt hw1 u.h).at hM.row) rfl
 simp only [Zj,Rg.hsB,Nat.reduceBEq,Nat.reduceAdd,↓reduceIte]
 repeat (go_big_quiet_step (fail))
 refine wpQuiet_nil ?_
 clear d0 d1
 refine Z5 5 55 _ #[.pointer (some ⟨p,0,none⟩)] _ (by rfl) _ _ (by rfl) Tryz.func55 rfl rfl (by kernel_rfl) (by rfl) (by kernel_rfl) (by decide) ?_
 intro w4 h04 h4
 refine (Zgx p m L w4 (hM.led.ext h04)).mono ?_
 rintro e w5 ⟨v1,rfl,e5,s1⟩
 have s1':=s1
 obtain ⟨A1,k1,rfl,_⟩:=s1'
 refine ⟨_,rfl,Xt h04 e5,?_⟩
 refine Z5 11 56 _ #[.pointer (some ⟨p,0,none⟩)] _ (by rfl) _ _ (by rfl) Tryz.func56 rfl rfl (by kernel_rfl) (by rfl) (by kernel_rfl) (by decide) ?_
 intro w6 h06 h6
 refine (Zde p m L w6 (hM.led.ext h06) hM.ok.wf).mono ?_
 rintro e w7 ⟨v2,rfl,e7,s2⟩
 obtain ⟨A2,k2,rfl⟩:=Yd s2
 refine ⟨_,rfl,Xt h06 e7,?_⟩
 refine Z5 17 57 _ #[.pointer (some ⟨pb,0,none⟩)] _ (by rfl) _ _ (by rfl) Tryz.func57 rfl rfl (by kernel_rfl) (by rfl) (by kernel_rfl) (by decide) ?_
 intro w8 h08 h8
 refine (Zow pb g B w8 (hM.book.ext h08)).mono ?_
 rintro e w9 ⟨v3,rfl,e9,s3⟩
 have s3':=s3
 obtain ⟨A3,k3,rfl,_⟩:=s3'
 refine ⟨_,rfl,Xt h08 e9,?_⟩
 refine Z5 23 58 _ #[.pointer (some ⟨pb,0,none⟩)] _ (by rfl) _ _ (by rfl) Tryz.func58 rfl rfl (by kernel_rfl) (by rfl) (by kernel_rfl) (by decide) ?_
 intro w10 h010 h10
 refine (bnext_any pb g B w10 (hM.book.ext h010)).mono ?_
 rintro e w11 ⟨rfl,e11⟩
 refine ⟨_,rfl,Xt h010 e11,?_⟩
 refine X3 24 _ (.agg #[.slice A1 (Zv L).length k1,.slice A2 (Z9 L.lines).length k2,.slice A3 B.offs.length k3,.int .u64 B.next]) rfl (by kernel_rfl) (by decide) rfl (fun w' _=>by go_simp) ?_
 intro w12 h012 h12
 refine Zi (by kernel_rfl) ?_
 intro w13 e13 e13'
 simp only [Act.put,Rg.puB]
 simp only [Rg.puC,Rg.puB]
 have h13:=e13.at h3
 have z3:=e03.size
 have z4:=h04.size
 have z6:=h06.size
 have z8:=h08.size
 have f11:Ext w11 w13:=Xt h12 e13'
 have f9:Ext w9 w13:=Xt h10 (Xt e11 f11)
 have f7:Ext w7 w13:=Xt h8 (Xt e9 f9)
 have f5:Ext w5 w13:=Xt h6 (Xt e7 f7)
 have s1:=(s1.ext f5).low (show w.heap.size+1<=w4.heap.size by have:=Zg h3;omega)
 have s2:=((Zs.of_own s2).ext f7).low (show w.heap.size+1<=w6.heap.size by have:=Zg h3;omega)
 have s3:=Zs.low (Zs.ext s3 f9) (show w.heap.size+1<=w8.heap.size by have:=Zg h3;omega)
 clear f5 f7 f9 f11 e5 e7 e9 e11 h4 h6 h8 h10 h12 h04 h06 h08 h010 h012
 go_wp2_with (refine Ze rfl rfl 47 _ _ rfl w.heap.size _ rfl rfl 47 _ h13 (by kernel_rfl) (by rfl) (by rfl) ?_
              intro w14 hb14 ho14 hs14)
 have k14:Keep [w.heap.size] w13 w14:=by
  have kz:=hb14 0 w13 (Nat.zero_le _) (Below.refl 0 w13)
  exact ⟨kz.os,kz.tape,kz.output,kz.size,fun k _ hk=>ho14 k (by simpa using hk)⟩
 have hfr:FrA (fun x=>x=w.heap.size) w13 w14:=⟨k14.os,k14.tape,k14.output,k14.size,fun k hk hA=>k14.block k hk (by simpa using hA)⟩
 exact Yw w.heap.size 47 _ _ _ rfl rfl hs14 Tryz.underlying47 rfl (by kernel_rfl) rfl
  ⟨_,rfl,(Keep.trans_fresh (S:=[]) (Kx (Xt e03 e13)) k14 (fun x hx=>by right;simp at hx;omega)).ext,_,_,_,rfl,(s1.fra2 hfr (fun x hx=>by omega)).low (by omega),(s2.fra2 hfr (fun x hx=>by omega)).low (by omega),Zs.low (Zs.fra2 s3 hfr (fun x hx=>by omega)) (by omega)⟩
theorem Zn2 (v:Value) (l:List Cmd) (w:World) (h:Zdz w 1 v l.length (l.flatMap Cmd.cells)) (hok:∀x∈l,Zhd w x):Calls Tryz.prog 14 #[v] w (fun e w'=>(∃b,e= .returned (.bool b))/\Ext w w'):=by
 obtain ⟨A,cap,rfl,h1,h2,h3,h4⟩:=h
 have hn63:(l.length:Int)<=9223372036854775807:=by unfold maxLen at h2;omega
 by_cases hg:(l.length:Int) > 60
 ·have hg':decide ((l.length:Int) > 60)=true:=by simpa using hg
  go_enter Tryz.func14,Tryz.ntmps14
  go_wp2
  go_ret
  exact ⟨⟨_,rfl⟩,Ext.refl _⟩
 have hg':decide ((l.length:Int) > 60)=false:=by simpa using hg
 go_enter Tryz.func14,Tryz.ntmps14
 go_wp2
 go_loopw [3,4] (fun nv iv wr=>∃(z:Int) (k:Nat),k<=l.length/\nv= .int .i64 z/\iv= .int .i64 k/\Ext w wr) (fun _ iv _=>l.length-(intOf iv).toNat)
 case atStart=>exact ⟨0,0,Nat.zero_le _,rfl,rfl,Ext.refl _⟩
 obtain ⟨z,k,hk,rfl,rfl,er⟩:=hrel
 by_cases hkn:k<l.length
 ·rcases h4 with h4 | ⟨g,off,rfl,hlt,hcell⟩
  ·omega
  have hj1:(0:Int)<=(k:Int):=by omega
  have hj2:(k:Int)<(l.length:Int):=by omega
  have hc:wr.cell? ⟨g,off+k,none⟩=some (l[k]'hkn).1:=(Zh (er.block hlt)).trans (hcell k _ (Zha l k hkn))
  obtain ⟨⟨B,cap',hv,_⟩,_⟩:=hok _ (List.getElem_mem hkn)
  rw [hv] at hc
  generalize (l[k]'hkn).2.length=n' at *
  clear hcell hok hv h3
  go_wp2
  exact ⟨⟨_,k+1,by omega,rfl,by go_num,er⟩,by simp [intOf];omega⟩
 have hk':k=l.length:=by omega
 subst hk'
 clear h4 h3 hok hg hg'
 go_wp2
 go_ret
 exact ⟨⟨_,rfl⟩,er⟩
theorem same_u8 (b1 b2:Nat) (v1 v2:Value) (l:List Int) (w:World) (h:Zs w b1 1 v1 l.length (l.map (Value.int .u8))) (k:Zs w b2 1 v2 l.length (l.map (Value.int .u8))):
 Calls Tryz.prog 109 #[v1,v2] w (Ret (.bool true) w):=by
 obtain ⟨A,cap,rfl,h1,h2,h3,h4⟩:=h
 obtain ⟨A',cap',rfl,k1,k2,k3,k4⟩:=k
 have hn63:(l.length:Int)<=9223372036854775807:=by unfold maxLen at h2;omega
 go_enter Tryz.func109,Tryz.ntmps109
 go_wp2
 go_loopw [5] (fun i wr=>∃k:Nat,k<=l.length/\i= .int .i64 k/\Ext w wr) (fun i _=>l.length-(intOf i).toNat)
 case atStart=>exact ⟨0,Nat.zero_le _,rfl,Ext.refl _⟩
 obtain ⟨k,hk,rfl,e1⟩:=hrel
 by_cases hkn:k<l.length
 ·rcases h4 with h4 | ⟨g,rfl,hb,hlt,hcell⟩
  ·omega
  rcases k4 with k4 | ⟨g',rfl,hb',hlt',hcell'⟩
  ·omega
  have hj1:(0:Int)<=(k:Int):=by omega
  have hj2:(k:Int)<(l.length:Int):=by omega
  have hld:∀wq,Ext wr wq->wq.cell? ⟨g,k,none⟩=some (.int .u8 (l[k]'hkn)):=fun wq q=>by rw [Zh ((Xt e1 q).block hlt)];exact hcell k _ (by simp [hkn])
  have hld':∀wq,Ext wr wq->wq.cell? ⟨g',k,none⟩=some (.int .u8 (l[k]'hkn)):=fun wq q=>by rw [Zh ((Xt e1 q).block hlt')];exact hcell' k _ (by simp [hkn])
  clear hcell hcell' h3 k3
  generalize (l[k]'hkn)=x at *
  go_wp2_with fail
  refine Yc Zk [] (by kernel_rfl) (by kernel_rfl) ?_
  intro w1 hw1
  have ld1:∀u:ExtOf w1,u.to.cell? ⟨g,k,none⟩=_:=fun u=>hld u.to (Xt hw1 u.h)
  have ld2:∀u:ExtOf w1,u.to.cell? ⟨g',k,none⟩=_:=fun u=>hld' u.to (Xt hw1 u.h)
  clear hld hld'
  simp only [Zj,Rg.hsB,Nat.reduceAdd,↓reduceIte]
  repeat (go_big_quiet_step (fail))
  refine wpQuiet_nil ?_
  refine Xs (by kernel_rfl) ?_
  intro w4 e4 e4'
  try simp only [Act.put,Rg.puC,Rg.puB]
  clear ld1 ld2 hw1
  go_wp2
  exact ⟨⟨k+1,by omega,by go_num,Xt e1 e4⟩,by simp [intOf];omega⟩
 have hk':k=l.length:=by omega
 subst hk'
 clear h3 k3 h4 k4
 go_wp2
 go_ret
 exact ⟨rfl,e1⟩
theorem sameP_any (b1 b2:Nat) (v1 v2:Value) (l:List Int) (w:World) (h:Zs w b1 1 v1 l.length (l.map (Value.int .u8))) (k:Zs w b2 1 v2 l.length (l.map (Value.int .u8))):Calls Tryz.prog 59 #[v1,v2] w (Ret (.bool true) w):=by
 have hs:=same_u8 b1 b2 v1 v2 l w h k
 obtain ⟨A,cap,rfl,_⟩:=h
 obtain ⟨A',cap',rfl,_⟩:=k
 go_enter Tryz.func59,Tryz.ntmps59
 go_wp2_with fail
 refine hs.mono ?_
 rintro e w1 ⟨rfl,e1⟩
 go_wp2
 go_ret
 exact ⟨rfl,e1⟩
theorem like_any (b1 b2:Nat) (v1 v2:Value) (L:Led) (B:Bk) (w:World) (h:Zfl w b1 v1 L B) (k:Zfl w b2 v2 L B):Calls Tryz.prog 20 #[v1,v2] w (Ret (.bool true) w):=by
 obtain ⟨p1,l1,o1,rfl,hp,hl,ho⟩:=h
 obtain ⟨p2,l2,o2,rfl,kp,kl,ko⟩:=k
 have h0:=Zb w (.cells #[p1,l1,o1,.int .u64 B.next] 47)
 have e0:=Zc w (.cells #[p1,l1,o1,.int .u64 B.next] 47)
 have s0:=size_alloc w (.cells #[p1,l1,o1,.int .u64 B.next] 47)
 have h1:=Zb (w.alloc (.cells #[p1,l1,o1,.int .u64 B.next] 47)) (.cells #[p2,l2,o2,.int .u64 B.next] 47)
 have e1:=Zc (w.alloc (.cells #[p1,l1,o1,.int .u64 B.next] 47)) (.cells #[p2,l2,o2,.int .u64 B.next] 47)
 have h0:=e1.at h0
 rw [s0] at h1
 have E1:=Xt e0 e1
 clear e0 e1 s0
 go_enter Tryz.func20,Tryz.ntmps20
 have x0:=Za (j:=0) h0 rfl
 have y0:=Za (j:=0) h1 rfl
 go_wp2_with fail
 refine (sameP_any b1 b2 p1 p2 _ _ (hp.ext E1) (kp.ext E1)).mono ?_
 rintro e w2 ⟨rfl,e2⟩
 have x1:=Za (j:=1) (e2.at h0) rfl
 have y1:=Za (j:=1) (e2.at h1) rfl
 clear x0 y0
 go_wp2_with fail
 refine (Zjy b1 b2 l1 l2 _ _ (hl.ext (Xt E1 e2)) (kl.ext (Xt E1 e2))).mono ?_
 rintro e w3 ⟨rfl,e3⟩
 have E3:=Xt E1 (Xt e2 e3)
 have x2:=Za (j:=2) ((Xt e2 e3).at h0) rfl
 have y2:=Za (j:=2) ((Xt e2 e3).at h1) rfl
 clear x1 y1
 go_wp2_with fail
 refine (Zif b1 b2 o1 o2 _ _ (Zs.ext ho E3) (Zs.ext ko E3)).mono ?_
 rintro e w4 ⟨rfl,e4⟩
 have x3:=Za (j:=3) ((Xt e2 (Xt e3 e4)).at h0) rfl
 have y3:=Za (j:=3) ((Xt e2 (Xt e3 e4)).at h1) rfl
 clear x2 y2
 go_wp2_with fail
 go_ret
 exact ⟨rfl,Xt E3 e4⟩
theorem apply_one (s:Stp) (L:Led) (B:Bk):Xf [s] L B=if (Z8 s L B).2.1≠0 then (((Z8 s L B).2.1,0,[]),L,B) else ((0,0,[(Z8 s L B).1]),(Z8 s L B).2.2.1,(Z8 s L B).2.2.2):=by
 have hn:¬([s].length=0\/8<[s].length):=by simp
 by_cases h:(Z8 s L B).2.1=0
 ·rw [if_neg (by simpa using h)]
  exact Zjs (L':=(Z8 s L B).2.2.1) hn L B (i:=0) ((Zfv s [] 0 L B [] h).trans rfl)
 rw [if_pos (by simpa using h)]
 exact Zgm hn L B (Zet s [] 0 L B [] h) h
theorem Zgu:∀(l:List Stp) (i:Int) (L:Led) (B:Bk) (g:List Gt),(Jy l i L B g).1=0->∃t,(Jy l i L B g).2.2.1=g++t/\t.length=l.length
 | [],_,_,_,g,_=>⟨[],by simp [Jy],rfl⟩
 | s::l,i,L,B,g,h=>by
   by_cases hs:(Z8 s L B).2.1=0
   ·rw [Zfv s l i L B g hs] at h ⊢
    obtain ⟨t,h1,h2⟩:=Zgu l _ _ _ _ h
    exact ⟨(Z8 s L B).1::t,by rw [h1];simp,by simp [h2]⟩
   rw [Zet s l i L B g hs] at h
   exact absurd h hs
structure AtK (l:List Stp) (L0:Led) (B0:Bk) (k:Nat) (L:Led) (B:Bk) (gl:List Gt):Prop where
 le:k<=l.length
 len:gl.length=k
 run:Jy l 0 L0 B0 []=Jy (l.drop k) k L B gl
theorem AtK.got {l:List Stp} {L0 L:Led} {B0 B:Bk} {k:Nat} {gl:List Gt} (h:AtK l L0 B0 k L B gl) (hn:¬(l.length=0\/8<l.length)) (h0:(Xf l L0 B0).1.1=0):
 ∃t,(Xf l L0 B0).1.2.2=gl++t/\(Xf l L0 B0).1.2.2.length=l.length:=by
 by_cases hr:(Jy l 0 L0 B0 []).1=0
 ·obtain ⟨t,h1,h2⟩:=Zgu (l.drop k) k L B gl (by rw [<-h.run];exact hr)
  have ha:(Xf l L0 B0).1.2.2=(Jy l 0 L0 B0 []).2.2.1:=by unfold Xf;rw [if_neg hn,if_neg (by simpa using hr)]
  rw [ha,h.run,h1]
  exact ⟨t,rfl,by have:=h.le;have:=h.len;simp [h2];omega⟩
 exfalso
 refine hr ?_
 have ha:(Xf l L0 B0).1.1=(Jy l 0 L0 B0 []).1:=by unfold Xf;rw [if_neg hn,if_pos (by simpa using hr)]
 rw [<-ha];exact h0
theorem load_cmd {w:World} {g k:Nat} {v:Value} (h:w.cell? ⟨g,k,none⟩=some v):(loadVar 42 ⟨g,k,none⟩).run Tryz.prog w= .ok (.agg #[v]) w:=
 Zu w g k 42 [v] _ (fun j u hu=>by
  have hj:j=0:=by have:=(List.getElem?_eq_some_iff.1 hu).1;simp at this;exact this
  subst hj
  simp at hu
  subst hu
  simpa using h) Tryz.underlying42 rfl (by kernel_rfl)
structure MX (L:Led) (B:Bk):Prop where
 up:(B.offs.map Off.seq).Pairwise (·<·)
 lo:∀o∈B.offs,1<=o.seq/\o.seq<B.next
 own:∀o∈B.offs,Yp L o.owner=true
 few:B.offs.length<=32
 nx:1<=B.next
theorem MX.par {L L':Led} {B:Bk} (h:MX L B) (hp:L'.par=L.par):MX L' B:=⟨h.up,h.lo,fun o ho=>by rw [Ze8 hp];exact h.own o ho,h.few,h.nx⟩
theorem MX.erase {L:Led} {B:Bk} (h:MX L B) (i:Nat):MX L { B with offs:=B.offs.eraseIdx i }:=
 ⟨h.up.sublist ((List.eraseIdx_sublist ..).map _),fun o ho=>h.lo o (List.mem_of_mem_eraseIdx ho),fun o ho=>h.own o (List.mem_of_mem_eraseIdx ho),by have:=h.few;have:=List.length_eraseIdx_le B.offs i;simp only;omega,h.nx⟩
theorem mx_take {L:Led} {B:Bk} (h:MX L B) (seq n:Int):MX L (Vt B seq n).2:=by
 unfold Vt
 cases hf:Z2 B.offs seq with
 | none=>exact h
 | some o=>
   simp only
   split
   ·exact h
   split
   ·exact h.erase _
   rcases Zaa seq B.offs 0 with ⟨_,h2⟩ | ⟨j,hj,h1,h2⟩
   ·rw [hf] at h2;cases h2
   rw [hf] at h2
   injection h2 with h2
   have hj2:(Ze6 B.offs seq).toNat=j:=by unfold Ze6;rw [h1];simp
   rw [hj2]
   have hm:(B.offs.set j { o with left:=o.left-n }).map Off.seq=B.offs.map Off.seq:=by
    rw [List.map_set]
    apply List.ext_getElem?
    intro i
    by_cases hi:j=i
    ·subst hi
     rw [List.getElem?_set_self (by simpa using hj),List.getElem?_map,List.getElem?_eq_getElem hj,h2];rfl
    rw [List.getElem?_set_ne hi]
   have ho:o∈B.offs:=by rw [h2];exact List.getElem_mem hj
   refine ⟨by simp only;rw [hm];exact h.up,fun x hx=> ?_,fun x hx=> ?_,by simp only [List.length_set];exact h.few,h.nx⟩
   ·rcases List.mem_or_eq_of_mem_set hx with hx | rfl
    ·exact h.lo x hx
    exact h.lo o ho
   rcases List.mem_or_eq_of_mem_set hx with hx | rfl
   ·exact h.own x hx
   exact h.own o ho
theorem mx_place {L:Led} {B:Bk} (h:MX L B) (owner sell buy left num den:Int) (ho:Yp L owner=true):MX L (Xc B owner sell buy left num den).2.2:=by
 unfold Xc
 split
 ·exact h
 split
 ·exact h
 rename_i hc
 have hn:=h.nx
 refine ⟨?_,fun x hx=> ?_,fun x hx=> ?_,?_,?_⟩
 ·simp only [List.map_append,List.map_cons,List.map_nil]
  rw [List.pairwise_append]
  refine ⟨h.up,by simp,fun a ha b hb=> ?_⟩
  obtain ⟨y,hy,rfl⟩:=List.mem_map.1 ha
  have:=h.lo y hy
  simp at hb
  omega
 ·rcases List.mem_append.1 hx with hx | hx
  ·have:=h.lo x hx
   simp only
   omega
  simp at hx
  subst hx
  simp only
  omega
 ·rcases List.mem_append.1 hx with hx | hx
  ·exact h.own x hx
  simp at hx
  subst hx
  exact ho
 ·simp only [List.length_append,List.length_cons,List.length_nil];omega
 simp only;omega
theorem Zkl (c:Int):∀(fl:Flows) (L:Led),(Yo L c fl).par=L.par
 | [],_=>rfl
 | x::fl,L=>by
   show (Yo (U6 L x.1 x.2.1 c x.2.2).2 c fl).par=L.par
   rw [Zkl c fl]
   unfold U6 Uh
   split
   ·rfl
   split<;>rfl
theorem Zls (L:Led) (a b c n:Int):(Uf L a b c n).2.par=L.par:=by
 unfold Uf
 split
 ·rfl
 split
 ·rfl
 split
 ·rfl
 exact Zkl _ _ _
theorem par_trust (L:Led) (a b c n:Int):(Xn L a b c n).2.par=L.par:=by
 unfold Xn
 split
 ·rfl
 split
 ·rfl
 split
 ·rfl
 split
 ·rfl
 split<;>rfl
theorem Zne (L:Led) (a b c n:Int):(V9 L a b c n).2.par=L.par:=by
 unfold V9
 split
 ·rfl
 split
 ·rfl
 split<;>rfl
theorem Zfy {left:List Fw} {c:Int}:∀{l:List Fw} {L:Led} {g:Int},(V5 left c l L g).1.par=L.par
 | [],_,_=>rfl
 | x::l,L,g=>by
   unfold V5
   split
   ·rw [Zfy (l:=l)];exact Zne _ _ _ _ _
   exact Zfy (l:=l)
theorem par_net (L:Led) (c quota:Int):(Jd L c quota).2.2.2.par=L.par:=by
 unfold Jd
 split
 ·rfl
 split
 ·rfl
 exact Zfy
theorem par_do (L:Led) (B:Bk) (seq taker to n:Int):(doR L B seq taker to n).2.2.1.par=L.par:=by
 unfold doR
 split
 ·rfl
 simp only
 rw [Zls]
 split
 ·rfl
 exact Zls _ _ _ _ _
theorem mx_do {L:Led} {B:Bk} (h:MX L B) (seq taker to n:Int):MX (doR L B seq taker to n).2.2.1 (doR L B seq taker to n).2.2.2/\(doR L B seq taker to n).2.2.1.par=L.par:=by
 refine ⟨MX.par (L:=L) ?_ (par_do L B seq taker to n),par_do L B seq taker to n⟩
 unfold doR
 split
 ·exact h
 exact mx_take h seq n
theorem Zku (fr to get give:Int):∀(f:Nat) (L:Led) (B:Bk) (n:Int) (all:List Fl),MX L B->MX (Y6 fr to get give f L B n all).2.1 (Y6 fr to get give f L B n all).2.2.1
 | 0,L,B,n,all,h=>h
 | f+1,L,B,n,all,h=>by
   unfold Y6
   split
   ·exact h
   split
   ·exact h
   split
   ·exact h
   exact Zku fr to get give f _ _ _ _ (mx_do h _ _ _ _).1
theorem Zf1 (o:Off):∀(f:Nat) (L:Led) (B:Bk) (left:Int) (all:List Fl),MX L B->MX (Yb o f L B left all).2.1 (Yb o f L B left all).2.2.1/\(Yb o f L B left all).2.1.par=L.par
 | 0,L,B,n,all,h=>⟨h,rfl⟩
 | f+1,L,B,n,all,h=>by
   unfold Yb
   split
   ·exact ⟨h,rfl⟩
   split
   ·exact ⟨h,rfl⟩
   split
   ·exact ⟨h,rfl⟩
   have hd:=mx_do h (X8 L B { o with left:=n }).1 o.owner o.owner (X8 L B { o with left:=n }).2
   exact ⟨(Zf1 o f _ _ _ _ hd.1).1,(Zf1 o f _ _ _ _ hd.1).2.trans hd.2⟩
theorem mx_swap {L:Led} {B:Bk} (h:MX L B) (fr to get give n most:Int):MX (Y3 L B fr to get give n most).2.1 (Y3 L B fr to get give n most).2.2.1:=by
 unfold Y3
 split
 ·exact h
 split
 ·exact h
 split
 ·exact h
 split
 ·exact h
 exact Zku fr to get give _ _ _ _ _ h
theorem mx_come {L:Led} {B:Bk} (h:MX L B) (o:Off):MX (Vo L B o).2.2.1 (Vo L B o).2.2.2.1:=by
 have hg:=Zf1 o 65 L B o.left [] h
 unfold Vo
 split
 ·exact h
 split
 ·exact h
 rename_i hh
 split
 ·exact h
 split
 ·split
  ·exact h
  exact mx_place hg.1 _ _ _ _ _ _ (by rw [Ze8 hg.2];simpa using hh)
 exact hg.1
theorem mx_cancel {L:Led} {B:Bk} (h:MX L B) (own sq:Int):MX L (X5 B own sq).2.2:=by
 unfold X5
 split
 ·exact h
 split
 ·exact h
 exact h.erase _
theorem mx_step {L:Led} {B:Bk} (h:MX L B) (s:Stp):MX (Z8 s L B).2.2.1 (Z8 s L B).2.2.2:=by
 unfold Z8
 by_cases k1:s.kd=1
 ·rw [if_pos k1]
  refine ⟨h.up,h.lo,fun o ho=> ?_,h.few,h.nx⟩
  have:=h.own o ho
  unfold J7
  split
  ·split
   ·exact this
   unfold Yp at this ⊢
   simp only [Bool.and_eq_true] at this ⊢
   refine ⟨this.1,?_⟩
   rw [List.getD_eq_getElem?_getD,List.getElem?_set]
   split
   ·split
    ·rfl
    rename_i h1 h2
    have h3:=this.2
    rw [List.getD_eq_getElem?_getD,<-h1,List.getElem?_eq_none (by omega)] at h3
    exact absurd h3 (by simp)
   rw [<-List.getD_eq_getElem?_getD];exact this.2
  exact this
 rw [if_neg k1]
 by_cases k2:s.kd=2
 ·rw [if_pos k2];exact h.par (par_trust _ _ _ _ _)
 rw [if_neg k2]
 by_cases k3:s.kd=3
 ·rw [if_pos k3];exact h.par (Zls _ _ _ _ _)
 rw [if_neg k3]
 by_cases k4:s.kd=4
 ·rw [if_pos k4];exact mx_swap h _ _ _ _ _ _
 rw [if_neg k4]
 by_cases k5:s.kd=5
 ·rw [if_pos k5];exact mx_come h _
 rw [if_neg k5]
 by_cases k6:s.kd=6
 ·rw [if_pos k6];exact mx_cancel h _ _
 rw [if_neg k6]
 by_cases k7:s.kd=7
 ·rw [if_pos k7];exact h.par (par_net _ _ _)
 rw [if_neg k7]
 by_cases k8:s.kd=8
 ·rw [if_pos k8];exact h
 rw [if_neg k8]
 by_cases k9:s.kd=9
 ·rw [if_pos k9];exact h
 rw [if_neg k9]
 by_cases k10:s.kd=10
 ·rw [if_pos k10];exact h
 rw [if_neg k10]
 by_cases k11:s.kd=11
 ·rw [if_pos k11]
  cases Z2 B.offs s.sq<;>exact h
 rw [if_neg k11]
 exact h
theorem mx_run:∀(l:List Stp) (i:Int) (L:Led) (B:Bk) (g:List Gt),MX L B->MX (Jy l i L B g).2.2.2.1 (Jy l i L B g).2.2.2.2
 | [],_,_,_,_,h=>h
 | s::l,i,L,B,g,h=>by
   unfold Jy
   split
   ·exact h
   exact mx_run l _ _ _ _ (mx_step h s)
theorem Zni {L:Led} {B:Bk} (h:MX L B) (l:List Stp):MX (Xf l L B).2.1 (Xf l L B).2.2:=by
 unfold Xf
 split
 ·exact h
 split
 ·exact h
 exact mx_run l 0 L B [] h
theorem mx_new:MX Ziz ⟨[],1⟩:=⟨List.Pairwise.nil,fun o ho=>by simp at ho,fun o ho=>by simp at ho,by decide,by decide⟩
theorem Znd {L:Led} (h:L.par.getD 0 false=false):(Zv L).length<=16:=by
 have hk:∀k,(Zex L (k+1)).length<=k:=by
  intro k
  induction k with
  | zero=>rw [Zfz,h];simp [Zex]
  | succ k ih=>rw [Zfz,List.length_append];split<;>simp<;>omega
 exact hk 16
theorem Zpw (b:Nat) (v:Value) (L:Led) (B:Bk) (w:World) (h:Zfl w b v L B) (hk:MOk L B) (hx:MX L B):Calls Tryz.prog 21 #[v] w (Ret (.bool true) w):=by
 obtain ⟨v1,v2,v3,rfl,s1,s2,s3⟩:=h
 obtain ⟨A1,c1,rfl,_,_,_,_⟩:=s1
 obtain ⟨A2,c2,rfl,a1,a2,a3,a4⟩:=s2
 obtain ⟨A3,c3,rfl,b1,b2,b3,b4⟩:=s3
 have hp16:=Znd hk.wf.par0
 have hl64:(Z9 L.lines).length<=64:=by rw [Vq];exact hk.wf.few
 have ho32:=hx.few
 have hnum:∀y∈Z9 L.lines,1<=y.2.1/\y.2.1<=1099511627776/\0<=y.2.2/\y.2.2<=y.2.1:=fun y hy=>hk.wf.nums y (Ur.1 hy)
 have hoff:∀o∈B.offs,1<=o.left/\o.left<=1099511627776/\o.seq<B.next:=fun o ho=>by
  have h1:=hk.ok o ho
  unfold Xb at h1
  rw [decide_eq_true_eq] at h1
  have:=(hx.lo o ho).2
  omega
 have g1:decide (((Z9 L.lines).length:Int)<=64)=true:=by simp only [decide_eq_true_eq];omega
 have g2:decide ((B.offs.length:Int)<=32)=true:=by simp only [decide_eq_true_eq];omega
 have g3:decide (((Zv L).length:Int)<=16)=true:=by simp only [decide_eq_true_eq];omega
 generalize Z9 L.lines=S at *
 generalize (Zv L).length=np at *
 obtain ⟨W,hW,e0,h0,_⟩:=Uy w #[.slice A1 np c1,.slice A2 S.length c2,.slice A3 B.offs.length c3,.int .u64 B.next] 47
 have HW:=Lib.hid hW
 clear hW hk hx
 go_enter Tryz.func21,Tryz.ntmps21
 go_wp2_with fail
 refine cast (congrArg (fun X=>Code.wp _ _ _ _ X) HW.out.symm) ?_
 clear HW
 go_loopw [2,3,5,6,7,8,9,10,11,12,13,14,15,16,17,18,19,20,21,22,23,24,25,26,27,28,29,30,31,32,33,34,35,36,37,38,39,40,41,42,43,44,45,46,47,48,49,50,51] (fun _ iv _ _ _ _ _ _ _ _ _ _ _ _ _ _ _ _ _ _ _ _ _ _ _ _ _ _ _ _ _ _ _ _ _ _ _ _ _ _ _ _ _ _ _ _ _ _ _ wr=>∃k:Nat,k<=S.length/\iv= .int .i64 k/\Ext W wr) (fun _ iv _ _ _ _ _ _ _ _ _ _ _ _ _ _ _ _ _ _ _ _ _ _ _ _ _ _ _ _ _ _ _ _ _ _ _ _ _ _ _ _ _ _ _ _ _ _ _ _=>S.length-(intOf iv).toNat)
 case atStart=>exact ⟨0,Nat.zero_le _,rfl,Ext.refl _⟩
 obtain ⟨k,hkl,rfl,er⟩:=hrel
 have h1:=er.at h0
 have z1:=Za (j:=1) h1 rfl
 by_cases hkn:k<S.length
 ·rcases a4 with a4 | ⟨g,rfl,hb,hlt,hcell⟩
  ·omega
  have hj1:(0:Int)<=(k:Int):=by omega
  have hj2:(k:Int)<(S.length:Int):=by omega
  have q3:∀W2,Ext wr W2->W2.cell? ⟨g,k*5+3,none⟩=some (.int .i64 (S[k]'hkn).2.1):=fun W2 kk=>(Zh ((Xt e0 (Xt er kk)).block hlt)).trans (hcell _ _ (Zcf S k 3 hkn (by omega)))
  have q4:∀W2,Ext wr W2->W2.cell? ⟨g,k*5+4,none⟩=some (.int .i64 (S[k]'hkn).2.2):=fun W2 kk=>(Zh ((Xt e0 (Xt er kk)).block hlt)).trans (hcell _ _ (Zcf S k 4 hkn (by omega)))
  obtain ⟨n1,n2,n3,n4⟩:=hnum _ (List.getElem_mem hkn)
  generalize (S[k]'hkn).2.1=lim at *
  generalize (S[k]'hkn).2.2=dbt at *
  have f1:decide (dbt<0)=false:=by simp only [decide_eq_false_iff_not];omega
  have f2:decide (dbt > lim)=false:=by simp only [decide_eq_false_iff_not];omega
  have f3:decide (lim<1)=false:=by simp only [decide_eq_false_iff_not];omega
  have f4:decide (lim > 1099511627776)=false:=by simp only [decide_eq_false_iff_not];omega
  clear hcell a3 hnum hoff n1 n2 n3 n4 b4
  go_wp2_with fail
  refine Yc Zk [] (by kernel_rfl) (by kernel_rfl) ?_
  intro w1 hw1
  have y1:=fun u:ExtOf w1=>Za (j:=1) ((Xt hw1 u.h).at h1) rfl
  have y3:∀u:ExtOf w1,u.to.cell? ⟨g,k*5+3,none⟩=_:=fun u=>q3 u.to (Xt hw1 u.h)
  have y4:∀u:ExtOf w1,u.to.cell? ⟨g,k*5+4,none⟩=_:=fun u=>q4 u.to (Xt hw1 u.h)
  clear q3 q4
  simp only [Zj,Rg.hsB,Nat.reduceAdd,↓reduceIte]
  repeat (go_big_quiet_step (fail))
  refine wpQuiet_nil ?_
  refine Xs (by kernel_rfl) ?_
  intro w4 e4 e4'
  try simp only [Act.put,Rg.puC,Rg.puB]
  clear y1 y3 y4 hw1 f1 f2 f3 f4 z1
  go_wp2_with fail
  exact ⟨⟨k+1,by omega,by go_num,Xt er e4⟩,by simp [intOf];omega⟩
 have hk':k=S.length:=by omega
 subst hk'
 clear a4 a3 hnum hkn hkl
 go_wp2_with fail
 clear z1 h1
 go_loopw [2,4,52,53,54,55,56,57,58,59,60,61,62,63,64,65,66,67,68,69,70,71,72,73,74,75,76,77,78,79,80,81,82,83,84,85] (fun _ iv _ _ _ _ _ _ _ _ _ _ _ _ _ _ _ _ _ _ _ _ _ _ _ _ _ _ _ _ _ _ _ _ _ _ wr=>∃k:Nat,k<=B.offs.length/\iv= .int .i64 k/\Ext W wr) (fun _ iv _ _ _ _ _ _ _ _ _ _ _ _ _ _ _ _ _ _ _ _ _ _ _ _ _ _ _ _ _ _ _ _ _ _ _=>B.offs.length-(intOf iv).toNat)
 case atStart=>exact ⟨0,Nat.zero_le _,rfl,er⟩
 clear er
 obtain ⟨k,hkl,rfl,er⟩:=hrel
 have h1:=er.at h0
 have z2:=Za (j:=2) h1 rfl
 by_cases hkn:k<B.offs.length
 ·rcases b4 with b4 | ⟨g,rfl,hb,hlt,hcell⟩
  ·omega
  have hj1:(0:Int)<=(k:Int):=by omega
  have hj2:(k:Int)<(B.offs.length:Int):=by omega
  have q0:∀W2,Ext wr W2->W2.cell? ⟨g,k*7,none⟩=some (.int .u64 (B.offs[k]'hkn).seq):=fun W2 kk=>(Zh ((Xt e0 (Xt er kk)).block hlt)).trans (hcell _ _ (Yh B.offs k 0 hkn (by omega)))
  have q4:∀W2,Ext wr W2->W2.cell? ⟨g,k*7+4,none⟩=some (.int .i64 (B.offs[k]'hkn).left):=fun W2 kk=>(Zh ((Xt e0 (Xt er kk)).block hlt)).trans (hcell _ _ (Yh B.offs k 4 hkn (by omega)))
  obtain ⟨n1,n2,n3⟩:=hoff _ (List.getElem_mem hkn)
  generalize (B.offs[k]'hkn).seq=sq at *
  generalize (B.offs[k]'hkn).left=lf at *
  have f1:decide (lf<1)=false:=by simp only [decide_eq_false_iff_not];omega
  have f2:decide (sq>=B.next)=false:=by simp only [decide_eq_false_iff_not];omega
  have f3:decide (lf > 1099511627776)=false:=by simp only [decide_eq_false_iff_not];omega
  clear hcell b3 hoff n1 n2 n3
  go_wp2_with fail
  refine Yc Zk [] (by kernel_rfl) (by kernel_rfl) ?_
  intro w1 hw1
  have y2:=fun u:ExtOf w1=>Za (j:=2) ((Xt hw1 u.h).at h1) rfl
  have y3:=fun u:ExtOf w1=>Za (j:=3) ((Xt hw1 u.h).at h1) rfl
  have y0:∀u:ExtOf w1,u.to.cell? ⟨g,k*7,none⟩=_:=fun u=>q0 u.to (Xt hw1 u.h)
  have y4:∀u:ExtOf w1,u.to.cell? ⟨g,k*7+4,none⟩=_:=fun u=>q4 u.to (Xt hw1 u.h)
  clear q0 q4
  simp only [Zj,Rg.hsB,Nat.reduceAdd,↓reduceIte]
  repeat (go_big_quiet_step (fail))
  refine wpQuiet_nil ?_
  refine Xs (by kernel_rfl) ?_
  intro w4 e4 e4'
  try simp only [Act.put,Rg.puC,Rg.puB]
  clear y0 y2 y3 y4 hw1 f1 f2 f3 z2
  go_wp2_with fail
  exact ⟨⟨k+1,by omega,by go_num,Xt er e4⟩,by simp [intOf];omega⟩
 have hk':k=B.offs.length:=by omega
 subst hk'
 have z0:=Za (j:=0) h1 rfl
 have z1:=Za (j:=1) h1 rfl
 clear b4 b3 hoff hkn
 go_wp2_with fail
 go_ret
 exact ⟨rfl,Xt e0 er⟩
theorem FrA.kp {A:Nat->Prop} {w w':World} {S:List Nat} (k:FrA A w w') (h:∀x,A x->x∈S):Keep S w w':=⟨k.os,k.tape,k.output,k.size,fun i hi hn=>k.block i hi (fun ha=>hn (h i ha))⟩
theorem take_at {B:Bk} (hs:Uv B) {seq n:Int} {o:Off} (hf:Z2 B.offs seq=some o) (h1:1<=n) (h2:n<=o.left):
 Z2 (Vt B seq n).2.offs seq=(if o.left=n then none else some { o with left:=o.left-n }):=by
 rcases Zdf B.offs seq with ⟨_,h4⟩ | ⟨j,hj,h3,h4⟩
 ·rw [hf] at h4;cases h4
 have hoj:B.offs[j]'hj=o:=by rw [hf] at h4;injection h4 with h4;exact h4.symm
 have hoseq:=(Yu hf).2
 unfold Vt
 rw [hf,h3]
 simp only [Int.toNat_natCast]
 rw [if_neg (by omega)]
 have hnd:(B.offs.map Off.seq).Nodup:=hs
 rw [List.nodup_iff_pairwise_ne,List.pairwise_iff_getElem] at hnd
 by_cases hz:o.left=n
 ·rw [if_pos hz,if_pos hz]
  unfold Z2
  rw [List.find?_eq_none]
  intro x hx
  obtain ⟨i,hi,rfl⟩:=List.getElem_of_mem hx
  simp only [List.length_eraseIdx,if_pos hj] at hi
  rw [List.getElem_eraseIdx]
  simp only [beq_iff_eq]
  intro e
  split at e
  ·rename_i hij
   have:=hnd i j (by simp;omega) (by simpa using hj) hij
   simp only [List.getElem_map] at this
   exact this (by rw [e,hoj,hoseq])
  rename_i hij
  have:=hnd j (i+1) (by simpa using hj) (by simp;omega) (by omega)
  simp only [List.getElem_map] at this
  exact this (by rw [e,hoj,hoseq])
 rw [if_neg hz,if_neg hz]
 unfold Z2
 rw [List.find?_eq_some_iff_getElem]
 refine ⟨by simp [hoseq],j,by simpa using hj,by simp,fun i hi=> ?_⟩
 rw [List.getElem_set_ne (by omega)]
 have:=hnd i j (by simp;omega) (by simpa using hj) hi
 simp only [List.getElem_map] at this
 simp only [Bool.not_eq_true',beq_eq_false_iff_ne,ne_eq]
 intro e
 exact this (by rw [e,hoj,hoseq])
theorem take_le {B:Bk} (hs:Uv B) {seq n s:Int} (h1:1<=n) {o':Off} (h:Z2 (Vt B seq n).2.offs s=some o'):
 ∃o,Z2 B.offs s=some o/\o.owner=o'.owner/\o'.left<=o.left:=by
 have hm:=(Yu h).1
 have hq:=(Yu h).2
 have hin:∀o∈B.offs,o.seq=s->Z2 B.offs s=some o:=fun o ho e=>by rw [<-e];exact J2 hs ho
 unfold Vt at hm
 cases hf:Z2 B.offs seq with
 | none=>rw [hf] at hm;exact ⟨o',hin o' hm hq,rfl,Int.le_refl _⟩
 | some x=>
   rw [hf] at hm
   simp only at hm
   have hx:=Yu hf
   split at hm
   ·exact ⟨o',hin o' hm hq,rfl,Int.le_refl _⟩
   split at hm
   ·exact ⟨o',hin o' (List.mem_of_mem_eraseIdx hm) hq,rfl,Int.le_refl _⟩
   rcases List.mem_or_eq_of_mem_set hm with hm | rfl
   ·exact ⟨o',hin o' hm hq,rfl,Int.le_refl _⟩
   exact ⟨x,hin x hx.1 hq,rfl,by simp only;omega⟩
theorem Zoq {get give:Int} {falls:Bool} {s:Int}:∀{l:List Fl} {L:Led} {B:Bk} {n most:Int} {L':Led} {B':Bk},Uv B->Jc get give falls l L B n most L' B'->
 ∀{o':Off},Z2 B'.offs s=some o'->∃o,Z2 B.offs s=some o/\o.owner=o'.owner/\o'.left<=o.left
 | [],_,_,_,_,_,_,_,⟨_,h⟩,o',ho=>by rw [h];exact ⟨o',ho,rfl,Int.le_refl _⟩
 | g::l,L,B,_,_,_,_,hsn,⟨o,L1,B1,hst,hr⟩,o',ho=>by
   have hdo:=hst.fill.doo
   have hsn2:=Zbi (L:=L) hsn g.1 g.2.1 g.2.2.1 g.2.2.2.1
   rw [hdo] at hsn2
   obtain ⟨o1,h1,h2,h3⟩:=Zoq hsn2 hr ho
   rw [hst.fill.bk] at h1
   obtain ⟨o2,k1,k2,k3⟩:=take_le hsn hst.fill.fair.g1 h1
   exact ⟨o2,k1,k2.trans h2,Int.le_trans h3 k3⟩
theorem Zjq {get give:Int} {falls:Bool}:∀{l:List Fl} {L:Led} {B:Bk} {n most:Int} {L':Led} {B':Bk},Uv B->Jc get give falls l L B n most L' B'->
 ∀f∈l,∃o,Z2 B.offs f.1=some o/\∀o',Z2 B'.offs f.1=some o'->o'.left<o.left
 | [],_,_,_,_,_,_,_,_=>by simp
 | g::l,L,B,_,_,_,_,hsn,⟨o,L1,B1,hst,hr⟩=>by
   have hdo:=hst.fill.doo
   have hsn2:=Zbi (L:=L) hsn g.1 g.2.1 g.2.2.1 g.2.2.2.1
   rw [hdo] at hsn2
   intro f hf
   rcases List.mem_cons.1 hf with rfl | hf
   ·refine ⟨o,hst.fill.fnd,fun o' ho'=> ?_⟩
    obtain ⟨o1,h1,_,h3⟩:=Zoq hsn2 hr ho'
    have g1:=hst.fill.fair.g1
    have h4:=take_at hsn hst.fill.fnd g1 hst.fill.left
    rw [hst.fill.bk,h4] at h1
    split at h1
    ·cases h1
    injection h1 with h1
    subst h1
    simp only at h3
    omega
   obtain ⟨o1,h1,h2⟩:=Zjq hsn2 hr f hf
   rw [hst.fill.bk] at h1
   obtain ⟨o2,k1,_,k3⟩:=take_le hsn hst.fill.fair.g1 h1
   exact ⟨o2,k1,fun o' ho'=>Int.lt_of_lt_of_le (h2 o' ho') k3⟩
theorem Zlf {get give q c:Int} (h1:c≠get) (h2:c≠give) {falls:Bool}:∀{l:List Fl} {L:Led} {B:Bk} {n most:Int} {L':Led} {B':Bk},Jc get give falls l L B n most L' B'->Xp L' q c=Xp L q c
 | [],_,_,_,_,_,_,⟨h,_⟩=>by rw [h]
 | g::l,L,B,_,_,_,_,⟨o,L1,B1,hst,hr⟩=>by
   obtain ⟨j,hj,hjo,_⟩:=hst.best
   have hm:=Zdb (List.getElem_mem hj)
   rw [hjo] at hm
   rw [Zlf h1 h2 hr,hst.fill.pos q c,hm.2.1,hm.2.2]
   unfold mvP
   rw [if_neg h1,if_neg h2]
   omega
def Zkw (B' B:Bk) (p:Int):Prop:=∃o∈B.offs,o.owner=p/\∀o'∈B'.offs,o'.seq=o.seq->o'.left<o.left
theorem Zhb {get give fr to:Int} {falls:Bool} {l:List Fl} {L:Led} {B:Bk} {n most:Int} {L':Led} {B':Bk} (hsn:Uv B) (hsn':Uv B') (h:Jc get give falls l L B n most L' B') (hft:∀f∈l,f.2.1=fr/\f.2.2.1=to) {q c:Int}
 (hp:Xp L' q c≠Xp L q c):(q=fr\/q=to\/Zkw B' B q)/\(c=get\/c=give):=by
 refine ⟨?_,?_⟩
 ·by_cases h1:q=fr
  ·exact .inl h1
  by_cases h2:q=to
  ·exact .inr (.inl h2)
  refine .inr (.inr ?_)
  apply Classical.byContradiction
  intro hno
  refine hp (Zle (c:=c) h1 h2 hsn h hft fun f hf o ho e=>hno ?_)
  obtain ⟨o1,k1,k2⟩:=Zjq hsn h f hf
  have:o1=o:=by rw [ho] at k1;exact (Option.some.inj k1).symm
  subst this
  have hs:=(Yu ho).2
  exact ⟨o1,(Yu ho).1,e,fun o' ho' hs'=>k2 o' (by rw [<-hs,<-hs'];exact J2 hsn' ho')⟩
 by_cases h1:c=get
 ·exact .inl h1
 by_cases h2:c=give
 ·exact .inr h2
 exact absurd (Zlf h1 h2 h) hp
theorem Zo7 {L:Led} {B:Bk} {fr to get give n most:Int} (hk:MOk L B) (h0:(Y3 L B fr to get give n most).1=0) {q c:Int} (hp:Xp (Y3 L B fr to get give n most).2.1 q c≠Xp L q c):
 (q=fr\/q=to\/Zkw (Y3 L B fr to get give n most).2.2.1 B q)/\(c=get\/c=give):=by
 obtain ⟨h1,h2,_⟩:=Zd5 hk.wf hk.ok hk.sq.1 h0
 exact Zhb hk.sq.1 (Znj hk fr to get give n most).sq.1 h1 h2 hp
theorem Zq0 {L:Led} {B:Bk} {o:Off} (hk:MOk L B) (h0:(Vo L B o).1=0) {q c:Int} (hp:Xp (Vo L B o).2.2.1 q c≠Xp L q c):
 (q=o.owner\/Zkw (Vo L B o).2.2.2.1 B q)/\(c=o.buy\/c=o.sell):=by
 obtain ⟨B',left,hc⟩:=come_ok hk.wf hk.ok hk.sq h0
 obtain ⟨h1,h2⟩:=Zhb hk.sq.1 hc.seq.1 hc.chain hc.who hp
 refine ⟨?_,h2⟩
 rcases h1 with h1 | h1 | h1
 ·exact .inl h1
 ·exact .inl h1
 refine .inr ?_
 obtain ⟨x,hx,hxo,hxl⟩:=h1
 refine ⟨x,hx,hxo,fun o' ho' hs'=> ?_⟩
 rcases hc.fin with ⟨_,_,h3⟩ | ⟨_,_,h3,_⟩
 ·rw [h3] at ho';exact hxl o' ho' hs'
 rw [h3] at ho'
 rcases List.mem_append.1 ho' with ho' | ho'
 ·exact hxl o' ho' hs'
 simp at ho'
 subst ho'
 have:=hk.sq.2 x hx
 simp only at hs'
 omega
theorem Znc {L:Led} (hw:WF L) {a b c n:Int} (h0:(Uf L a b c n).1.2=0):WayP L (Uf L a b c n).2 a b c n/\Zek a b c n=false:=by
 unfold Uf at h0
 by_cases h1:Zek a b c n=true
 ·rw [if_pos h1] at h0;exact absurd h0 (by simp)
 rw [if_neg h1] at h0
 by_cases h2:(!(Yp L a&&Yp L b))=true
 ·rw [if_pos h2] at h0;exact absurd h0 (by simp)
 rw [if_neg h2] at h0
 have hb:Zek a b c n=false:=by simpa using h1
 have hh:Yp L a=true/\Yp L b=true:=by simpa using h2
 by_cases h3:(Y7 (ofR L c) a b n).2<n
 ·rw [if_pos h3] at h0;exact absurd h0 (by simp)
 have hn:1<=n/\n<=1099511627776:=by
  unfold Zek at hb
  simp only [Bool.not_eq_false',Bool.and_eq_true,decide_eq_true_eq] at hb
  omega
 have hr:=Zke (ofR L c) a b n (Zkq hw c) hn.1 (by omega)
 exact ⟨(Zpr hw a b c n hb hh.1 hh.2 (by omega)).2,hb⟩
def NB (d:Db):Prop:=0<=d.2.2.1/\0<=d.2.2.2/\d.2.2.1+d.2.2.2<=1099511627776
def Zgp (l:List Db) (s:Nat×Bool) (p q:Int):Prop:=
 ∃hk:s.1<l.length,if s.2 then (l[s.1]'hk).1=q/\(l[s.1]'hk).2.1=p/\0<(l[s.1]'hk).2.2.2 else (l[s.1]'hk).1=p/\(l[s.1]'hk).2.1=q/\0<(l[s.1]'hk).2.2.1
theorem Zm1 {p q:Int}:∀(l:List Db) (i:Nat) (r:Option (Nat×Bool)) (j:Nat) (b:Bool),Xh l i p q r=some (j,b)->r=some (j,b)\/∃k,j=i+k/\Zgp l (k,b) p q
 | [],i,r,j,b,h=>.inl h
 | d::l,i,r,j,b,h=>by
   unfold Xh at h
   split at h
   ·rename_i hc
    simp only [Option.some.injEq,Prod.mk.injEq] at h
    obtain ⟨rfl,rfl⟩:=h
    exact .inr ⟨0,rfl,by simp,by simpa using hc⟩
   have hrec:∀r',Xh l (i+1) p q r'=some (j,b)->r'=some (j,b)\/∃k,j=i+k/\Zgp (d::l) (k,b) p q:=fun r' h'=>by
    rcases Zm1 l (i+1) r' j b h' with h1 | ⟨k,rfl,hk,hs⟩
    ·exact .inl h1
    exact .inr ⟨k+1,by omega,by simpa using hk,by simpa using hs⟩
   split at h
   ·rename_i hc
    rcases hrec _ h with h1 | h1
    ·simp only [Option.some.injEq,Prod.mk.injEq] at h1
     obtain ⟨rfl,rfl⟩:=h1
     exact .inr ⟨0,rfl,by simp,by simpa using hc⟩
    exact .inr h1
   rcases hrec _ h with h1 | h1
   ·exact .inl h1
   exact .inr h1
theorem Zq1 {a:List Int} {x:Int} {l:List Int} (h:Coll a x l):l.Nodup:=by
 rw [List.nodup_iff_pairwise_ne,List.pairwise_iff_getElem]
 intro i j hi hj hij
 rw [h.at' i hi,h.at' j hj]
 exact h.nd i j hij hj
theorem Zlq {es:List Ed} (hok:EOk es):(X9 es).Nodup:=by
 unfold X9
 by_cases h:(Vk es 16 Zm Zm 0).2=0
 ·rw [if_pos h];exact List.nodup_nil
 rw [if_neg h]
 have hr:=Zmg hok h
 generalize Zx (Vk es 16 Zm Zm 0).1 16 (Vk es 16 Zm Zm 0).2=x at *
 generalize (Vk es 16 Zm Zm 0).1=a at *
 obtain ⟨h1,_⟩:=Zhz hr 17 [] (Zfg a x) rfl
 simp only [List.length_nil,Zx] at h1
 have hn:(Vy a 17 [] x).reverse.Nodup:=(List.reverse_perm _).nodup_iff.2 (Zq1 h1)
 generalize (Vy a 17 [] x).reverse=l at *
 unfold Zfx
 have hp:(l.drop (Zhk l (Ze0 l))++l.take (Zhk l (Ze0 l))).Perm l:=by
  have:=List.perm_append_comm (l₁:=l.drop (Zhk l (Ze0 l))) (l₂:=l.take (Zhk l (Ze0 l)))
  rwa [List.take_append_drop] at this
 exact hp.nodup_iff.2 hn
theorem Zes {l:List Db} {way:List Int} (hc:Cyc (Yq l) way) (i:Nat) (hi:i<way.length):
 ∃h:i<(Yg l way).length,Zgp l ((Yg l way)[i]'h) (way[i]'hi) (way[(i+1)%way.length]'(Nat.mod_lt _ (by omega))):=by
 have hlen:(Yg l way).length=way.length:=by unfold Yg;simp
 refine ⟨by omega,?_⟩
 obtain ⟨c,he⟩:=hc i hi
 have hm:(i+1)%way.length<way.length:=Nat.mod_lt _ (by omega)
 have e1:way.getD i 0=way[i]'hi:=by rw [List.getD_eq_getElem?_getD,List.getElem?_eq_getElem hi];rfl
 have e2:way.getD ((i+1)%way.length) 0=way[(i+1)%way.length]'hm:=by rw [List.getD_eq_getElem?_getD,List.getElem?_eq_getElem hm];rfl
 have hne:=Zd7 l 0 none he
 cases hs:Xh l 0 (way[i]'hi) (way[(i+1)%way.length]'hm) none with
 | none=>exact absurd hs hne
 | some jb=>
   obtain ⟨j,b⟩:=jb
   rcases Zm1 l 0 none j b hs with h1 | ⟨k,hk,h1⟩
   ·cases h1
   have hkj:k=j:=by omega
   subst hkj
   have:(Yg l way)[i]'(by omega)=(k,b):=by
    unfold Yg
    rw [List.getElem_map,List.getElem_range,e1,e2,hs]
    rfl
   rw [this]
   exact h1
theorem step_from {l:List Db} {s:Nat×Bool} {p q p' q':Int} (h:Zgp l s p q) (h':Zgp l s p' q'):p=p'/\q=q':=by
 obtain ⟨hk,h1⟩:=h
 obtain ⟨_,h2⟩:=h'
 split at h1
 ·rename_i hb
  rw [if_pos hb] at h2
  exact ⟨h1.2.1.symm.trans h2.2.1,h1.1.symm.trans h2.1⟩
 rename_i hb
 rw [if_neg hb] at h2
 exact ⟨h1.1.symm.trans h2.1,h1.2.1.symm.trans h2.2.1⟩
theorem Zm3 {l:List Db} {way:List Int} (hc:Cyc (Yq l) way) (hn:way.Nodup):(Yg l way).Nodup:=by
 have hlen:(Yg l way).length=way.length:=by unfold Yg;simp
 rw [List.nodup_iff_pairwise_ne,List.pairwise_iff_getElem] at hn ⊢
 intro i j hi hj hij e
 obtain ⟨_,h1⟩:=Zes hc i (by omega)
 obtain ⟨_,h2⟩:=Zes hc j (by omega)
 rw [e] at h1
 exact hn i j (by omega) (by omega) hij (step_from h1 h2).1
theorem Zlh (l:List Db):∀(ss:List (Nat×Bool)) (m:Int),ss.foldl (fun n s=>min n (Ul l s)) m<=m/\∀s∈ss,ss.foldl (fun n s=>min n (Ul l s)) m<=Ul l s
 | [],m=>⟨Int.le_refl _,fun s hs=>by simp at hs⟩
 | x::ss,m=>by
   obtain ⟨h1,h2⟩:=Zlh l ss (min m (Ul l x))
   refine ⟨by simp only [List.foldl_cons];omega,fun s hs=> ?_⟩
   simp only [List.foldl_cons]
   rcases List.mem_cons.1 hs with rfl | hs
   ·omega
   exact h2 s hs
theorem Zjt (l:List Db):∀(ss:List (Nat×Bool)) (m:Int),0<m->(∀s∈ss,0<Ul l s)->0<ss.foldl (fun n s=>min n (Ul l s)) m
 | [],_,h,_=>h
 | x::ss,m,h,hs=>by
   simp only [List.foldl_cons]
   have:=hs x (by simp)
   exact Zjt l ss _ (by omega) (fun s h'=>hs s (by simp [h']))
def owT (p:Int) (d:Db):Int:=(if d.2.1=p then d.2.2.1 else 0)-(if d.1=p then d.2.2.1 else 0)
def owL (p:Int) (l:List Db):Int:=Yr (l.map (owT p))
theorem Zmx (f:Db->Int):∀(l:List Db) (k:Nat) (hk:k<l.length) (y:Db),Yr ((l.set k y).map f)=Yr (l.map f)-f (l[k]'hk)+f y
 | [],k,hk,_=>by simp at hk
 | x::l,0,_,y=>by simp [Yr];omega
 | x::l,k+1,hk,y=>by
   have:=Zmx f l k (by simpa using hk) y
   simp only [List.set_cons_succ,List.map_cons,Yr,List.getElem_cons_succ,this]
   omega
structure RdI (l:List Db) (n:Int) (w0 wk:Int) (dn:List (Nat×Bool)) (m:List Db):Prop where
 len:m.length=l.length
 at':∀k (h:k<l.length),(m[k]'(by omega)).1=(l[k]'h).1/\(m[k]'(by omega)).2.1=(l[k]'h).2.1/\
  (m[k]'(by omega)).2.2.1=(l[k]'h).2.2.1-(if (k,false)∈dn then n else 0)+(if (k,true)∈dn then n else 0)/\
  (m[k]'(by omega)).2.2.2=(l[k]'h).2.2.2+(if (k,false)∈dn then n else 0)-(if (k,true)∈dn then n else 0)
 ow:∀p,owL p m=owL p l+(if w0=p then n else 0)-(if wk=p then n else 0)
theorem RdI.step {l:List Db} {n w0 p q:Int} {dn:List (Nat×Bool)} {m:List Db} (h:RdI l n w0 p dn m) (hb:∀d∈l,NB d) (h1:0<=n) (h2:n<=1099511627776) {s:Nat×Bool} (hs:Zgp l s p q) (hnew:s∉dn):
 RdI l n w0 q (dn++[s]) (goD n m s):=by
 obtain ⟨j,b⟩:=s
 obtain ⟨hk,hst⟩:=hs
 simp only at hk hst
 have hjm:j<m.length:=by rw [h.len];exact hk
 obtain ⟨a1,a2,a3,a4⟩:=h.at' j hk
 have hnb:=hb _ (List.getElem_mem hk)
 unfold NB at hnb
 have hget:m.getD j db0=m[j]'hjm:=by rw [List.getD_eq_getElem?_getD,List.getElem?_eq_getElem hjm];rfl
 have hx1:(if (j,false)∈dn then n else 0)=0\/(if (j,false)∈dn then n else 0)=n:=by split<;>simp
 have hx2:(if (j,true)∈dn then n else 0)=0\/(if (j,true)∈dn then n else 0)=n:=by split<;>simp
 unfold goD
 rw [hget]
 simp only
 have hd:addD (m[j]'hjm) (if b then wrap64 (-n) else n)=((m[j]'hjm).1,(m[j]'hjm).2.1,(m[j]'hjm).2.2.1-(if b then -n else n),(m[j]'hjm).2.2.2+(if b then -n else n)):=by
  unfold addD
  have e:(if b then wrap64 (-n) else n)=if b then -n else n:=by split;unfold wrap64;omega;rfl
  rw [e]
  have:(if b then -n else n)=n\/(if b then -n else n)= -n:=by split<;>simp
  have e1:wrap64 ((m[j]'hjm).2.2.1-(if b then -n else n))=(m[j]'hjm).2.2.1-(if b then -n else n):=by unfold wrap64;omega
  have e2:wrap64 ((m[j]'hjm).2.2.2+(if b then -n else n))=(m[j]'hjm).2.2.2+(if b then -n else n):=by unfold wrap64;omega
  rw [e1,e2]
 rw [hd]
 refine ⟨by simp [h.len],fun k hk2=> ?_,fun p'=> ?_⟩
 ·by_cases hkj:j=k
  ·subst hkj
   simp only [List.getElem_set_self]
   refine ⟨a1,a2,?_,?_⟩
   ·rw [a3]
    cases b with
    | true=>simp [List.mem_append];rw [if_neg hnew];omega
    | false=>simp [List.mem_append];rw [if_neg hnew];omega
   rw [a4]
   cases b with
   | true=>simp [List.mem_append];rw [if_neg hnew];omega
   | false=>simp [List.mem_append];rw [if_neg hnew];omega
  have hm1:∀c,((k,c)∈dn++[(j,b)])=((k,c)∈dn):=fun c=>by
   have:((k,c):Nat×Bool)≠(j,b):=fun e=>hkj (by injection e with e1 _;exact e1.symm)
   simp [this]
  simp only [List.getElem_set_ne hkj,hm1]
  exact h.at' k hk2
 have e2:=h.ow p'
 unfold owL at e2 ⊢
 rw [Zmx _ m j hjm,e2]
 generalize Yr (l.map (owT p'))=z
 unfold owT
 simp only [a1,a2]
 cases b with
 | true=>
   simp only [if_true] at hst ⊢
   rw [hst.1,hst.2.1]
   split<;>split<;>split<;>omega
 | false=>
   simp only [Bool.false_eq_true,if_false] at hst ⊢
   rw [hst.1,hst.2.1]
   split<;>split<;>split<;>omega
theorem fold_ri {l:List Db} {way:List Int} {n:Int} (hc:Cyc (Yq l) way) (hn:way.Nodup) (hb:∀d∈l,NB d) (h1:0<=n) (h2:n<=1099511627776) (hw:0<way.length):
 ∀k,k<=way.length->RdI l n (way[0]'hw) (way[k%way.length]'(Nat.mod_lt _ hw)) ((Yg l way).take k) (((Yg l way).take k).foldl (goD n) l)
 | 0,_=>⟨rfl,fun k h=>by simp,fun p=>by simp only [Nat.zero_mod,List.take_zero,List.foldl_nil];omega⟩
 | k+1,hk=>by
   have ih:=fold_ri hc hn hb h1 h2 hw k (by omega)
   obtain ⟨hlk,hst⟩:=Zes hc k (by omega)
   have hnd:=Zm3 hc hn
   have hnew:(Yg l way)[k]'hlk∉(Yg l way).take k:=fun hm=>by
    obtain ⟨j,hj,he⟩:=List.getElem_of_mem hm
    simp at hj
    rw [List.getElem_take] at he
    rw [List.nodup_iff_pairwise_ne,List.pairwise_iff_getElem] at hnd
    exact hnd j k (by omega) hlk (by omega) he
   have hmod:k%way.length=k:=Nat.mod_eq_of_lt (by omega)
   have e1:way[k%way.length]'(Nat.mod_lt _ hw)=way[k]'(by omega):=by congr 1
   rw [e1] at ih
   have:=ih.step hb h1 h2 hst hnew
   rw [List.take_succ_eq_append_getElem hlk,List.foldl_append]
   exact this
structure Nx (l0 l:List Db):Prop where
 len:l.length=l0.length
 at':∀k (h:k<l0.length),(l[k]'(by omega)).1=(l0[k]'h).1/\(l[k]'(by omega)).2.1=(l0[k]'h).2.1/\(l[k]'(by omega)).2.2.1+(l[k]'(by omega)).2.2.2=(l0[k]'h).2.2.1+(l0[k]'h).2.2.2
 nb:∀d∈l,NB d
 ow:∀p,owL p l=owL p l0
theorem Nx.trans {a b c:List Db} (h:Nx a b) (k:Nx b c):Nx a c:=
 ⟨k.len.trans h.len,fun i hi=>by
  obtain ⟨x1,x2,x3⟩:=h.at' i hi
  obtain ⟨y1,y2,y3⟩:=k.at' i (by rw [h.len];exact hi)
  exact ⟨y1.trans x1,y2.trans x2,y3.trans x3⟩,k.nb,fun p=>(k.ow p).trans (h.ow p)⟩
theorem round_nx {l:List Db} (hE:Zj4 l) (hb:∀d∈l,NB d):Nx l (Zah l (X9 (Yq l))):=by
 have hok:=ends_ok hE
 have hc:=(Zkf hok).1
 have hn:=Zlq hok
 generalize X9 (Yq l)=way at *
 unfold Zah
 rcases Nat.eq_zero_or_pos way.length with hz | hw
 ·have:way=[]:=List.eq_nil_of_length_eq_zero hz
  subst this
  exact ⟨rfl,fun k h=>⟨rfl,rfl,rfl⟩,hb,fun p=>rfl⟩
 have hsl:(Yg l way).length=way.length:=by unfold Yg;simp
 have hm:=Zlh l (Yg l way) 1099511627776
 have hpos:∀s∈Yg l way,0<Ul l s:=fun s hs=>by
  obtain ⟨i,hi,rfl⟩:=List.getElem_of_mem hs
  obtain ⟨_,hk,h2⟩:=Zes hc i (by omega)
  unfold Ul
  rw [List.getD_eq_getElem?_getD,List.getElem?_eq_getElem hk]
  simp only [Option.getD_some]
  split
  ·rename_i hbb;rw [if_pos hbb] at h2;exact h2.2.2
  rename_i hbb;rw [if_neg hbb] at h2;exact h2.2.2
 have hp:=Zjt l (Yg l way) 1099511627776 (by omega) hpos
 have hn0:Zbt l (Yg l way)=(Yg l way).foldl (fun n s=>min n (Ul l s)) 1099511627776:=rfl
 rw [<-hn0] at hm hp
 generalize Zbt l (Yg l way)=n at *
 have hf:=fold_ri hc hn hb (by omega) hm.1 hw way.length (Nat.le_refl _)
 rw [List.take_of_length_le (by omega)] at hf
 have e0:way[way.length%way.length]'(Nat.mod_lt _ hw)=way[0]'hw:=by congr 1;exact Nat.mod_self _
 rw [e0] at hf
 generalize (Yg l way).foldl (goD n) l=m at *
 have hcase:∀k (h:k<l.length),(m[k]'(by rw [hf.len];exact h)).2.2.1+(m[k]'(by rw [hf.len];exact h)).2.2.2=(l[k]'h).2.2.1+(l[k]'h).2.2.2/\NB (m[k]'(by rw [hf.len];exact h)):=fun k h=>by
  obtain ⟨_,_,a3,a4⟩:=hf.at' k h
  have hnb:=hb _ (List.getElem_mem h)
  have hg:l.getD k db0=l[k]'h:=by rw [List.getD_eq_getElem?_getD,List.getElem?_eq_getElem h];rfl
  have hA:(if (k,false)∈Yg l way then n else 0)=0\/((if (k,false)∈Yg l way then n else 0)=n/\n<=(l[k]'h).2.2.1):=by
   split
   ·rename_i hin
    have:=hm.2 _ hin
    unfold Ul at this
    simp only [Bool.false_eq_true,if_false,hg] at this
    exact .inr ⟨rfl,this⟩
   exact .inl rfl
  have hB:(if (k,true)∈Yg l way then n else 0)=0\/((if (k,true)∈Yg l way then n else 0)=n/\n<=(l[k]'h).2.2.2):=by
   split
   ·rename_i hin
    have:=hm.2 _ hin
    unfold Ul at this
    simp only [if_true,hg] at this
    exact .inr ⟨rfl,this⟩
   exact .inl rfl
  unfold NB at hnb ⊢
  omega
 refine ⟨hf.len,fun k h=>⟨(hf.at' k h).1,(hf.at' k h).2.1,(hcase k h).1⟩,fun d hd=> ?_,fun p=> ?_⟩
 ·obtain ⟨k,hk,rfl⟩:=List.getElem_of_mem hd
  exact (hcase k (by rw [<-hf.len];exact hk)).2
 have:=hf.ow p
 omega
theorem Znw (quota:Int):∀(f:Nat) (l:List Db) (many:Int),Zj4 l->(∀d∈l,NB d)->many<=quota->(Y0 quota f l many).1=0->
 Nx l (Y0 quota f l many).2.1/\many<=(Y0 quota f l many).2.2/\(Y0 quota f l many).2.2<=quota
 | 0,l,many,_,_,_,h=>by simp [Y0] at h
 | f+1,l,many,hE,hb,hq,h=>by
   unfold Y0 at h ⊢
   by_cases h1:X9 (Yq l)=[]
   ·rw [if_pos h1]
    exact ⟨⟨rfl,fun k h=>⟨rfl,rfl,rfl⟩,hb,fun p=>rfl⟩,Int.le_refl _,hq⟩
   rw [if_neg h1] at h ⊢
   by_cases h2:many=quota
   ·rw [if_pos h2] at h;simp at h
   rw [if_neg h2] at h ⊢
   have hr:=round_nx hE hb
   obtain ⟨k1,k2,k3⟩:=Znw quota f _ (many+1) (Zjj hE _).1 hr.nb (by omega) h
   exact ⟨hr.trans k1,by omega,k3⟩
def Zqo (x:Fw):Int×Int:=(x.1,x.2.1)
theorem Zqz {L:Led} (hk:(L.lines.map (·.1)).Nodup) (c:Int):((Xe L c).map Zqo).Nodup:=by
 have hp:(Xe L c).Perm ((Z9 L.lines).filterMap (Zbf c)):=Xd _ _
 rw [(hp.map Zqo).nodup_iff]
 have hk2:((Z9 L.lines).map (·.1)).Nodup:=((Uz L.lines).map _).nodup_iff.2 hk
 generalize Z9 L.lines=S at *
 clear hp
 induction S with
 | nil=>simp
 | cons a S ih=>
   rw [List.map_cons,List.nodup_cons] at hk2
   have h2:=ih hk2.2
   rw [List.filterMap_cons]
   cases hd:Zbf c a with
   | none=>exact h2
   | some x=>
     simp only [List.map_cons,List.nodup_cons]
     refine ⟨fun hm=> ?_,h2⟩
     obtain ⟨y,hy,he⟩:=List.mem_map.1 hm
     obtain ⟨b,hb,hyb⟩:=List.mem_filterMap.1 hy
     unfold Zbf at hd hyb
     split at hd
     ·split at hyb
      ·rename_i g1 g2
       injection hd with hd
       injection hyb with hyb
       subst hd hyb
       unfold Zqo at he
       simp only [Prod.mk.injEq] at he
       have:b.1=a.1:=by
        obtain ⟨⟨a1,a2,a3⟩,a4⟩:=a
        obtain ⟨⟨b1,b2,b3⟩,b4⟩:=b
        simp only at *
        rw [he.1,he.2,g1.1,g2.1]
       exact hk2.1 (by rw [<-this];exact List.mem_map_of_mem hb)
      cases hyb
     cases hd
theorem Zom {L:Led} (hk:(L.lines.map (·.1)).Nodup) {c:Int} {x:Fw} (hx:x∈Xe L c):∃lim,lkO L.lines (x.2.1,x.1,c)=some (lim,x.2.2)/\0<x.2.2:=by
 have hp:(Xe L c).Perm ((Z9 L.lines).filterMap (Zbf c)):=Xd _ _
 obtain ⟨a,ha,hd⟩:=List.mem_filterMap.1 (hp.mem_iff.1 hx)
 have hm:=Ur.1 ha
 unfold Zbf at hd
 split at hd
 ·rename_i g
  injection hd with hd
  subst hd
  obtain ⟨⟨a1,a2,a3⟩,a4,a5⟩:=a
  simp only at *
  refine ⟨a4,?_,g.2⟩
  rw [Zix hk,<-g.1]
  exact hm
 cases hd
def gnT (p:Int) (x:Fw) (n:Int):Int:=(if x.1=p then n else 0)-(if x.2.1=p then n else 0)
def gnL (left:List Fw) (p:Int) (l:List Fw):Int:=Yr (l.map fun x=>gnT p x (leftOf left x))
theorem Zlu {left:List Fw} {c:Int}:∀{l:List Fw} {L:Led} {g:Int},(l.map Zqo).Nodup->(∀x∈l,x.1≠x.2.1/\0<=leftOf left x/\leftOf left x<=x.2.2/\∃lim,lkO L.lines (x.2.1,x.1,c)=some (lim,x.2.2))->
 ∀p c',Xp (V5 left c l L g).1 p c'=Xp L p c'+(if c'=c then gnL left p l else 0)
 | [],L,g,_,_,p,c'=>by unfold V5 gnL;simp [Yr]
 | x::l,L,g,hn,h,p,c'=>by
   rw [List.map_cons,List.nodup_cons] at hn
   obtain ⟨hne,h0,h1,lim,hl⟩:=h x (by simp)
   have hrest:=fun y (hy:y∈l)=>h y (by simp [hy])
   have hgl:gnL left p (x::l)=gnT p x (leftOf left x)+gnL left p l:=by unfold gnL;simp [Yr]
   rw [hgl]
   unfold V5
   generalize leftOf left x=n at *
   by_cases hz:0<n
   ·rw [if_pos hz]
    have hf:V9 L x.2.1 x.1 c n=(0,{ L with lines:=Uk L.lines (x.2.1,x.1,c) (-n) }):=by
     unfold V9
     rw [if_neg (by omega),hl]
     simp only
     rw [if_neg (by omega)]
    rw [hf]
    simp only
    have hlk:∀y∈l,lkO (Uk L.lines (x.2.1,x.1,c) (-n)) (y.2.1,y.1,c)=lkO L.lines (y.2.1,y.1,c):=fun y hy=>by
     unfold Uk
     rw [if_neg (by omega),lkO_upd,if_neg]
     intro e
     simp only [Prod.mk.injEq] at e
     refine hn.1 (List.mem_map.2 ⟨y,hy,?_⟩)
     unfold Zqo
     rw [e.1,e.2.1]
    have ih:=Zlu (left:=left) (c:=c) (l:=l) (L:={ L with lines:=Uk L.lines (x.2.1,x.1,c) (-n) }) (g:=wrap64 (g+n)) hn.2 (fun y hy=>by
     obtain ⟨y1,y2,y3,ly,hy4⟩:=hrest y hy
     exact ⟨y1,y2,y3,ly,(hlk y hy).trans hy4⟩) p c'
    rw [ih]
    have hp:Xp { L with lines:=Uk L.lines (x.2.1,x.1,c) (-n) } p c'=Xp L p c'+U0 p c' ((x.2.1,x.1,c),(0,-n)):=Zip L.lines (x.2.1,x.1,c) (-n) p c'
    rw [hp]
    unfold U0 gnT
    simp only
    by_cases hc:c'=c
    ·subst hc
     simp only [if_true]
     by_cases e1:x.2.1=p
     ·have e2:¬x.1=p:=fun e=>hne (e.trans e1.symm)
      simp [e1,e2]
      omega
     by_cases e2:x.1=p
     ·simp [e1,e2]
      omega
     simp [e1,e2]
    rw [if_neg hc,if_neg (fun e=>hc e.symm),if_neg hc]
    omega
   rw [if_neg hz]
   have hn0:n=0:=by omega
   rw [Zlu hn.2 hrest p c',hn0]
   unfold gnT
   simp
def Vj (D:List Db):List Fw:=(D.filter fun d=>decide (0<d.2.2.1)).map (fun d=>(d.1,d.2.1,d.2.2.1))
theorem Zp6 (x:Fw):∀(D:List Db),(∀d∈D,¬(d.1=x.1/\d.2.1=x.2.1))->(Vj D).find? (fun y=>y.1==x.1&&y.2.1==x.2.1)=none:=fun D h=>by
 rw [List.find?_eq_none]
 intro y hy
 unfold Vj at hy
 obtain ⟨d,hd,rfl⟩:=List.mem_map.1 hy
 have:=h d (List.mem_filter.1 hd).1
 simpa using this
theorem left_at {x:Fw}:∀{D:List Db},(D.map fun d=>(d.1,d.2.1)).Nodup->∀{d:Db},d∈D->d.1=x.1->d.2.1=x.2.1->NB d->d.2.2.1+d.2.2.2=x.2.2->leftOf (Vj D) x=x.2.2-d.2.2.1
 | [],_,d,hd,_,_,_,_=>by simp at hd
 | e::D,hn,d,hd,h1,h2,hb,hs=>by
   rw [List.map_cons,List.nodup_cons] at hn
   unfold NB at hb
   by_cases hk:e.1=x.1/\e.2.1=x.2.1
   ·have hde:d=e:=by
     rcases List.mem_cons.1 hd with hd | hd
     ·exact hd
     refine absurd (List.mem_map.2 ⟨d,hd,?_⟩) hn.1
     rw [h1,h2,hk.1,hk.2]
    subst hde
    unfold leftOf
    by_cases hz:0<d.2.2.1
    ·have e0:Vj (d::D)=(d.1,d.2.1,d.2.2.1)::Vj D:=by unfold Vj;rw [List.filter_cons_of_pos (by simpa using hz)];rfl
     rw [e0,List.find?_cons_of_pos (by simp [h1,h2])]
     simp only
     unfold wrap64
     omega
    have e0:Vj (d::D)=Vj D:=by unfold Vj;rw [List.filter_cons_of_neg (by simpa using hz)]
    rw [e0,Zp6 x D (fun y hy hyk=>hn.1 (List.mem_map.2 ⟨y,hy,by rw [hyk.1,hyk.2,h1,h2]⟩))]
    simp only
    omega
   have hd':d∈D:=by
    rcases List.mem_cons.1 hd with hd | hd
    ·subst hd;exact absurd ⟨h1,h2⟩ hk
    exact hd
   have ih:=left_at (x:=x) hn.2 hd' h1 h2 hb hs
   unfold leftOf at ih ⊢
   by_cases hz:0<e.2.2.1
   ·have e0:Vj (e::D)=(e.1,e.2.1,e.2.2.1)::Vj D:=by unfold Vj;rw [List.filter_cons_of_pos (by simpa using hz)];rfl
    rw [e0,List.find?_cons_of_neg (by simpa using hk)]
    exact ih
   have e0:Vj (e::D)=Vj D:=by unfold Vj;rw [List.filter_cons_of_neg (by simpa using hz)]
   rw [e0]
   exact ih
def Jk (l:List Fw):List Db:=l.map fun x=>(x.1,x.2.1,x.2.2,0)
theorem Zn4 (p:Int) (G:Fw->Int):∀(l:List Fw) (D:List Db),D.length=l.length->(∀k (h:k<l.length) (h':k<D.length),(D[k]'h').1=(l[k]'h).1/\(D[k]'h').2.1=(l[k]'h).2.1/\G (l[k]'h)=(l[k]'h).2.2-(D[k]'h').2.2.1)->
 Yr (l.map fun x=>gnT p x (G x))=owL p D-owL p (Jk l)
 | [],D,hl,_=>by
   have:D=[]:=List.eq_nil_of_length_eq_zero (by simpa using hl)
   subst this
   simp [Yr,owL,Jk]
 | x::l,[],hl,_=>by simp at hl
 | x::l,d::D,hl,h=>by
   have ih:=Zn4 p G l D (by simpa using hl) (fun k hk hk'=>by
    have h5:=h (k+1) (by simpa using hk) (by simpa using hk')
    simp only [List.getElem_cons_succ] at h5
    exact h5)
   obtain ⟨h1,h2,h3⟩:=h 0 (by simp) (by simp)
   simp only [List.getElem_cons_zero] at h1 h2 h3
   unfold owL Jk at ih ⊢
   simp only [List.map_cons,Yr] at ih ⊢
   rw [ih,h3]
   unfold gnT owT
   simp only
   rw [h1,h2]
   split<;>split<;>omega
theorem Zis {left:List Fw} {c:Int}:∀{l:List Fw} {L:Led} {g:Int},(∀x∈l,leftOf left x<=1099511627776)->0<=g->g+1099511627776*(l.length:Int)<=4611686018427387904->0<=(V5 left c l L g).2
 | [],_,_,_,h,_=>h
 | x::l,L,g,hx,h,hb=>by
   have h1:=hx x (by simp)
   simp only [List.length_cons] at hb
   unfold V5
   generalize leftOf left x=n at *
   split
   ·have e:wrap64 (g+n)=g+n:=by unfold wrap64;omega
    rw [e]
    exact Zis (fun y hy=>hx y (by simp [hy])) (by omega) (by omega)
   exact Zis (fun y hy=>hx y (by simp [hy])) h (by omega)
theorem Znh {L:Led} (hw:WF L) (hk:(L.lines.map (·.1)).Nodup) {c quota:Int} (h0:(Jd L c quota).2.2.1=0):
 (∀p c',Xp (Jd L c quota).2.2.2 p c'=Xp L p c')/\0<=(Jd L c quota).1/\0<=(Jd L c quota).2.1/\(Jd L c quota).2.1<=max quota 0:=by
 unfold Jd at h0 ⊢
 by_cases hc:c<1\/8<c
 ·rw [if_pos hc] at h0;simp at h0
 rw [if_neg hc] at h0 ⊢
 by_cases he:(Yy (Xe L c) quota).1≠0
 ·rw [if_pos he] at h0;exact absurd h0 he
 rw [if_neg he]
 have hkeys:=Zqz hk c
 have hln:=fun x hx=>Zom (L:=L) hk (c:=c) (x:=x) hx
 have hlen:(Xe L c).length<=64:=by
  have h1:(Xe L c).length=((Z9 L.lines).filterMap (Zbf c)).length:=(Xd _ _).length_eq
  have h2:=List.length_filterMap_le (Zbf c) (Z9 L.lines)
  have h3:=Vq L.lines
  have h4:=hw.few
  omega
 generalize Xe L c=l at *
 unfold Yy at he ⊢
 by_cases hm:Zb1 l=false\/quota<0
 ·rw [if_pos hm] at he;simp at he
 rw [if_neg hm] at he ⊢
 have hst:(l.map fun x=>(x.1,x.2.1,x.2.2,(0:Int)))=Jk l:=rfl
 rw [hst] at he ⊢
 by_cases hg:(Y0 quota (quota.toNat+1) (Jk l) 0).1≠0
 ·rw [if_pos hg] at he;simp at he
 rw [if_neg hg]
 have hmay:Zb1 l=true:=by cases hq:Zb1 l with | true=>rfl | false=>exact absurd (.inl hq) hm
 have hall:=Zf5 hmay
 have hok:∀x∈l,1<=x.1/\x.1<=16/\1<=x.2.1/\x.2.1<=16/\x.1≠x.2.1/\1<=x.2.2/\x.2.2<=1099511627776:=fun x hx=>by
  have:=hall x hx
  unfold Zjc at this
  simpa using this
 have hE:Zj4 (Jk l):=fun d hd=>by
  obtain ⟨x,hx,rfl⟩:=List.mem_map.1 hd
  have:=hok x hx
  exact ⟨this.1,this.2.1,this.2.2.1,this.2.2.2.1,this.2.2.2.2.1⟩
 have hb:∀d∈Jk l,NB d:=fun d hd=>by
  obtain ⟨x,hx,rfl⟩:=List.mem_map.1 hd
  have:=hok x hx
  unfold NB
  simp only
  omega
 obtain ⟨hnx,hc1,hc2⟩:=Znw quota (quota.toNat+1) (Jk l) 0 hE hb (by omega) (by simpa using hg)
 generalize hD:(Y0 quota (quota.toNat+1) (Jk l) 0).2.1=D at *
 generalize (Y0 quota (quota.toNat+1) (Jk l) 0).2.2=cnt at *
 simp only
 rw [show (D.filter fun d=>decide (0<d.2.2.1)).map (fun d=>(d.1,d.2.1,d.2.2.1))=Vj D from rfl]
 have hsl:(Jk l).length=l.length:=by unfold Jk;simp
 have hDl:D.length=l.length:=hnx.len.trans hsl
 have hat:∀k (h:k<l.length) (h':k<D.length),(D[k]'h').1=(l[k]'h).1/\(D[k]'h').2.1=(l[k]'h).2.1/\(D[k]'h').2.2.1+(D[k]'h').2.2.2=(l[k]'h).2.2:=fun k h h'=>by
  obtain ⟨a1,a2,a3⟩:=hnx.at' k (by omega)
  unfold Jk at a1 a2 a3
  simp only [List.getElem_map] at a1 a2 a3
  exact ⟨a1,a2,by omega⟩
 have hDk:(D.map fun d=>(d.1,d.2.1)).Nodup:=by
  have:(D.map fun d=>(d.1,d.2.1))=l.map Zqo:=by
   refine List.ext_getElem (by simp [hDl]) fun k h1 h2=> ?_
   simp only [List.getElem_map]
   obtain ⟨a1,a2,_⟩:=hat k (by simpa using h2) (by simpa using h1)
   unfold Zqo
   rw [a1,a2]
  rw [this]
  exact hkeys
 have hG:∀k (h:k<l.length) (h':k<D.length),leftOf (Vj D) (l[k]'h)=(l[k]'h).2.2-(D[k]'h').2.2.1:=fun k h h'=>by
  obtain ⟨a1,a2,a3⟩:=hat k h h'
  exact left_at hDk (List.getElem_mem h') a1 a2 (hnx.nb _ (List.getElem_mem h')) a3
 have hbd:∀x∈l,0<=leftOf (Vj D) x/\leftOf (Vj D) x<=x.2.2:=fun x hx=>by
  obtain ⟨k,hk,rfl⟩:=List.getElem_of_mem hx
  have hk':k<D.length:=by omega
  have h1:=hG k hk hk'
  obtain ⟨_,_,a3⟩:=hat k hk hk'
  have hnb:=hnx.nb _ (List.getElem_mem hk')
  unfold NB at hnb
  omega
 refine ⟨fun p c'=> ?_,?_,hc1,by omega⟩
 ·rw [Zlu hkeys (fun x hx=>⟨(hok x hx).2.2.2.2.1,(hbd x hx).1,(hbd x hx).2,(hln x hx).imp fun _ h=>h.1⟩) p c']
  have hs:=Zn4 p (leftOf (Vj D)) l D hDl (fun k h h'=>⟨(hat k h h').1,(hat k h h').2.1,hG k h h'⟩)
  have ho:=hnx.ow p
  unfold gnL
  rw [hs,ho]
  split<;>omega
 exact Zis (fun x hx=>by have:=(hbd x hx).2;have:=(hok x hx).2.2.2.2.2.2;omega) (by omega) (by omega)
theorem Zm9 {k:K3} (p c:Int):∀{l:Zw},(l.map (·.1)).Nodup->Uj (del l k) p c=Uj l p c-U0 p c (k,lk l k)
 | [],_=>by unfold del Uj;simp [Yr,lk,lkO,Zc3]
 | x::xs,hn=>by
   rw [List.map_cons,List.nodup_cons] at hn
   unfold del
   rw [lk_cons]
   by_cases hx:x.1==k
   ·have hx':x.1=k:=by simpa using hx
    rw [if_pos hx,if_pos hx]
    unfold Uj
    simp only [List.map_cons,Yr]
    have:(k,x.2)=x:=by rw [<-hx']
    rw [this]
    omega
   rw [if_neg hx,if_neg hx]
   have ih:=Zm9 (k:=k) p c hn.2
   unfold Uj at ih ⊢
   simp only [List.map_cons,Yr,ih]
   omega
theorem trust_pos {L:Led} (hn:(L.lines.map (·.1)).Nodup) (hw:WF L) {a b c n:Int} (h0:(Xn L a b c n).1=0) (p c':Int):Xp (Xn L a b c n).2 p c'=Xp L p c':=by
 unfold Xn at h0 ⊢
 split at h0
 ·simp at h0
 rename_i g1
 rw [if_neg g1]
 split at h0
 ·simp at h0
 rename_i g2
 rw [if_neg g2]
 split at h0
 ·simp at h0
 rename_i g3
 rw [if_neg g3]
 split at h0
 ·simp at h0
 rename_i g4
 rw [if_neg g4]
 have hb:=hw.lk (a,b,c)
 split
 ·rename_i g5
  unfold Xp
  simp only
  rw [Zm9 p c' hn]
  have h2:(lk L.lines (a,b,c)).2=0:=by omega
  have h3:lk L.lines (a,b,c)=((lk L.lines (a,b,c)).1,0):=by rw [<-h2]
  rw [h3,Zc3]
  omega
 unfold Xp
 simp only
 rw [Zin]
 have h3:U0 p c' ((a,b,c),(n,(lk L.lines (a,b,c)).2))=U0 p c' ((a,b,c),lk L.lines (a,b,c)):=Zm8 p c' (a,b,c) n (lk L.lines (a,b,c)).1 (lk L.lines (a,b,c)).2
 rw [h3]
 omega
structure MvOk (s:Stp) (L:Led) (B:Bk) (L':Led) (B':Bk) (q c:Int):Prop where
 kind:s.kd=3\/s.kd=4\/s.kd=5
 part:q=s.pa\/(s.kd≠5/\q=s.pb)\/(s.kd≠3/\Zkw B' B q)
 cur:(s.kd=3->c=s.ca)/\(c=s.ca\/c=s.cb)
theorem Zpa {L:Led} {B:Bk} (hk:MOk L B) (hn:(L.lines.map (·.1)).Nodup) {s:Stp} (h0:(Z8 s L B).2.1=0) {q c:Int} (hp:Xp (Z8 s L B).2.2.1 q c≠Xp L q c):
 MvOk s L B (Z8 s L B).2.2.1 (Z8 s L B).2.2.2 q c:=by
 unfold Z8 at h0 hp ⊢
 by_cases k1:s.kd=1
 ·rw [if_pos k1] at hp
  refine absurd ?_ hp
  unfold J7
  split
  ·split<;>rfl
  rfl
 rw [if_neg k1] at h0 hp ⊢
 by_cases k2:s.kd=2
 ·rw [if_pos k2] at h0 hp
  exact absurd (trust_pos hn hk.wf h0 q c) hp
 rw [if_neg k2] at h0 hp ⊢
 by_cases k3:s.kd=3
 ·rw [if_pos k3] at h0 hp ⊢
  have hw:=(Znc hk.wf h0).1.pos q c
  simp only at hp
  rw [hw] at hp
  unfold mvP at hp
  refine ⟨.inl k3,?_,?_⟩
  ·by_cases e1:q=s.pa
   ·exact .inl e1
   by_cases e2:q=s.pb
   ·exact .inr (.inl ⟨by omega,e2⟩)
   exfalso
   rw [if_neg e1,if_neg e2] at hp
   split at hp<;>omega
  by_cases e1:c=s.ca
  ·exact ⟨fun _=>e1,.inl e1⟩
  rw [if_neg e1] at hp
  omega
 rw [if_neg k3] at h0 hp ⊢
 by_cases k4:s.kd=4
 ·rw [if_pos k4] at h0 hp ⊢
  obtain ⟨h1,h2⟩:=Zo7 hk h0 hp
  refine ⟨.inr (.inl k4),?_,fun e=>absurd e k3,h2⟩
  rcases h1 with h1 | h1 | h1
  ·exact .inl h1
  ·exact .inr (.inl ⟨by omega,h1⟩)
  exact .inr (.inr ⟨k3,h1⟩)
 rw [if_neg k4] at h0 hp ⊢
 by_cases k5:s.kd=5
 ·rw [if_pos k5] at h0 hp ⊢
  obtain ⟨h1,h2⟩:=Zq0 hk h0 hp
  refine ⟨.inr (.inr k5),?_,fun e=>absurd e k3,?_⟩
  ·rcases h1 with h1 | h1
   ·exact .inl h1
   exact .inr (.inr ⟨k3,h1⟩)
  rcases h2 with h2 | h2
  ·exact .inr h2
  exact .inl h2
 rw [if_neg k5] at h0 hp ⊢
 by_cases k6:s.kd=6
 ·rw [if_pos k6] at hp;exact absurd rfl hp
 rw [if_neg k6] at h0 hp ⊢
 by_cases k7:s.kd=7
 ·rw [if_pos k7] at h0 hp
  exact absurd ((Znh hk.wf hn h0).1 q c) hp
 rw [if_neg k7] at h0 hp ⊢
 by_cases k8:s.kd=8
 ·rw [if_pos k8] at hp;exact absurd rfl hp
 rw [if_neg k8] at h0 hp ⊢
 by_cases k9:s.kd=9
 ·rw [if_pos k9] at hp;exact absurd rfl hp
 rw [if_neg k9] at h0 hp ⊢
 by_cases k10:s.kd=10
 ·rw [if_pos k10] at hp;exact absurd rfl hp
 rw [if_neg k10] at h0 hp ⊢
 by_cases k11:s.kd=11
 ·rw [if_pos k11] at hp
  refine absurd ?_ hp
  cases Z2 B.offs s.sq<;>rfl
 rw [if_neg k11] at h0
 simp at h0
theorem Zpt {L:Led} {B:Bk} (hk:MOk L B) {s:Stp} (h3:s.kd=3) (h0:(Z8 s L B).2.1=0):
 Xp (Z8 s L B).2.2.1 s.pa s.ca=Xp L s.pa s.ca-s.am/\Xp (Z8 s L B).2.2.1 s.pb s.ca=Xp L s.pb s.ca+s.am/\1<=s.am/\s.am<=1099511627776:=by
 unfold Z8 at h0 ⊢
 rw [if_neg (by omega),if_neg (by omega),if_pos h3] at h0 ⊢
 obtain ⟨hw,hb⟩:=Znc hk.wf h0
 have h1:=hw.pos s.pa s.ca
 have h2:=hw.pos s.pb s.ca
 unfold Zek at hb
 simp only [Bool.not_eq_false',Bool.and_eq_true,decide_eq_true_eq] at hb
 have hne:s.pa≠s.pb:=by
  have:=hb
  simp only [ne_eq,Bool.not_eq_true',beq_eq_false_iff_ne] at this
  omega
 unfold mvP at h1 h2
 rw [if_pos rfl,if_neg hne,if_pos rfl] at h1
 rw [if_pos rfl,if_pos rfl,if_neg (fun e=>hne e.symm)] at h2
 simp only
 refine ⟨by omega,by omega,?_⟩
 omega
theorem Zmv {L:Led} {B:Bk} (hk:MOk L B) {s:Stp} (h4:s.kd=4) (h0:(Z8 s L B).2.1=0):
 1<=(Z8 s L B).1.1/\(Z8 s L B).1.1<=s.mx/\1<=(Z8 s L B).1.2/\(Z8 s L B).1.2<=64:=by
 unfold Z8 at h0 ⊢
 rw [if_neg (by omega),if_neg (by omega),if_neg (by omega),if_pos h4] at h0 ⊢
 simp only at h0 ⊢
 obtain ⟨h1,h2,h3,h5,h6,h7,_⟩:=Zd5 hk.wf hk.ok hk.sq.1 h0
 have hof:=Zjp hk.ok hk.sq.1 h1
 generalize (Y3 L B s.pa s.pb s.ca s.cb s.am s.mx).2.2.2=l at *
 have hl:0<l.length:=by
  cases l with
  | nil=>simp [gotS,Yr] at h3;omega
  | cons x l=>simp
 have hfp:∀f∈l,1<=f.2.2.2.2/\f.2.2.2.2<=1099511627776:=fun f hf=>by
  obtain ⟨o,_,_,_,_,_,_,hp⟩:=hof f hf
  exact ⟨hp.h1,hp.h2⟩
 have hbd:=Zo8 (fun f=>f.2.2.2.2) l (fun x hx=>⟨by have:=(hfp x hx).1;omega,(hfp x hx).2⟩)
 have hg:V8 l=gvS l:=givenS_eq (fun f hf=>by have:=(hfp f hf).1;omega) (by unfold gvS;omega)
 have hpos:1<=gvS l:=by
  cases l with
  | nil=>simp at hl
  | cons x l=>
    have h8:=hfp x (by simp)
    have h9:=(Zo8 (fun f=>f.2.2.2.2) l (fun y hy=>⟨by have:=(hfp y (by simp [hy])).1;omega,(hfp y (by simp [hy])).2⟩)).1
    unfold gvS
    simp only [List.map_cons,Yr]
    omega
 omega
theorem Zj3 {L:Led} {B:Bk} (hk:MOk L B) {s:Stp} (h6:s.kd=6) (h0:(Z8 s L B).2.1=0):
 (∃o,Z2 B.offs s.sq=some o/\o.owner=s.pa)/\Z2 (Z8 s L B).2.2.2.offs s.sq=none:=by
 unfold Z8 at h0 ⊢
 rw [if_neg (by omega),if_neg (by omega),if_neg (by omega),if_neg (by omega),if_neg (by omega),if_pos h6] at h0 ⊢
 simp only at h0 ⊢
 unfold X5 at h0 ⊢
 cases hf:Z2 B.offs s.sq with
 | none=>rw [hf] at h0;simp at h0
 | some o=>
   rw [hf] at h0
   simp only at h0 ⊢
   by_cases ho:o.owner≠s.pa
   ·rw [if_pos ho] at h0;simp at h0
   rw [if_neg ho]
   refine ⟨⟨o,rfl,by simpa using ho⟩,?_⟩
   have hm:=Yu hf
   have h1:=hk.ok o hm.1
   unfold Xb at h1
   rw [decide_eq_true_eq] at h1
   have ht:=take_at hk.sq.1 hf (n:=o.left) (by omega) (by omega)
   unfold Vt at ht
   rw [hf] at ht
   simp only at ht
   rw [if_neg (by omega)] at ht
   simp only [if_true] at ht
   exact ht
theorem Zpu {L:Led} {B:Bk} (hk:MOk L B) (hn:(L.lines.map (·.1)).Nodup) {s:Stp} (h7:s.kd=7) (h0:(Z8 s L B).2.1=0):
 0<=(Z8 s L B).1.1/\0<=(Z8 s L B).1.2/\(Z8 s L B).1.2<=max s.mx 0:=by
 unfold Z8 at h0 ⊢
 rw [if_neg (by omega),if_neg (by omega),if_neg (by omega),if_neg (by omega),if_neg (by omega),if_neg (by omega),if_pos h7] at h0 ⊢
 simp only at h0 ⊢
 exact (Znh hk.wf hn h0).2
theorem Xo (b:Nat) (v:Value) (L:Led) (B:Bk) (p c:Int) (w:World) (h:Zfl w b v L B) (hw:WF L):Calls Tryz.prog 22 #[v,.int .u8 p,.int .u8 c] w (Ret (.int .i64 (Xp L p c)) w):=by
 obtain ⟨v1,v2,v3,rfl,s1,s2,s3⟩:=h
 obtain ⟨A2,c2,rfl,a1,a2,a3,a4⟩:=s2
 have hl64:(Z9 L.lines).length<=64:=by rw [Vq];exact hw.few
 have hnum:∀y∈Z9 L.lines,0<=y.2.2/\y.2.2<=1099511627776/\y.1.1≠y.1.2.1:=fun y hy=>by
  have h1:=hw.nums y (Ur.1 hy)
  have h2:=(hw.ends y (Ur.1 hy)).1
  unfold Vr at h2
  rw [decide_eq_true_eq] at h2
  omega
 have hpos:Xp L p c=Uj (Z9 L.lines) p c:=(Zio L.lines p c).symm
 rw [hpos]
 clear hpos
 generalize Z9 L.lines=S at *
 obtain ⟨W,hW,e0,h0,_⟩:=Uy w #[v1,.slice A2 S.length c2,v3,.int .u64 B.next] 47
 have HW:=Lib.hid hW
 clear hW
 go_enter Tryz.func22,Tryz.ntmps22
 go_wp2_with fail
 refine cast (congrArg (fun X=>Code.wp _ _ _ _ X) HW.out.symm) ?_
 clear HW
 go_loopw [7,8,9,10,11,12,13,14,15,16,17,18,19,20,21,22,23,24,25,26,27,28,29,30,31,32,33,34,35,36,37,38,39,40,41,42,43,44,45,46,47,48,49] (fun nv iv _ _ _ _ _ _ _ _ _ _ _ _ _ _ _ _ _ _ _ _ _ _ _ _ _ _ _ _ _ _ _ _ _ _ _ _ _ _ _ _ _ wr=>∃k:Nat,k<=S.length/\nv= .int .i64 (Uj (S.take k) p c)/\iv= .int .i64 k/\Ext W wr) (fun _ iv _ _ _ _ _ _ _ _ _ _ _ _ _ _ _ _ _ _ _ _ _ _ _ _ _ _ _ _ _ _ _ _ _ _ _ _ _ _ _ _ _ _=>S.length-(intOf iv).toNat)
 case atStart=>exact ⟨0,Nat.zero_le _,rfl,rfl,Ext.refl _⟩
 obtain ⟨k,hkl,rfl,rfl,er⟩:=hrel
 have h1:=er.at h0
 have z1:=Za (j:=1) h1 rfl
 by_cases hkn:k<S.length
 ·rcases a4 with a4 | ⟨g,rfl,hb,hlt,hcell⟩
  ·omega
  have hj1:(0:Int)<=(k:Int):=by omega
  have hj2:(k:Int)<(S.length:Int):=by omega
  have hld:=Zdc wr g k S hkn (fun i u hu=>(Zh ((Xt e0 er).block hlt)).trans (hcell i u hu))
  obtain ⟨n1,n2,n3⟩:=hnum _ (List.getElem_mem hkn)
  have hbd:=Zhp p c (S.take k) (fun x hx=>by have:=hnum x (List.mem_of_mem_take hx);omega)
  have hlk:((S.take k).length:Int)<=64:=by rw [List.length_take];omega
  have htk:=Zkg S k hkn p c
  generalize Uj (S.take k) p c=z at *
  obtain ⟨z',hz'⟩:∃z',z'=Uj (S.take (k+1)) p c:=⟨_,rfl⟩
  have HZ:=Lib.hid hz'
  rw [<-hz'] at htk
  clear hz'
  generalize (S[k]'hkn)=x at *
  obtain ⟨⟨xa,xb,xc⟩,⟨lim,dbt⟩⟩:=x
  simp only [Za9] at hld n1 n2 n3
  have h3:=Zb wr (.cells #[.int .u8 xa,.int .u8 xb,.int .u8 xc,.int .i64 lim,.int .i64 dbt] 151)
  have e3:=Zc wr (.cells #[.int .u8 xa,.int .u8 xb,.int .u8 xc,.int .i64 lim,.int .i64 dbt] 151)
  have y0:=Za (j:=0) h3 rfl
  have y1:=Za (j:=1) h3 rfl
  have y2:=Za (j:=2) h3 rfl
  have y4:=Za (j:=4) h3 rfl
  have b1: -9223372036854775808<=z+dbt:=by omega
  have b2:z+dbt<=9223372036854775807:=by omega
  have b3: -9223372036854775808<=z-dbt:=by omega
  have b4:z-dbt<=9223372036854775807:=by omega
  unfold U0 at htk
  simp only at htk
  have HTK:=Lib.hid htk
  clear hcell a3 hnum htk hbd hlk h3
  cases q1:(xc==c) with
  | false=>
    have hz:z'=z:=by have:=HTK.out;rw [if_neg (by simpa using q1)] at this;omega
    subst hz
    go_wp2_with (refine Zd rfl 151 _ _ _ rfl rfl hld ?_)
    exact ⟨⟨k+1,by omega,by rw [<-HZ.out],by go_num,Xt er e3⟩,by simp [intOf];omega⟩
  | true=>
    have q1':xc=c:=by simpa using q1
    cases q2:(xa==p) with
    | true=>
      have q2':xa=p:=by simpa using q2
      have q3:(xb==p)=false:=by rw [beq_eq_false_iff_ne];omega
      have hz:z'=z+dbt:=by have:=HTK.out;rw [if_pos q1',if_pos q2'] at this;omega
      subst hz
      clear q1' q2'
      go_wp2_with (refine Zd rfl 151 _ _ _ rfl rfl hld ?_)
      exact ⟨⟨k+1,by omega,by rw [<-HZ.out],by go_num,Xt er e3⟩,by simp [intOf];omega⟩
    | false=>
      have q2':¬xa=p:=by simpa using q2
      cases q3:(xb==p) with
      | true=>
        have q3':xb=p:=by simpa using q3
        have hz:z'=z-dbt:=by have:=HTK.out;rw [if_pos q1',if_neg q2',if_pos q3'] at this;omega
        subst hz
        clear q1' q2' q3'
        go_wp2_with (refine Zd rfl 151 _ _ _ rfl rfl hld ?_)
        exact ⟨⟨k+1,by omega,by rw [<-HZ.out],by go_num,Xt er e3⟩,by simp [intOf];omega⟩
      | false=>
        have q3':¬xb=p:=by simpa using q3
        have hz:z'=z:=by have:=HTK.out;rw [if_pos q1',if_neg q2',if_neg q3'] at this;omega
        subst hz
        clear q1' q2' q3'
        go_wp2_with (refine Zd rfl 151 _ _ _ rfl rfl hld ?_)
        exact ⟨⟨k+1,by omega,by rw [<-HZ.out],by go_num,Xt er e3⟩,by simp [intOf];omega⟩
 have hk':k=S.length:=by omega
 subst hk'
 rw [List.take_length]
 clear a4 a3 hnum
 go_wp2
 go_ret
 exact ⟨rfl,Xt e0 er⟩
theorem Zkm (b:Nat) (v:Value) (L:Led) (B:Bk) (s:Int) (w:World) (h:Zfl w b v L B):Calls Tryz.prog 24 #[v,.int .u64 s] w (Ret (.int .u8 (match Z2 B.offs s with | some o=>o.owner | none=>0)) w):=by
 obtain ⟨v1,v2,v3,rfl,s1,s2,s3⟩:=h
 obtain ⟨A3,c3,rfl,b1,b2,b3,b4⟩:=s3
 have hn63:(B.offs.length:Int)<=9223372036854775807:=by unfold maxLen at b2;omega
 obtain ⟨r,hr⟩:∃r,r=(match Z2 B.offs s with | some o=>o.owner | none=>0):=⟨_,rfl⟩
 rw [<-hr]
 have HR:=Lib.hid hr
 generalize B.offs=l at *
 obtain ⟨W,hW,e0,h0,_⟩:=Uy w #[v1,v2,.slice A3 l.length c3,.int .u64 B.next] 47
 have HW:=Lib.hid hW
 clear hW hr
 go_enter Tryz.func24,Tryz.ntmps24
 go_wp2_with fail
 refine cast (congrArg (fun X=>Code.wp _ _ _ _ X) HW.out.symm) ?_
 clear HW
 go_loopw [4,5,6,7,8,9,10,11,12,13,14,15,16,17,18,19,20,21,22,23,24,25,26] (fun _ iv _ _ _ _ _ _ _ _ _ _ _ _ _ _ _ _ _ _ _ _ _ wr=>∃k:Nat,k<=l.length/\iv= .int .i64 k/\(∀j,j<k->∀hj:j<l.length,(l[j]'hj).seq≠s)/\Ext W wr) (fun _ iv _ _ _ _ _ _ _ _ _ _ _ _ _ _ _ _ _ _ _ _ _ _=>l.length-(intOf iv).toNat)
 case atStart=>exact ⟨0,Nat.zero_le _,rfl,fun j hj=>by omega,Ext.refl _⟩
 obtain ⟨k,hkl,rfl,hno,er⟩:=hrel
 have h1:=er.at h0
 have z2:=Za (j:=2) h1 rfl
 by_cases hkn:k<l.length
 ·rcases b4 with b4 | ⟨g,rfl,hb,hlt,hcell⟩
  ·omega
  have hj1:(0:Int)<=(k:Int):=by omega
  have hj2:(k:Int)<(l.length:Int):=by omega
  have y0:wr.cell? ⟨g,k*7,none⟩=some (.int .u64 (l[k]'hkn).seq):=(Zh ((Xt e0 er).block hlt)).trans (hcell _ _ (Yh l k 0 hkn (by omega)))
  have y1:wr.cell? ⟨g,k*7+1,none⟩=some (.int .u8 (l[k]'hkn).owner):=(Zh ((Xt e0 er).block hlt)).trans (hcell _ _ (Yh l k 1 hkn (by omega)))
  have HNO:=Lib.hid hno
  clear hcell b3 hno
  by_cases hs:(l[k]'hkn).seq=s
  ·have hf:Z2 l s=some (l[k]'hkn):=by
    unfold Z2
    rw [List.find?_eq_some_iff_getElem]
    refine ⟨by simpa using hs,k,hkn,rfl,fun j hj=> ?_⟩
    have:=HNO.out j hj (by omega)
    simpa using this
   have hro:r=(l[k]'hkn).owner:=by rw [HR.out,hf]
   have hq:((l[k]'hkn).seq==s)=true:=by simpa using hs
   rw [<-hro] at y1
   generalize (l[k]'hkn).seq=sq at *
   clear hf hro HR hs
   go_wp2_with fail
   go_ret
   exact ⟨rfl,Xt e0 er⟩
  have hq:((l[k]'hkn).seq==s)=false:=by simpa using hs
  have hnx:∀j,j<k+1->∀hj:j<l.length,(l[j]'hj).seq≠s:=fun j hj hjl=>by
   by_cases e:j=k
   ·subst e;exact hs
   exact HNO.out j (by omega) hjl
  have HNX:=Lib.hid hnx
  generalize (l[k]'hkn).seq=sq at *
  clear hnx hs y1
  go_wp2_with fail
  exact ⟨⟨k+1,by omega,by go_num,HNX.out,er⟩,by simp [intOf];omega⟩
 have hk':k=l.length:=by omega
 subst hk'
 have hf:Z2 l s=none:=by
  unfold Z2
  rw [List.find?_eq_none]
  intro y hy
  obtain ⟨j,hj,rfl⟩:=List.getElem_of_mem hy
  simpa using hno j hj hj
 have hro:r=0:=by rw [HR.out,hf]
 subst hro
 clear hno b4 b3 hf HR
 go_wp2_with fail
 go_ret
 exact ⟨rfl,Xt e0 er⟩
theorem less_any (b b':Nat) (v v':Value) (L L':Led) (B B':Bk) (p:Int) (w:World) (h':Zfl w b' v' L' B') (h:Zfl w b v L B) (hok:OkB B) (hl:Zkw B' B p):Calls Tryz.prog 23 #[v',v,.int .u8 p] w (Ret (.bool true) w):=by
 obtain ⟨v1,v2,v3,rfl,s1,s2,s3⟩:=h
 obtain ⟨v1',v2',v3',rfl,s1',s2',s3'⟩:=h'
 obtain ⟨A3,c3,rfl,b1,b2,b3,b4⟩:=s3
 obtain ⟨A3',c3',rfl,b1',b2',b3',b4'⟩:=s3'
 have hn63:(B.offs.length:Int)<=9223372036854775807:=by unfold maxLen at b2;omega
 have hm63:(B'.offs.length:Int)<=9223372036854775807:=by unfold maxLen at b2';omega
 have hleft:∀o∈B.offs,1<=o.left:=fun o ho=>by
  have h1:=hok o ho
  unfold Xb at h1
  rw [decide_eq_true_eq] at h1
  omega
 have hw0:∃j,∃hj:j<B.offs.length,(B.offs[j]'hj).owner=p/\∀o'∈B'.offs,o'.seq=(B.offs[j]'hj).seq->o'.left<(B.offs[j]'hj).left:=by
  obtain ⟨o,ho,h1,h2⟩:=hl
  obtain ⟨j,hj,rfl⟩:=List.getElem_of_mem ho
  exact ⟨j,hj,h1,h2⟩
 clear hl hok
 generalize B.offs=l at *
 generalize B'.offs=l' at *
 have HLE:=Lib.hid hleft
 obtain ⟨j,hj,hjo,hjl⟩:=hw0
 have HJO:=Lib.hid hjo
 have HJL:=Lib.hid hjl
 obtain ⟨W1,hW1,e1,h01,t1⟩:=Uy w #[v1',v2',.slice A3' l'.length c3',.int .u64 B'.next] 47
 obtain ⟨W,hW,e2,h02,_⟩:=Uy W1 #[v1,v2,.slice A3 l.length c3,.int .u64 B.next] 47
 rw [t1] at h02
 have h01:=e2.at h01
 have e0:=Xt e1 e2
 rw [<-hW1] at hW
 have HW:=Lib.hid hW
 clear hW hW1 e1 e2 t1 hleft hjo hjl
 go_enter Tryz.func23,Tryz.ntmps23
 go_wp2_with fail
 refine cast (congrArg (fun X=>Code.wp _ _ _ _ X) HW.out.symm) ?_
 clear HW
 go_loopw [6,7,8,9,10,11,12,13,14,15,16,17,18,19,20,21,22,23,24,25,26,27,28,29,30,31,32,33,34,35,36,37,38,39,40,41,42,43,44,45,46,47,48,49,50,51,52] (fun _ iv _ _ _ _ _ _ _ _ _ _ _ _ _ _ _ _ _ _ _ _ _ _ _ _ _ _ _ _ _ _ _ _ _ _ _ _ _ _ _ _ _ _ _ _ _ wr=>∃k:Nat,k<=j/\iv= .int .i64 k/\Ext W wr) (fun _ iv _ _ _ _ _ _ _ _ _ _ _ _ _ _ _ _ _ _ _ _ _ _ _ _ _ _ _ _ _ _ _ _ _ _ _ _ _ _ _ _ _ _ _ _ _ _=>l.length-(intOf iv).toNat)
 case atStart=>exact ⟨0,Nat.zero_le _,rfl,Ext.refl _⟩
 obtain ⟨k,hkj,rfl,er⟩:=hrel
 have hkn:k<l.length:=by omega
 have z2:=Za (j:=2) (er.at h02) rfl
 rcases b4 with b4 | ⟨g,rfl,hb,hlt,hcell⟩
 ·omega
 have hj1:(0:Int)<=(k:Int):=by omega
 have hj2:(k:Int)<(l.length:Int):=by omega
 have hld:=Zai wr g k l hkn (fun i u hu=>(Zh ((Xt e0 er).block hlt)).trans (hcell i u hu))
 have hlk:=HLE.out _ (List.getElem_mem hkn)
 obtain ⟨o,ho⟩:∃o,o=l[k]'hkn:=⟨_,rfl⟩
 rw [<-ho] at hld hlk
 have HO:=Lib.hid ho
 obtain ⟨seq,owner,sell,buy,left,num,den⟩:=o
 simp only [Off.agg] at hld hlk
 have h3:=Zb wr (.cells #[.int .u64 seq,.int .u8 owner,.int .u8 sell,.int .u8 buy,.int .i64 left,.int .i64 num,.int .i64 den] 153)
 have e3:=Zc wr (.cells #[.int .u64 seq,.int .u8 owner,.int .u8 sell,.int .u8 buy,.int .i64 left,.int .i64 num,.int .i64 den] 153)
 have y1:=Za (j:=1) h3 rfl
 clear hcell b3 ho
 cases qo:(owner !=p) with
 | true=>
   have hne:k≠j:=fun e=>by
    subst e
    have h1:=HJO.out
    rw [<-HO.out] at h1
    simp only at h1
    rw [h1] at qo
    simp at qo
   clear h3
   go_wp2_with (refine Zd rfl 153 _ _ _ rfl rfl hld ?_)
   exact ⟨⟨k+1,by omega,by go_num,Xt er e3⟩,by simp [intOf];omega⟩
 | false=>
   have E3:=Xt er e3
   go_wp2_with (refine Zd rfl 153 _ _ _ rfl rfl hld ?_)
   generalize hW3:wr.alloc (.cells #[.int .u64 seq,.int .u8 owner,.int .u8 sell,.int .u8 buy,.int .i64 left,.int .i64 num,.int .i64 den] 153)=W3 at *
   clear hW3 hld y1 z2 er e3
   have HZ3:=Lib.hid h3
   have hsz:wr.heap.size<W3.heap.size:=Zg h3
   obtain ⟨ob,hob⟩:∃ob,ob=wr.heap.size:=⟨_,rfl⟩
   rw [<-hob] at h3 hsz ⊢
   clear hob HZ3
   go_loopw [9,10,27,28,29,30,31,32,33,34,35,36,37,38,39,40,41,42,43,44,45,46,47,48] (fun zv iv _ _ _ _ _ _ _ _ _ _ _ _ _ _ _ _ _ _ _ _ _ _ wr=>∃(k2:Nat) (z:Int),k2<=l'.length/\iv= .int .i64 k2/\zv= .int .i64 z/\(z=0\/∃o'∈l',o'.seq=seq/\z=o'.left)/\Ext W3 wr) (fun _ iv _ _ _ _ _ _ _ _ _ _ _ _ _ _ _ _ _ _ _ _ _ _ _=>l'.length-(intOf iv).toNat)
   case atStart=>exact ⟨0,0,Nat.zero_le _,rfl,rfl,.inl rfl,Ext.refl _⟩
   obtain ⟨k2,z,hk2,rfl,rfl,hz,er⟩:=hrel
   have Er:=Xt E3 er
   have z2':=Za (j:=2) (Er.at h01) rfl
   by_cases hkn2:k2<l'.length
   ·rcases b4' with b4' | ⟨g',rfl,hb',hlt',hcell'⟩
    ·omega
    have hi1:(0:Int)<=(k2:Int):=by omega
    have hi2:(k2:Int)<(l'.length:Int):=by omega
    have q0:∀W2,Ext wr W2->W2.cell? ⟨g',k2*7,none⟩=some (.int .u64 (l'[k2]'hkn2).seq):=fun W2 kk=>(Zh ((Xt e0 (Xt Er kk)).block hlt')).trans (hcell' _ _ (Yh l' k2 0 hkn2 (by omega)))
    have q4:∀W2,Ext wr W2->W2.cell? ⟨g',k2*7+4,none⟩=some (.int .i64 (l'[k2]'hkn2).left):=fun W2 kk=>(Zh ((Xt e0 (Xt Er kk)).block hlt')).trans (hcell' _ _ (Yh l' k2 4 hkn2 (by omega)))
    have hm:=List.getElem_mem hkn2
    have r01:=Er.at h01
    have r3:=er.at h3
    have HZ:=Lib.hid hz
    generalize (l'[k2]'hkn2)=o' at *
    obtain ⟨seq',owner',sell',buy',left',num',den'⟩:=o'
    simp only at q0 q4
    clear hcell' b3' hz
    go_wp2_with fail
    refine Yc Zk [] (by kernel_rfl) (by kernel_rfl) ?_
    intro w1 hw1
    have x2:=fun u:ExtOf w1=>Za (j:=2) ((Xt hw1 u.h).at r01) rfl
    have x0:=fun u:ExtOf w1=>Za (j:=0) ((Xt hw1 u.h).at r3) rfl
    have y0:∀u:ExtOf w1,u.to.cell? ⟨g',k2*7,none⟩=_:=fun u=>q0 u.to (Xt hw1 u.h)
    clear q0
    simp only [Zj,Rg.hsB,Nat.reduceAdd,↓reduceIte]
    repeat (go_big_quiet_step (fail))
    refine wpQuiet_nil ?_
    refine Xs (by kernel_rfl) ?_
    intro w4 e4 e4'
    try simp only [Act.put,Rg.puC,Rg.puB]
    clear x2 x0 y0 hw1
    have z2b:=Za (j:=2) (e4.at r01) rfl
    have q4b:=q4 w4 e4
    clear q4 z2' r01 r3
    cases qs:(seq'==seq) with
    | true=>
      have hs:seq'=seq:=by simpa using qs
      go_wp2_with fail
      exact ⟨⟨k2+1,left',by omega,by go_num,rfl,.inr ⟨_,hm,hs,rfl⟩,Xt er e4⟩,by simp [intOf];omega⟩
    | false=>
      go_wp2_with fail
      exact ⟨⟨k2+1,z,by omega,by go_num,rfl,HZ.out,Xt er e4⟩,by simp [intOf];omega⟩
   have hk':k2=l'.length:=by omega
   subst hk'
   have x4:=Za (j:=4) (er.at h3) rfl
   by_cases hc:z<left
   ·have hcd:decide (z<left)=true:=by simpa using hc
    clear b4' b3'
    go_wp2_with fail
    go_ret
    exact ⟨rfl,Xt e0 Er⟩
   have hcd:decide (z<left)=false:=by simpa using hc
   have hne:k≠j:=fun e=>by
    subst e
    have h1:=HJL.out
    rw [<-HO.out] at h1
    simp only at h1
    rcases hz with rfl | ⟨o',ho',hs',rfl⟩
    ·omega
    exact hc (h1 o' ho' hs')
   clear b4' b3' hz
   go_wp2_with fail
   exact ⟨⟨k+1,by omega,by go_num,Er⟩,by simp [intOf];omega⟩
theorem Yk {w:World} {b:Nat} {x0 x1 x2 x3:Value} (h:w.heap[b]? =some (.cells #[x0,x1,x2,x3] 47 (0,0))):(loadVar 47 ⟨b,0,none⟩).run Tryz.prog w= .ok (.agg #[x0,x1,x2,x3]) w:=
 run_loadVar_row (P:=Tryz.prog) w b _ 47 _ _ _ h Tryz.underlying47 rfl (by kernel_rfl)
theorem kinds4 (kd:Int):∃b3 b4 b5:Bool,(kd==3)=b3/\(kd !=3)= !b3/\(kd==4)=b4/\(kd==5)=b5/\(kd !=5)= !b5/\((b3=true/\b4=false/\b5=false)\/(b3=false/\b4=true/\b5=false)\/(b3=false/\b4=false/\b5=true)\/(b3=false/\b4=false/\b5=false)):=by
 refine ⟨_,_,_,rfl,rfl,rfl,rfl,rfl,?_⟩
 by_cases h3:kd=3
 ·subst h3;exact .inl ⟨rfl,rfl,rfl⟩
 by_cases h4:kd=4
 ·subst h4;exact .inr (.inl ⟨rfl,rfl,rfl⟩)
 by_cases h5:kd=5
 ·subst h5;exact .inr (.inr (.inl ⟨rfl,rfl,rfl⟩))
 exact .inr (.inr (.inr ⟨by simpa using h3,by simpa using h4,by simpa using h5⟩))
theorem Zpy (va:Value) (l:List Cmd) (x:Stp) (w:World) (ha:Zdz w 1 va l.length (l.flatMap Cmd.cells)) (hla:∀y∈l,Zhd w y) (hx:x.In):
 Calls Tryz.prog 3 #[va,x.agg] w (Ret (.bool true) w):=by
 obtain ⟨kd,pa,pbb,ca,cb,am,mx,nu,de,sq⟩:=x
 have HKN:=Lib.hid (Zny _ hx)
 have hmx:=hx.mx
 have ham:=hx.am
 simp only at hmx ham
 simp only [Stp.agg]
 obtain ⟨W0,hW0,e0,h0,_⟩:=Uy w #[.int .u8 kd,.int .u8 pa,.int .u8 pbb,.int .u8 ca,.int .u8 cb,.int .i64 am,.int .i64 mx,.int .i64 nu,.int .i64 de,.int .u64 sq] 30
 have hgr:=Zn2 va l W0 (ha.ext e0) (fun y hy=>(hla y hy).ext e0)
 obtain ⟨A,cap,rfl,q1,q2,q3,q4⟩:=ha
 have hn63:(l.length:Int)<=9223372036854775807:=by unfold maxLen at q2;omega
 have HLA:=Lib.hid hla
 have HW:=Lib.hid hW0
 clear hla q3 hW0 hx
 go_enter Tryz.func3,Tryz.ntmps3
 go_wp2_with fail
 rw [HW.out]
 refine hgr.mono ?_
 rintro e w1 ⟨⟨bg,rfl⟩,e1⟩
 have E1:=Xt e0 e1
 have h1:=e1.at h0
 clear hgr h0 e0 e1 HW
 cases bg with
 | true=>
   go_wp2_with fail
   refine (Uq _).mono ?_
   rintro e wz ⟨rfl,ez⟩
   go_wp2
   go_ret
   exact ⟨rfl,Xt E1 ez⟩
 | false=>
   go_wp2_with fail
   refine (Znk _).mono ?_
   rintro e w2 ⟨q,p,m,pb,g,rfl,e2,hM2,hq2⟩
   have hw1:=Zg h1
   have hE1:=E1.size
   go_wp2_with fail
   go_loopw [6] (fun iv wr=>∃k:Nat,k<=l.length/\iv= .int .i64 k/\∃p m pb g L B,IsM wr q p m pb g L B/\MX L B/\Ext w1 wr) (fun iv _=>l.length-(intOf iv).toNat)
   case atStart=>exact ⟨0,Nat.zero_le _,rfl,p,m,pb,g,_,_,hM2,mx_new,e2⟩
   case round=>
    clear hM2 e2
    obtain ⟨k,hk,rfl,p,m,pb,g,L,B,hM,hmxx,er⟩:=hrel
    by_cases hkn:k<l.length
    ·rcases q4 with q4 | ⟨ga,off,rfl,hlt,hcell⟩
     ·omega
     have hj1:(0:Int)<=(k:Int):=by omega
     have hj2:(k:Int)<(l.length:Int):=by omega
     have hld:=load_cmd ((Zh ((Xt E1 er).block hlt)).trans (hcell k _ (Zha l k hkn)))
     have hcx:=(HLA.out _ (List.getElem_mem hkn)).ext (Xt E1 er)
     generalize (l[k]'hkn)=y at *
     obtain ⟨vx,sx⟩:=y
     simp only at hld
     clear hcell
     go_wp2_with (refine Zd rfl 42 _ _ _ rfl rfl hld ?_)
     refine (Zgn q p m pb g L B sx vx wr hM hcx.1 (fun s hs=>Zny s (hcx.2 s hs))).mono ?_
     rintro e w5 ⟨v5,p',m',pb',g',rfl,f5,_,hM'⟩
     have er':=FrA.ext0 er f5 (fun x (hx:x=q)=>by omega)
     clear hld
     go_wp2
     exact ⟨⟨k+1,by omega,by go_num,p',m',pb',g',_,_,hM',Zni hmxx sx,er'⟩,by simp [intOf];omega⟩
    ·have hk':k=l.length:=by omega
     subst hk'
     clear q4 hkn
     have hst:=Zfs q p m pb g L B wr hM
     go_wp2_with fail
     refine hst.mono ?_
     rintro e w7 ⟨v7,rfl,e7,sst⟩
     have SST:=Lib.hid sst
     obtain ⟨v1,v2,v3,rfl,t1,t2,t3⟩:=sst
     obtain ⟨A1,k1,rfl,_⟩:=t1
     obtain ⟨A2,k2,rfl,_⟩:=t2
     obtain ⟨A3,k3,rfl,_⟩:=t3
     have hrs:=er.size
     have hq7:=Zg hM.row
     have hM7:=hM.ext e7
     have E7:=Xt E1 (Xt er e7)
     have h7:=(Xt er e7).at h1
     have hs7:=e7.size
     have hwf:=hM.ok.wf
     have HOK:=Lib.hid hM.ok
     have HKEY:=Lib.hid hM.led.map.keys
     clear hst hM e7 er h1 E1
     go_wp2_with (first
      | (refine Zo rfl 47 rfl (.cells #[.slice none 0 0,.slice none 0 0,.slice none 0 0,.int .u64 0] 47) _ rfl (by go_simp) ?_
         intro w8 e8 h8)
      | (refine Ze rfl rfl 47 _ _ rfl w7.heap.size _ rfl rfl 47 _ h8 (by kernel_rfl) (by rfl) (by rfl) ?_
         intro w9 hb9 ho9 h9
         have e9:Ext w7 w9:=hb9 _ _ (Nat.le_refl _) e8
         have ldx:=run_loadVar_row (P:=Tryz.prog) w9 w.heap.size _ 30 _ _ _ (e9.at h7) Tryz.underlying30 rfl (by kernel_rfl))
      | (refine Zd rfl 30 _ _ _ rfl rfl ldx ?_)
      | (refine Xx (len:=1) rfl (by kernel_rfl) (.cells (U4 [(⟨kd,pa,pbb,ca,cb,am,mx,nu,de,sq⟩:Stp)]).toArray 30) (.slice (some ⟨w9.heap.size,0,none⟩) 1 1) _ rfl (by kernel_rfl) ?_
         intro w10 e10 h10))
     refine (Zey _ _ _ _).mono ?_
     rintro e w11 ⟨rfl,e11⟩
     have hM11:=(hM7.ext e9).ext (Xt e10 e11)
     have E11:=Xt E7 (Xt e9 (Xt e10 e11))
     have h711:=(Xt e9 (Xt e10 e11)).at h7
     have h911:=(Xt e10 e11).at h9
     have ST11:=Lib.hid (SST.out.ext (Xt e9 (Xt e10 e11)))
     have hsl:Zs w11 0 10 (.slice (some ⟨w9.heap.size,0,none⟩) 1 1) 1 (U4 [(⟨kd,pa,pbb,ca,cb,am,mx,nu,de,sq⟩:Stp)]):=Jw (e11.at h10) rfl (by decide) (Nat.zero_le _)
     have hap:=Zgn q p m pb g L B [(⟨kd,pa,pbb,ca,cb,am,mx,nu,de,sq⟩:Stp)] _ w11 hM11 hsl.arg (fun s hs=>by rw [List.mem_singleton.1 hs];exact HKN.out)
     have hmx2:=Zni hmxx [(⟨kd,pa,pbb,ca,cb,am,mx,nu,de,sq⟩:Stp)]
     rw [apply_one] at hap hmx2
     have HMO:=Lib.hid (fun h0 q c hp=>Zpa (s:=⟨kd,pa,pbb,ca,cb,am,mx,nu,de,sq⟩) HOK.out HKEY.out h0 (q:=q) (c:=c) hp)
     have HPA:=Lib.hid (fun h3 h0=>Zpt (s:=⟨kd,pa,pbb,ca,cb,am,mx,nu,de,sq⟩) HOK.out h3 h0)
     have HSA:=Lib.hid (fun h3 h0=>Zmv (s:=⟨kd,pa,pbb,ca,cb,am,mx,nu,de,sq⟩) HOK.out h3 h0)
     have HCA:=Lib.hid (fun h3 h0=>Zj3 (s:=⟨kd,pa,pbb,ca,cb,am,mx,nu,de,sq⟩) HOK.out h3 h0)
     have HNA:=Lib.hid (fun h3 h0=>Zpu (s:=⟨kd,pa,pbb,ca,cb,am,mx,nu,de,sq⟩) HOK.out HKEY.out h3 h0)
     obtain ⟨sm,hsm⟩:∃sm,sm=Z8 ⟨kd,pa,pbb,ca,cb,am,mx,nu,de,sq⟩ L B:=⟨_,rfl⟩
     rw [<-hsm] at hap hmx2 HMO HPA HSA HCA HNA
     obtain ⟨sg,se,L2,B2⟩:=sm
     have hnm:∀(x:Nat) (cs:Array Value) (ty:TypeId),w11.heap[x]? =some (.cells cs ty (0,0))->ty≠105->x≠q:=fun x cs ty hx ht e=>by
      subst e
      rw [hM11.row] at hx
      simp only [Option.some.injEq,Obj.cells.injEq] at hx
      exact ht hx.2.1.symm
     have s79:=e9.size
     have s911:=(Xt e10 e11).size
     clear hsm hsl ldx hM7 E7 h7 SST h10 e10 e11 e9 hb9 ho9 h8 e8
     by_cases hse0:se=0
     ·subst hse0
      rw [if_neg (by simp)] at hap hmx2
      go_wp2_with fail
      refine hap.mono ?_
      rintro e w12 ⟨vg,p',m',pb',g',rfl,f12,sg12,hM12⟩
      simp only at sg12 hM12 hmx2 HMO HPA HSA HCA HNA
      have h712:=f12.at h711 (hnm _ _ _ h711 (by decide))
      have h912:=f12.at h911 (hnm _ _ _ h911 (by decide))
      have ST12:=Lib.hid (ST11.out.fra2 f12 (fun x (hx:x=q)=>by omega))
      have E12:=FrA.ext0 E11 f12 (fun x (hx:x=q)=>by omega)
      have SG12:=Lib.hid sg12
      obtain ⟨G,gcap,rfl,_⟩:=sg12
      clear hap h711 h911 hnm ST11 hM11 f12 E11
      go_wp2_with (first
       | (refine Zo rfl 38 rfl (.cells #[.int .i64 0,.int .i64 0,.slice none 0 0] 38) _ rfl (by go_simp) ?_
          intro w13 e13 h13)
       | (refine Ze rfl rfl 38 _ _ rfl w12.heap.size _ rfl rfl 38 _ h13 (by kernel_rfl) (by rfl) (by rfl) ?_
          intro w14 hb14 ho14 hr14))
      have e14:Ext w12 w14:=hb14 _ _ (Nat.le_refl _) e13
      clear hb14 ho14 h13 e13
      have hM14:=hM12.ext e14
      have HOK2:=Lib.hid hM14.ok
      have hwf2:=hM14.ok.wf
      refine (Zfs q p' m' pb' g' L2 B2 w14 hM14).mono ?_
      rintro e w15 ⟨v15,rfl,e15,sst15⟩
      have SST15:=Lib.hid sst15
      obtain ⟨u1,u2,u3,rfl,t1,t2,t3⟩:=sst15
      obtain ⟨A1',k1',rfl,_⟩:=t1
      obtain ⟨A2',k2',rfl,_⟩:=t2
      obtain ⟨A3',k3',rfl,_⟩:=t3
      clear hM14 hM12
      go_wp2_with (first
       | (refine Zo rfl 47 rfl (.cells #[.slice none 0 0,.slice none 0 0,.slice none 0 0,.int .u64 0] 47) _ rfl (by go_simp) ?_
          intro w16 e16 h16)
       | (refine Ze rfl rfl 47 _ _ rfl w15.heap.size _ rfl rfl 47 _ h16 (by kernel_rfl) (by rfl) (by rfl) ?_
          intro w17 hb17 ho17 h17
          have e17:Ext w15 w17:=hb17 _ _ (Nat.le_refl _) e16
          have r0:=Za (j:=0) ((Xt e15 e17).at hr14) rfl
          have r2:=Za (j:=2) ((Xt e15 e17).at hr14) rfl
          have ld9:=Yk h17)
       | (refine Z6 47 _ _ _ (by kernel_rfl) rfl rfl ld9 ?_))
      refine (Zpw _ _ L2 B2 w17 (SST15.out.ext e17) HOK2.out hmx2).mono ?_
      rintro e w18 ⟨rfl,e18⟩
      have F18:Ext w12 w18:=Xt e14 (Xt e15 (Xt e17 e18))
      have E18:=Xt E12 F18
      have h7:=F18.at h712
      have h9:=F18.at h912
      have h14:=e18.at h17
      have hrp:=(Xt e15 (Xt e17 e18)).at hr14
      have ST9:=Lib.hid (ST12.out.ext F18)
      have ST14:=Lib.hid (SST15.out.ext (Xt e17 e18))
      have SG18:=Lib.hid (SG12.out.ext F18)
      have y0:=Za (j:=0) h7 rfl
      clear r0 r2 ld9 hb17 ho17 h16 e16 e14 e15 e17 e18 h17 h712 h912 hr14 SST15 ST12 SG12 E12 F18 hmx2 hmxx
      obtain ⟨b3,b4,b5,K3,K3n,K4,K5,K5n,HKK⟩:=kinds4 kd
      rcases HKK with ⟨rfl,rfl,rfl⟩ | ⟨rfl,rfl,rfl⟩ | ⟨rfl,rfl,rfl⟩ | ⟨rfl,rfl,rfl⟩
      all_goals
       as_aux_lemma=>
       simp only [Bool.not_true,Bool.not_false] at K3n K5n
       go_wp2_with fail
       clear y0
       go_loopw [4,11,12,13,14,15,83,84,85,86,87,88,89,90,91,92,93,94,95,96,97,98,99,100,101,102,103,104,105,106,107,108,109,110,111,112,113,114,115,116,117,118,119,120,121,122,123,124,125,126,127,128,129,130,131,132,133,134,135,136,137,138,139,140,141,142,143,144,145,146,147,148,149,150,151,152,153,154,155,156,157,158,159,160] (fun _ cv _ _ _ _ _ _ _ _ _ _ _ _ _ _ _ _ _ _ _ _ _ _ _ _ _ _ _ _ _ _ _ _ _ _ _ _ _ _ _ _ _ _ _ _ _ _ _ _ _ _ _ _ _ _ _ _ _ _ _ _ _ _ _ _ _ _ _ _ _ _ _ _ _ _ _ _ _ _ _ _ _ _ wr=>∃ck:Nat,1<=ck/\ck<=9/\cv= .int .u8 ck/\Ext w18 wr) (fun _ cv _ _ _ _ _ _ _ _ _ _ _ _ _ _ _ _ _ _ _ _ _ _ _ _ _ _ _ _ _ _ _ _ _ _ _ _ _ _ _ _ _ _ _ _ _ _ _ _ _ _ _ _ _ _ _ _ _ _ _ _ _ _ _ _ _ _ _ _ _ _ _ _ _ _ _ _ _ _ _ _ _ _ _=>9-(intOf cv).toNat)
       case atStart=>exact ⟨1,by omega,by omega,by first | rfl | go_num,Ext.refl _⟩
       case round=>
        obtain ⟨ck,hc1,hc2,rfl,er⟩:=hrel
        by_cases hc8:ck<=8
        ·have hc8':decide ((ck:Int)<=8)=true:=by rw [decide_eq_true_eq];omega
         go_wp2_with fail
         go_loopw [4,12,13,14,15,87,88,89,90,91,92,93,94,95,96,97,98,99,100,101,102,103,104,105,106,107,108,109,110,111,112,113,114,115,116,117,118,119,120,121,122,123,124,125,126,127,128,129,130,131,132,133,134,135,136,137,138,139,140,141,142,143,144,145,146,147,148,149,150,151,152,153,154,155,156,157,158] (fun _ sv pv _ _ _ _ _ _ _ _ _ _ _ _ _ _ _ _ _ _ _ _ _ _ _ _ _ _ _ _ _ _ _ _ _ _ _ _ _ _ _ _ _ _ _ _ _ _ _ _ _ _ _ _ _ _ _ _ _ _ _ _ _ _ _ _ _ _ _ _ _ _ _ _ _ _ wr=>∃pk:Nat,pk<=16/\pv= .int .u8 ((pk+1:Nat):Int)/\sv= .int .i64 (Zd6 L2 (ck:Int) pk)/\Ext w18 wr) (fun _ _ pv _ _ _ _ _ _ _ _ _ _ _ _ _ _ _ _ _ _ _ _ _ _ _ _ _ _ _ _ _ _ _ _ _ _ _ _ _ _ _ _ _ _ _ _ _ _ _ _ _ _ _ _ _ _ _ _ _ _ _ _ _ _ _ _ _ _ _ _ _ _ _ _ _ _ _=>17-(intOf pv).toNat)
         case atStart=>exact ⟨0,by omega,by first | rfl | go_num,by first | rfl | go_num,er⟩
         case round=>
          obtain ⟨pk,hp1,rfl,rfl,er2⟩:=hrel
          have hsb:=sumP_bd hwf2 (ck:Int) pk
          by_cases hp16:pk<16
          ·obtain ⟨qk,hqk⟩:∃qk,qk=pk+1:=⟨_,rfl⟩
           have HS2:=Lib.hid (show Zd6 L2 (ck:Int) qk=Zd6 L2 (ck:Int) pk+Xp L2 (qk:Int) (ck:Int) by rw [hqk];rfl)
           have hq1:1<=qk:=by omega
           have hq2:qk<=16:=by omega
           rw [<-hqk]
           have hp16':decide ((qk:Int)<=16)=true:=by rw [decide_eq_true_eq];omega
           have hpb:=Zho hwf2 (qk:Int) (ck:Int)
           have hs1: -1125899906842624<=Zd6 L2 (ck:Int) pk:=by omega
           have hs2:Zd6 L2 (ck:Int) pk<=1125899906842624:=by omega
           have HQK:=Lib.hid hqk
           generalize Zd6 L2 (ck:Int) pk=smv at *
           obtain ⟨ps,hps⟩:∃ps,Xp L2 (qk:Int) (ck:Int)=ps:=⟨_,rfl⟩
           obtain ⟨pq,hpq⟩:∃pq,Xp L (qk:Int) (ck:Int)=pq:=⟨_,rfl⟩
           rw [hps] at hpb HS2
           have HPS:=Lib.hid hps
           have HPQ:=Lib.hid hpq
           clear hqk hsb hp1 hp16 hps hpq er
           by_cases hpe:ps=pq
           ·have hpe':(ps==pq)=true:=by simpa using hpe
            clear hpe
            have ld9:=Yk (er2.at h14)
            have ld7:=Yk (er2.at h9)
            go_wp2_with (refine Zd rfl 47 _ _ _ rfl rfl ld9 ?_)
            refine (Xo _ _ L2 B2 (qk:Int) (ck:Int) wr (ST14.out.ext er2) hwf2).mono ?_
            rw [HPS.out]
            rintro e w5 ⟨rfl,e5⟩
            have er5:=Xt er2 e5
            clear ld9 ld7
            have ld7:=Yk (er5.at h9)
            go_wp2_with (refine Zd rfl 47 _ _ _ rfl rfl ld7 ?_)
            refine (Xo _ _ L B (qk:Int) (ck:Int) w5 (ST9.out.ext er5) hwf).mono ?_
            rw [HPQ.out]
            rintro e w6 ⟨rfl,e6⟩
            have er6:=Xt er5 e6
            clear ld7
            go_wp2_with fail
            exact ⟨⟨qk,hq2,by first | rfl | go_num,by rw [HS2.out],er6⟩,by simp [intOf];have:=HQK.out;omega⟩
           ·have hpe':(ps==pq)=false:=by simpa using hpe
            obtain ⟨hk1,hpart,hc3,hcc⟩:=HMO.out trivial (qk:Int) (ck:Int) (by rw [HPS.out,HPQ.out];exact hpe)
            simp only at hk1 hpart hc3 hcc
            first
             | (exfalso
                have n3:kd≠3:=by simpa using K3
                have n4:kd≠4:=by simpa using K4
                have n5:kd≠5:=by simpa using K5
                omega)
             | skip
            all_goals
             have HLS:qk≠pa->¬(kd≠5/\(qk:Int)=pbb)->kd≠3/\Zkw B2 B (qk:Int):=fun g1 g2=>by
              rcases hpart with h | h | h
              ·exact absurd h g1
              ·exact absurd h g2
              exact h
             have HLS:=Lib.hid HLS
             by_cases hcA:(ck:Int)=ca
             case' pos=>have cn:((ck:Int)!=ca)=false:=by simpa using hcA
             case' neg=>
              have cn:((ck:Int)!=ca)=true:=by simpa using hcA
              have hcB:(ck:Int)=cb:=by rcases hcc with h | h;exact absurd h hcA;exact h
              have cd:((ck:Int)!=cb)=false:=by simpa using hcB
              clear hcB
              first
               | (exact absurd (hc3 (by simpa using K3)) hcA)
               | skip
             all_goals
              clear hk1 hpart hc3 hcc hcA
              by_cases hA:(qk:Int)=pa
              ·have qa:((qk:Int)==pa)=true:=by simpa using hA
               clear hA hpe
               have ld9:=Yk (er2.at h14)
               have ld7:=Yk (er2.at h9)
               go_wp2_with (refine Zd rfl 47 _ _ _ rfl rfl ld9 ?_)
               refine (Xo _ _ L2 B2 (qk:Int) (ck:Int) wr (ST14.out.ext er2) hwf2).mono ?_
               rw [HPS.out]
               rintro e w5 ⟨rfl,e5⟩
               have er5:=Xt er2 e5
               clear ld9 ld7
               have ld7:=Yk (er5.at h9)
               go_wp2_with (refine Zd rfl 47 _ _ _ rfl rfl ld7 ?_)
               refine (Xo _ _ L B (qk:Int) (ck:Int) w5 (ST9.out.ext er5) hwf).mono ?_
               rw [HPQ.out]
               rintro e w6 ⟨rfl,e6⟩
               have er6:=Xt er5 e6
               clear ld7
               have y0:=Za (j:=0) (er6.at h7) rfl
               have y1:=Za (j:=1) (er6.at h7) rfl
               have y2:=Za (j:=2) (er6.at h7) rfl
               have y3:=Za (j:=3) (er6.at h7) rfl
               have y4:=Za (j:=4) (er6.at h7) rfl
               go_wp2_with fail
               exact ⟨⟨qk,hq2,by first | rfl | go_num,by rw [HS2.out],er6⟩,by simp [intOf];have:=HQK.out;omega⟩
              have qa:((qk:Int)==pa)=false:=by simpa using hA
              by_cases hB:kd≠5/\(qk:Int)=pbb
              ·have qb:((qk:Int)==pbb)=true:=by simpa using hB.2
               first
                | (exact absurd (by simpa using K5) hB.1)
                | (clear hA hB hpe
                   have ld9:=Yk (er2.at h14)
                   have ld7:=Yk (er2.at h9)
                   go_wp2_with (refine Zd rfl 47 _ _ _ rfl rfl ld9 ?_)
                   refine (Xo _ _ L2 B2 (qk:Int) (ck:Int) wr (ST14.out.ext er2) hwf2).mono ?_
                   rw [HPS.out]
                   rintro e w5 ⟨rfl,e5⟩
                   have er5:=Xt er2 e5
                   clear ld9 ld7
                   have ld7:=Yk (er5.at h9)
                   go_wp2_with (refine Zd rfl 47 _ _ _ rfl rfl ld7 ?_)
                   refine (Xo _ _ L B (qk:Int) (ck:Int) w5 (ST9.out.ext er5) hwf).mono ?_
                   rw [HPQ.out]
                   rintro e w6 ⟨rfl,e6⟩
                   have er6:=Xt er5 e6
                   clear ld7
                   have y0:=Za (j:=0) (er6.at h7) rfl
                   have y1:=Za (j:=1) (er6.at h7) rfl
                   have y2:=Za (j:=2) (er6.at h7) rfl
                   have y3:=Za (j:=3) (er6.at h7) rfl
                   have y4:=Za (j:=4) (er6.at h7) rfl
                   go_wp2_with fail
                   exact ⟨⟨qk,hq2,by first | rfl | go_num,by rw [HS2.out],er6⟩,by simp [intOf];have:=HQK.out;omega⟩)
              obtain ⟨hn3,hless⟩:=HLS.out hA hB
              first
               | (exact absurd (by simpa using K3) hn3)
               | (have hlsc:=fun W (k:Ext w18 W)=>less_any _ _ _ _ L L2 B B2 (qk:Int) W (ST14.out.ext k) (ST9.out.ext k) HOK.out.ok hless
                  try (have qb:((qk:Int)==pbb)=false:=by
                        rw [beq_eq_false_iff_ne]
                        exact fun e=>hB ⟨by simpa using K5n,e⟩)
                  clear hA hB hpe hless hn3
                  have ld9:=Yk (er2.at h14)
                  have ld7:=Yk (er2.at h9)
                  go_wp2_with (refine Zd rfl 47 _ _ _ rfl rfl ld9 ?_)
                  refine (Xo _ _ L2 B2 (qk:Int) (ck:Int) wr (ST14.out.ext er2) hwf2).mono ?_
                  rw [HPS.out]
                  rintro e w5 ⟨rfl,e5⟩
                  have er5:=Xt er2 e5
                  clear ld9 ld7
                  have ld7:=Yk (er5.at h9)
                  go_wp2_with (refine Zd rfl 47 _ _ _ rfl rfl ld7 ?_)
                  refine (Xo _ _ L B (qk:Int) (ck:Int) w5 (ST9.out.ext er5) hwf).mono ?_
                  rw [HPQ.out]
                  rintro e w6 ⟨rfl,e6⟩
                  have er6:=Xt er5 e6
                  clear ld7
                  have y0:=Za (j:=0) (er6.at h7) rfl
                  have y1:=Za (j:=1) (er6.at h7) rfl
                  have y2:=Za (j:=2) (er6.at h7) rfl
                  have y3:=Za (j:=3) (er6.at h7) rfl
                  have y4:=Za (j:=4) (er6.at h7) rfl
                  have ld9:=Yk (er6.at h14)
                  have ld7:=Yk (er6.at h9)
                  go_wp2_with (first | (refine Z6 47 _ _ _ (by kernel_rfl) rfl rfl ld9 ?_) | (refine Z6 47 _ _ _ (by kernel_rfl) rfl rfl ld7 ?_))
                  refine (hlsc w6 er6).mono ?_
                  rintro e w7 ⟨rfl,e7⟩
                  have er7:=Xt er6 e7
                  clear y0 y1 y2 y3 y4 ld9 ld7 hlsc
                  have y0:=Za (j:=0) (er7.at h7) rfl
                  have y3:=Za (j:=3) (er7.at h7) rfl
                  have y4:=Za (j:=4) (er7.at h7) rfl
                  go_wp2_with fail
                  exact ⟨⟨qk,hq2,by first | rfl | go_num,by rw [HS2.out],er7⟩,by simp [intOf];have:=HQK.out;omega⟩)
          have hp17:pk=16:=by omega
          subst hp17
          rw [sumP_zero hwf2]
          clear hsb
          go_wp2_with fail
          exact ⟨⟨ck+1,by omega,by omega,by first | rfl | go_num,er2⟩,by simp [intOf];omega⟩
        have hc9:ck=9:=by omega
        subst hc9
        clear hc8 hc1 hc2
        have y0:=Za (j:=0) (er.at h7) rfl
        by_cases e3:kd=3
        ·first
          | (exact absurd K3 (by rw [e3];decide))
          | (
             obtain ⟨p1,p2,n1,n2⟩:=HPA.out e3 trivial
             try simp only at p1 p2 n1 n2
             have hb1:=Zho hwf pa ca
             have hb2:=Zho hwf pbb ca
             have s1:=fun W (k:Ext w18 W)=>Xo _ _ L2 B2 pa ca W (ST14.out.ext k) hwf2
             have s2:=fun W (k:Ext w18 W)=>Xo _ _ L B pa ca W (ST9.out.ext k) hwf
             have s3:=fun W (k:Ext w18 W)=>Xo _ _ L2 B2 pbb ca W (ST14.out.ext k) hwf2
             have s4:=fun W (k:Ext w18 W)=>Xo _ _ L B pbb ca W (ST9.out.ext k) hwf
             rw [p1] at s1
             rw [p2] at s3
             generalize Xp L pa ca=z1 at *
             generalize Xp L pbb ca=z2 at *
             have c1: -9223372036854775808<=z1-am:=by omega
             have c2:z1-am<=9223372036854775807:=by omega
             have c3: -9223372036854775808<=z2+am:=by omega
             have c4:z2+am<=9223372036854775807:=by omega
             clear p1 p2 e3 hb1 hb2 n1 n2
             go_wp2_with fail
             refine Yc Zk [] (by kernel_rfl) (by kernel_rfl) ?_
             intro w1 hw1
             have hE:=fun u:ExtOf w1=>Xt er (Xt hw1 u.h)
             have ld9:∀wq,Cls w1 wq->(loadVar 47 ⟨w15.heap.size,0,none⟩).run Tryz.prog wq= .ok (.agg #[.slice A1' (Zv L2).length k1',.slice A2' (Z9 L2.lines).length k2',.slice A3' B2.offs.length k3',.int .u64 B2.next]) wq:=by
              rintro _ ⟨u,rfl⟩
              exact Yk ((hE u).at h14)
             have ld7:∀wq,Cls w1 wq->(loadVar 47 ⟨w7.heap.size,0,none⟩).run Tryz.prog wq= .ok (.agg #[.slice A1 (Zv L).length k1,.slice A2 (Z9 L.lines).length k2,.slice A3 B.offs.length k3,.int .u64 B.next]) wq:=by
              rintro _ ⟨u,rfl⟩
              exact Yk ((hE u).at h9)
             have hlv:=fun u:ExtOf w1=>Uq u.to
             have x1:=fun u:ExtOf w1=>Za (j:=1) ((hE u).at h7) rfl
             have x2:=fun u:ExtOf w1=>Za (j:=2) ((hE u).at h7) rfl
             have x3:=fun u:ExtOf w1=>Za (j:=3) ((hE u).at h7) rfl
             have x5:=fun u:ExtOf w1=>Za (j:=5) ((hE u).at h7) rfl
             have s1u:=fun u:ExtOf w1=>s1 u.to (hE u)
             have s2u:=fun u:ExtOf w1=>s2 u.to (hE u)
             have s3u:=fun u:ExtOf w1=>s3 u.to (hE u)
             have s4u:=fun u:ExtOf w1=>s4 u.to (hE u)
             clear s1 s2 s3 s4 hE y0
             simp only [Zj,List.contains_nil,Bool.false_eq_true,Nat.reduceAdd,↓reduceIte]
             repeat (first | go_big_quiet_step (fail) | (go_big_quiet_want;(first | refine Zq 47 _ _ _ rfl rfl ld9 ?_ | refine Zq 47 _ _ _ rfl rfl ld7 ?_);go_big_quiet_on;simp only [Act.put,Rg.puB]))
             go_big_quiet_step ((go_at_call 22;exact Ret.cls (s1u _)))
             repeat (first | go_big_quiet_step (fail) | (go_big_quiet_want;(first | refine Zq 47 _ _ _ rfl rfl ld9 ?_ | refine Zq 47 _ _ _ rfl rfl ld7 ?_);go_big_quiet_on;simp only [Act.put,Rg.puB]))
             go_big_quiet_step ((go_at_call 22;exact Ret.cls (s2u _)))
             repeat (first | go_big_quiet_step (fail) | (go_big_quiet_want;(first | refine Zq 47 _ _ _ rfl rfl ld9 ?_ | refine Zq 47 _ _ _ rfl rfl ld7 ?_);go_big_quiet_on;simp only [Act.put,Rg.puB]))
             go_big_quiet_step ((go_at_call 22;exact Ret.cls (s3u _)))
             repeat (first | go_big_quiet_step (fail) | (go_big_quiet_want;(first | refine Zq 47 _ _ _ rfl rfl ld9 ?_ | refine Zq 47 _ _ _ rfl rfl ld7 ?_);go_big_quiet_on;simp only [Act.put,Rg.puB]))
             go_big_quiet_step ((go_at_call 22;exact Ret.cls (s4u _)))
             repeat (first | go_big_quiet_step (fail) | (go_big_quiet_want;(first | refine Zq 47 _ _ _ rfl rfl ld9 ?_ | refine Zq 47 _ _ _ rfl rfl ld7 ?_);go_big_quiet_on;simp only [Act.put,Rg.puB]))
             go_big_quiet_step ((go_at_call 15;exact Ret.cls (hlv _)))
             repeat (first | go_big_quiet_step (fail) | (go_big_quiet_want;(first | refine Zq 47 _ _ _ rfl rfl ld9 ?_ | refine Zq 47 _ _ _ rfl rfl ld7 ?_);go_big_quiet_on;simp only [Act.put,Rg.puB]))
             refine wpQuiet_nil ?_
             refine Xs (by kernel_rfl) ?_
             intro w20 e20 e20'
             try simp only [Act.put,Rg.puC,Rg.puB]
             go_wp2_with fail
             go_ret
             exact ⟨rfl,Xt E18 (Xt er e20)⟩
             )
        by_cases e4:kd=4
        ·first
          | (exact absurd K4 (by rw [e4];decide))
          | (obtain ⟨g1,g2,g3,g4⟩:=HSA.out e4 trivial
             have f1:decide (sg.1>=1)=true:=by simpa using g1
             have f2:decide (sg.1<=mx)=true:=by simpa using g2
             have f3:decide (sg.2>=1)=true/\decide (sg.2<=64)=true:=⟨by simpa using g3,by simpa using g4⟩
             clear g1 g2 g3 g4 e3 e4
             obtain ⟨f3,f4⟩:=f3
             obtain ⟨sg1,sg2⟩:=sg
             try simp only at f1 f2 f3
             obtain ⟨G',gc',hGv,_,_,_,hG⟩:=SG18.out
             injection hGv with hGv _ _
             subst hGv
             rcases hG with hG | ⟨gb,rfl,_,hgb,hgc⟩
             ·simp at hG
             have v0:∀W,Ext wr W->W.cell? ⟨gb,0,none⟩=some (.int .i64 sg1):=fun W k=>(Zh ((Xt er k).block hgb)).trans (hgc 0 _ rfl)
             have v1:∀W,Ext wr W->W.cell? ⟨gb,1,none⟩=some (.int .i64 sg2):=fun W k=>(Zh ((Xt er k).block hgb)).trans (hgc 1 _ rfl)
             clear hgc
             go_wp2_with fail
             refine Yc Zk [] (by kernel_rfl) (by kernel_rfl) ?_
             intro w1 hw1
             have rr:=fun u:ExtOf w1=>Za (j:=2) ((Xt er (Xt hw1 u.h)).at hrp) rfl
             have x6:=fun u:ExtOf w1=>Za (j:=6) ((Xt er (Xt hw1 u.h)).at h7) rfl
             have v0u:=fun u:ExtOf w1=>v0 u.to (Xt hw1 u.h)
             have v1u:=fun u:ExtOf w1=>v1 u.to (Xt hw1 u.h)
             have hlv:=fun u:ExtOf w1=>Uq u.to
             clear v0 v1 y0
             simp only [Zj,Rg.hsB,Nat.reduceAdd,↓reduceIte]
             repeat (go_big_quiet_step ((go_at_call 15;exact Ret.cls (hlv _))))
             refine wpQuiet_nil ?_
             refine Xs (by kernel_rfl) ?_
             intro w20 e20 e20'
             try simp only [Act.put,Rg.puC,Rg.puB]
             go_wp2_with fail
             go_ret
             exact ⟨rfl,Xt E18 (Xt er e20)⟩
             )
        by_cases e7:kd=7
        ·first
          | (exact absurd K3 (by rw [e7];decide))
          | (exact absurd K4 (by rw [e7];decide))
          | (exact absurd K5 (by rw [e7];decide))
          | (have K7:(kd==7)=true:=by simpa using e7
             obtain ⟨g1,g2,g3⟩:=HNA.out e7 trivial
             have f1:decide (sg.1>=0)=true:=by simpa using g1
             have f2:decide (sg.2>=0)=true:=by simpa using g2
             have f3:decide (sg.2<=max mx 0)=true:=by simp only [decide_eq_true_eq];exact g3
             clear g1 g2 g3 e3 e4 e7
             obtain ⟨sg1,sg2⟩:=sg
             try simp only at f1 f2 f3
             obtain ⟨G',gc',hGv,_,_,_,hG⟩:=SG18.out
             injection hGv with hGv _ _
             subst hGv
             rcases hG with hG | ⟨gb,rfl,_,hgb,hgc⟩
             ·simp at hG
             have v0:∀W,Ext wr W->W.cell? ⟨gb,0,none⟩=some (.int .i64 sg1):=fun W k=>(Zh ((Xt er k).block hgb)).trans (hgc 0 _ rfl)
             have v1:∀W,Ext wr W->W.cell? ⟨gb,1,none⟩=some (.int .i64 sg2):=fun W k=>(Zh ((Xt er k).block hgb)).trans (hgc 1 _ rfl)
             clear hgc
             go_wp2_with fail
             refine Yc Zk [] (by kernel_rfl) (by kernel_rfl) ?_
             intro w1 hw1
             have rr:=fun u:ExtOf w1=>Za (j:=2) ((Xt er (Xt hw1 u.h)).at hrp) rfl
             have x6:=fun u:ExtOf w1=>Za (j:=6) ((Xt er (Xt hw1 u.h)).at h7) rfl
             have v0u:=fun u:ExtOf w1=>v0 u.to (Xt hw1 u.h)
             have v1u:=fun u:ExtOf w1=>v1 u.to (Xt hw1 u.h)
             have hlv:=fun u:ExtOf w1=>Uq u.to
             clear v0 v1 y0
             simp only [Zj,Rg.hsB,Nat.reduceAdd,↓reduceIte]
             repeat (go_big_quiet_step ((go_at_call 15;exact Ret.cls (hlv _))))
             refine wpQuiet_nil ?_
             refine Xs (by kernel_rfl) ?_
             intro w20 e20 e20'
             try simp only [Act.put,Rg.puC,Rg.puB]
             go_wp2_with fail
             go_ret
             exact ⟨rfl,Xt E18 (Xt er e20)⟩
             )
        have K7:(kd==7)=false:=by simpa using e7
        by_cases e6:kd=6
        ·first
          | (exact absurd K3 (by rw [e6];decide))
          | (exact absurd K4 (by rw [e6];decide))
          | (exact absurd K5 (by rw [e6];decide))
          | (have K6:(kd==6)=true:=by simpa using e6
             obtain ⟨⟨o,ho1,ho2⟩,ho3⟩:=HCA.out e6 trivial
             try simp only at ho1 ho2 ho3
             have s1:=fun W (k:Ext w18 W)=>Zkm _ _ L B sq W (ST9.out.ext k)
             have s2:=fun W (k:Ext w18 W)=>Zkm _ _ L2 B2 sq W (ST14.out.ext k)
             simp only [ho1,ho2] at s1
             simp only [ho3] at s2
             clear ho1 ho2 ho3 e6
             go_wp2_with fail
             refine Yc Zk [] (by kernel_rfl) (by kernel_rfl) ?_
             intro w1 hw1
             have hE:=fun u:ExtOf w1=>Xt er (Xt hw1 u.h)
             have ld9:∀wq,Cls w1 wq->(loadVar 47 ⟨w15.heap.size,0,none⟩).run Tryz.prog wq= .ok (.agg #[.slice A1' (Zv L2).length k1',.slice A2' (Z9 L2.lines).length k2',.slice A3' B2.offs.length k3',.int .u64 B2.next]) wq:=by
              rintro _ ⟨u,rfl⟩
              exact Yk ((hE u).at h14)
             have ld7:∀wq,Cls w1 wq->(loadVar 47 ⟨w7.heap.size,0,none⟩).run Tryz.prog wq= .ok (.agg #[.slice A1 (Zv L).length k1,.slice A2 (Z9 L.lines).length k2,.slice A3 B.offs.length k3,.int .u64 B.next]) wq:=by
              rintro _ ⟨u,rfl⟩
              exact Yk ((hE u).at h9)
             have hlv:=fun u:ExtOf w1=>Uq u.to
             have x1:=fun u:ExtOf w1=>Za (j:=1) ((hE u).at h7) rfl
             have x9:=fun u:ExtOf w1=>Za (j:=9) ((hE u).at h7) rfl
             have s1u:=fun u:ExtOf w1=>s1 u.to (hE u)
             have s2u:=fun u:ExtOf w1=>s2 u.to (hE u)
             clear s1 s2 hE y0
             simp only [Zj,List.contains_nil,Bool.false_eq_true,Nat.reduceAdd,↓reduceIte]
             repeat (first | go_big_quiet_step (fail) | (go_big_quiet_want;(first | refine Zq 47 _ _ _ rfl rfl ld9 ?_ | refine Zq 47 _ _ _ rfl rfl ld7 ?_);go_big_quiet_on;simp only [Act.put,Rg.puB]))
             go_big_quiet_step ((go_at_call 24;exact Ret.cls (s1u _)))
             repeat (first | go_big_quiet_step (fail) | (go_big_quiet_want;(first | refine Zq 47 _ _ _ rfl rfl ld9 ?_ | refine Zq 47 _ _ _ rfl rfl ld7 ?_);go_big_quiet_on;simp only [Act.put,Rg.puB]))
             go_big_quiet_step ((go_at_call 24;exact Ret.cls (s2u _)))
             repeat (first | go_big_quiet_step (fail) | (go_big_quiet_want;(first | refine Zq 47 _ _ _ rfl rfl ld9 ?_ | refine Zq 47 _ _ _ rfl rfl ld7 ?_);go_big_quiet_on;simp only [Act.put,Rg.puB]))
             go_big_quiet_step ((go_at_call 15;exact Ret.cls (hlv _)))
             repeat (first | go_big_quiet_step (fail) | (go_big_quiet_want;(first | refine Zq 47 _ _ _ rfl rfl ld9 ?_ | refine Zq 47 _ _ _ rfl rfl ld7 ?_);go_big_quiet_on;simp only [Act.put,Rg.puB]))
             refine wpQuiet_nil ?_
             refine Xs (by kernel_rfl) ?_
             intro w20 e20 e20'
             try simp only [Act.put,Rg.puC,Rg.puB]
             go_wp2_with fail
             go_ret
             exact ⟨rfl,Xt E18 (Xt er e20)⟩
             )
        have K6:(kd==6)=false:=by simpa using e6
        first
         | (exact absurd (by simpa using K3) e3)
         | (exact absurd (by simpa using K4) e4)
         | (clear e3 e4 e6 e7
            go_wp2_with fail
            refine (Uq _).mono ?_
            rintro e wz ⟨rfl,ez⟩
            go_wp2
            go_ret
            exact ⟨rfl,Xt E18 (Xt er ez)⟩)
     rw [if_pos hse0] at hap
     have hse1:(se !=0)=true:=by simpa using hse0
     go_wp2_with fail
     refine hap.mono ?_
     rintro e w12 ⟨vg,p',m',pb',g',rfl,f12,sg12,hM12⟩
     simp only at sg12 hM12
     have h912:=f12.at h911 (hnm _ _ _ h911 (by decide))
     have ST12:=Lib.hid (ST11.out.fra2 f12 (fun x (hx:x=q)=>by omega))
     have E12:=FrA.ext0 E11 f12 (fun x (hx:x=q)=>by omega)
     obtain ⟨G,gcap,rfl,_⟩:=sg12
     clear hap h711 h911 hnm ST11 hM11 f12 E11 HMO HPA HSA HCA HNA
     go_wp2_with (first
      | (refine Zo rfl 38 rfl (.cells #[.int .i64 0,.int .i64 0,.slice none 0 0] 38) _ rfl (by go_simp) ?_
         intro w13 e13 h13)
      | (refine Ze rfl rfl 38 _ _ rfl w12.heap.size _ rfl rfl 38 _ h13 (by kernel_rfl) (by rfl) (by rfl) ?_
         intro w14 hb14 ho14 hr14))
     have e14:Ext w12 w14:=hb14 _ _ (Nat.le_refl _) e13
     clear hb14 ho14 h13 e13
     have hM14:=hM12.ext e14
     refine (Zfs q p' m' pb' g' L B w14 hM14).mono ?_
     rintro e w15 ⟨v15,rfl,e15,sst15⟩
     have SST15:=Lib.hid sst15
     obtain ⟨u1,u2,u3,rfl,t1,t2,t3⟩:=sst15
     obtain ⟨A1',k1',rfl,_⟩:=t1
     obtain ⟨A2',k2',rfl,_⟩:=t2
     obtain ⟨A3',k3',rfl,_⟩:=t3
     clear hM14 hM12
     go_wp2_with (first
      | (refine Zo rfl 47 rfl (.cells #[.slice none 0 0,.slice none 0 0,.slice none 0 0,.int .u64 0] 47) _ rfl (by go_simp) ?_
         intro w16 e16 h16)
      | (refine Ze rfl rfl 47 _ _ rfl w15.heap.size _ rfl rfl 47 _ h16 (by kernel_rfl) (by rfl) (by rfl) ?_
         intro w17 hb17 ho17 h17
         have e17:Ext w15 w17:=hb17 _ _ (Nat.le_refl _) e16
         have r0:=Za (j:=0) ((Xt e15 e17).at hr14) rfl
         have r1:=Za (j:=1) ((Xt e15 e17).at hr14) rfl
         have r2:=Za (j:=2) ((Xt e15 e17).at hr14) rfl
         have ld9:=Yk h17
         have ld7:=Yk ((Xt e14 (Xt e15 e17)).at h912))
      | (refine Z6 47 _ _ _ (by kernel_rfl) rfl rfl ld9 ?_)
      | (refine Z6 47 _ _ _ (by kernel_rfl) rfl rfl ld7 ?_))
     refine (like_any _ _ _ _ L B w17 (SST15.out.ext e17) (ST12.out.ext (Xt e14 (Xt e15 e17)))).mono ?_
     rintro e w18 ⟨rfl,e18⟩
     clear r0 r1 r2 ld9 ld7
     go_wp2_with fail
     refine (Uq _).mono ?_
     rintro e wz ⟨rfl,ez⟩
     go_wp2
     go_ret
     exact ⟨rfl,Xt E12 (Xt e14 (Xt e15 (Xt e17 (Xt e18 ez))))⟩
end Go.Proofs.YtipjchbdogmccaaGreat
