/- QuotesMost: how much is to be had for so much is the most; walked. Quotes: a copy of a machine does one step; a drawn region of that shape; walked. Drawn regions, further: operations that make memory in whatever order they come: each has its own law, and what it gives keeps it. Program independent. Is it more than is gone through? If not, there are 60 commands at most. -/
import Derived.Test.YtipjchbdogmccaaGreatAll
import Derived.Test.YtipjchbdogmccaaGreatBatch
import Derived.Test.YtipjchbdogmccaaGreatQo
import Derived.Test.YtipjchbdogmccaaGreatQu

set_option maxHeartbeats 1600000
set_option maxRecDepth 100000
namespace Go.Rg
open Go.RowKit
section
variable {P:Program} {ops:Array Oper} {md:Region.Mode}
def Zgl (md:Region.Mode) (ops:Array Oper) (n:Nat) (E:List Nat) (dep:Nat->List Nat) (c:Array Bool->Bool):Nat->List Nat->Array Bool->Bool
 | 0,done,listed=>E.all done.contains&&c listed
 | f+1,done,listed=> !(Region.ready md ops listed).isEmpty&&(Region.ready md ops listed).all fun i=>decide (i<n)&&E.contains i&& !done.contains i&&(dep i).all done.contains&&Zgl md ops n E dep c f (i::done) (listed.setIfInBounds i true)
theorem getD_set_ne (t:Array Value) (s k:Nat) (v:Value) (h:s≠k):(t.setIfInBounds k v).getD s undef=t.getD s undef:=by
 simp [Array.getD_eq_getD_getElem?,Ne.symm h]
theorem Zhd (t:Array Value) (k:Nat) (v:Value) (h:k<t.size):(t.setIfInBounds k v).getD k undef=v:=by
 simp [Array.getD_eq_getD_getElem?,h]
theorem Zkw {w0:World} {n:Nat} {L:Array Bool->Act->World->Prop} {E:List Nat} {dep:Nat->List Nat} {J:List Nat->(Nat->Value)->World->Prop} {ds:List Nat} {a0:Act} {c:Array Bool->Bool}
 (hJ:∀done g w w',J done g w->Ext w w'->J done g w') (hds:∀s∈ds,s<a0.tmps.size)
 (hf:∀i∈E,∃o d,ops[i]? =some o/\o.guard=none/\o.dst=some d/\d∈ds/\∀(done:List Nat) (a:Act) (w:World),i∉done->(∀k∈dep i,k∈done)->Ext w0 w->(∀s,s∉ds->a.tmps.getD s undef=a0.tmps.getD s undef)->J done (fun s=>a.tmps.getD s undef) w->
   Xn P o a w (fun v w'=>Ext w0 w'/\∀g',g' d=v->(∀s,s≠d->g' s=a.tmps.getD s undef)->J (i::done) g' w'))
 (hL:∀listed (a:Act) (w:World) (done:List Nat),c listed=true->Ext w0 w->a.defers=a0.defers->a.tmps.size=a0.tmps.size->(∀s,s∉ds->a.tmps.getD s undef=a0.tmps.getD s undef)->(∀k∈E,k∈done)->J done (fun s=>a.tmps.getD s undef) w->wpX P md ops w0 n L 0 listed a w):
 ∀(f:Nat) (done:List Nat) (listed:Array Bool) (a:Act) (w:World),Zgl md ops n E dep c f done listed=true->Ext w0 w->a.defers=a0.defers->a.tmps.size=a0.tmps.size->
  (∀s,s∉ds->a.tmps.getD s undef=a0.tmps.getD s undef)->J done (fun s=>a.tmps.getD s undef) w->wpX P md ops w0 n L f listed a w
 | 0,done,listed,a,w,hB,he,hdf,hs,hb,hv=>by
   unfold Zgl at hB
   rw [Bool.and_eq_true] at hB
   exact hL listed a w done hB.2 he hdf hs hb (fun k hk=>by simpa using List.all_eq_true.1 hB.1 k hk) hv
 | f+1,done,listed,a,w,hB,he,hdf,hs,hb,hv=>by
   unfold Zgl at hB
   simp only [Bool.and_eq_true,List.all_eq_true,decide_eq_true_eq,Bool.not_eq_true',List.isEmpty_eq_false_iff] at hB
   refine ⟨hB.1,fun i hi=> ?_⟩
   obtain ⟨⟨⟨⟨h1,h2⟩,h3⟩,h4⟩,h5⟩:=hB.2 i hi
   have hiE:i∈E:=by simpa using h2
   have hnd:i∉done:=by simpa using h3
   refine ⟨h1,fun w' hw0 hw'=> ?_⟩
   obtain ⟨o,d,ho1,ho2,ho3,hd,ho4⟩:=hf i hiE
   unfold xOp
   simp only [ho1,Region.wanted,ho2,if_true]
   refine Y0 (fun v w'' ⟨k1,k2⟩=>⟨k1,?_⟩) (ho4 done a w' hnd (fun k hk=>by simpa using h4 k hk) hw0 hb (hJ _ _ _ _ hv hw'))
   rw [ho3]
   have hdz:=hds d hd
   refine Zkw hJ hds hf hL f (i::done) _ _ w'' h5 k1 hdf (by simp [Act.put,hs]) (fun s hns=> ?_) (k2 _ ?_ fun s hs=> ?_)
   ·have:s≠d:=fun e=>hns (e▸hd)
    simp only [Act.put]
    rw [getD_set_ne _ _ _ _ this]
    exact hb s hns
   ·simp only [Act.put]
    exact Zhd _ _ _ (by rw [hs];exact hdz)
   simp only [Act.put]
   exact getD_set_ne _ _ _ _ hs
theorem Zk5 (f:Nat->Value):∀(ds:List Nat) (t:Array Value),(ds.foldl (fun t k=>t.setIfInBounds k (f k)) t).size=t.size
 | [],_=>rfl
 | k::ds,t=>by rw [List.foldl_cons,Zk5 f ds];simp
theorem Zl3 (f:Nat->Value):∀(ds:List Nat) (t:Array Value) (s:Nat),s<t.size->(ds.foldl (fun t k=>t.setIfInBounds k (f k)) t).getD s undef=if s∈ds then f s else t.getD s undef
 | [],_,_,_=>by simp
 | k::ds,t,s,h=>by
   rw [List.foldl_cons,Zl3 f ds _ s (by simpa using h)]
   by_cases hm:s∈ds
   ·simp [hm]
   by_cases hk:s=k
   ·subst hk
    rw [if_neg hm,Zhd _ _ _ h,if_pos (by simp)]
   rw [if_neg hm,getD_set_ne _ _ _ _ hk,if_neg (by simp [hm,hk])]
theorem act_eta (a a0:Act) (ds:List Nat) (hdf:a.defers=a0.defers) (hs:a.tmps.size=a0.tmps.size) (hb:∀s,s∉ds->a.tmps.getD s undef=a0.tmps.getD s undef):
 a={ tmps:=ds.foldl (fun t k=>t.setIfInBounds k (a.tmps.getD k undef)) a0.tmps,defers:=a0.defers }:=by
 obtain ⟨t,df⟩:=a
 simp only at hdf hs hb ⊢
 subst hdf
 congr 1
 refine Array.ext (by rw [Zk5,hs]) fun i h1 h2=> ?_
 have h3:=Zl3 (fun k=>t.getD k undef) ds a0.tmps i (by rw [<-hs];exact h1)
 have h4:t.getD i undef=t[i]:=by simp [Array.getD_eq_getD_getElem?,h1]
 have h5:∀(t2:Array Value) (h:i<t2.size),t2.getD i undef=t2[i]:=fun t2 h=>by simp [Array.getD_eq_getD_getElem?,h]
 rw [<-h4,<-h5 _ h2,h3]
 by_cases hm:i∈ds
 ·rw [if_pos hm]
 rw [if_neg hm]
 exact hb i hm
end
end Go.Rg
namespace Go.Proofs.YtipjchbdogmccaaGreat
open Go.RowKit Go.Rg Go.BigFrame
theorem Zjp (v:Value) (l:List Cmd) (w:World) (h:Zbu w 1 v l.length (l.flatMap Cmd.cells)) (hok:∀x∈l,Zd4 w x):Calls Tryz.prog 14 #[v] w (fun e w'=>(∃b,e= .returned (.bool b)/\(b=false->l.length<=60))/\Ext w w'):=by
 obtain ⟨A,cap,rfl,h1,h2,h3,h4⟩:=h
 have hn63:(l.length:Int)<=9223372036854775807:=by unfold maxLen at h2;omega
 by_cases hg:(l.length:Int) > 60
 ·have hg':decide ((l.length:Int) > 60)=true:=by simpa using hg
  go_enter Tryz.func14,Tryz.ntmps14
  go_wp2
  go_ret
  exact ⟨⟨_,rfl,fun h=>by cases h⟩,Ext.refl _⟩
 have hg':decide ((l.length:Int) > 60)=false:=by simpa using hg
 have HG:=Lib.hid hg
 go_enter Tryz.func14,Tryz.ntmps14
 go_wp2
 go_loopw [3,4] (fun nv iv wr=>∃(z:Int) (k:Nat),k<=l.length/\nv= .int .i64 z/\iv= .int .i64 k/\Ext w wr) (fun _ iv _=>l.length-(intOf iv).toNat)
 case atStart=>exact ⟨0,0,Nat.zero_le _,rfl,rfl,Ext.refl _⟩
 obtain ⟨z,k,hk,rfl,rfl,er⟩:=hrel
 by_cases hkn:k<l.length
 ·rcases h4 with h4 | ⟨g,off,rfl,hlt,hcell⟩
  ·omega
  have hj1:(0:Int)<=(k:Int):=by omega
  have hj2:(k:Int)<(l.length:Int):=by omega
  have hc:wr.cell? ⟨g,off+k,none⟩=some (l[k]'hkn).1:=(Zf (er.block hlt)).trans (hcell k _ (Zhi l k hkn))
  obtain ⟨⟨B,cap',hv,_⟩,_⟩:=hok _ (List.getElem_mem hkn)
  rw [hv] at hc
  generalize (l[k]'hkn).2.length=n' at *
  clear hcell hok hv h3
  go_wp2
  exact ⟨⟨_,k+1,by omega,rfl,by go_num,er⟩,by simp [intOf];omega⟩
 have hk':k=l.length:=by omega
 subst hk'
 clear h4 h3 hok hg hg'
 go_wp2
 go_ret
 exact ⟨⟨_,rfl,fun _=>by have:=HG.out;omega⟩,er⟩
theorem Zmp (s:Stp) (w:World):(do let r <-Instr.buildSlice 40 1 #[(0,s.agg)];pure (Next.value r):Sem Next).run Tryz.prog w= .ok (.value (.slice (some ⟨w.heap.size,0,none⟩) 1 1)) (w.alloc (.cells (X3 [s]).toArray 30)):=by
 obtain ⟨x0,x1,x2,x3,x4,x5,x6,x7,x8,x9⟩:=s
 simp only [Stp.agg]
 go_simp
 rfl
theorem Zn3 (o:Oper) (t2:Tmp) (s:Stp) (hop:o.op= .buildSlice 40 1 #[(0,.tmp t2)]) (a:Act) (w:World) (h:a.tmps.getD t2 undef=s.agg):
 (execOp a.eval o).run Tryz.prog w= .ok (.value (.slice (some ⟨w.heap.size,0,none⟩) 1 1)) (w.alloc (.cells (X3 [s]).toArray 30)):=by
 have e:a.eval (.tmp t2)=s.agg:=h
 unfold execOp
 rw [hop]
 simp only
 rw [show Array.map (fun x:Nat×Operand=>(x.1,a.eval x.2)) #[(0,Operand.tmp t2)]=#[(0,s.agg)] by simp [e]]
 exact Zmp s w
theorem Zqh (b:Nat) (w:World):(do let r <-Instr.build 42 #[(0,.slice (some ⟨b,0,none⟩) 1 1)];pure (Next.value r):Sem Next).run Tryz.prog w= .ok (.value (.agg #[.slice (some ⟨b,0,none⟩) 1 1])) w:=by kernel_rfl
theorem run_mkcmd (o:Oper) (d3:Tmp) (b:Nat) (hop:o.op= .build 42 #[(0,.tmp d3)]) (a:Act) (w:World) (h:a.tmps.getD d3 undef= .slice (some ⟨b,0,none⟩) 1 1):
 (execOp a.eval o).run Tryz.prog w= .ok (.value (.agg #[.slice (some ⟨b,0,none⟩) 1 1])) w:=by
 have e:a.eval (.tmp d3)= .slice (some ⟨b,0,none⟩) 1 1:=h
 unfold execOp
 rw [hop]
 simp only
 rw [show Array.map (fun x:Nat×Operand=>(x.1,a.eval x.2)) #[(0,Operand.tmp d3)]=#[(0,.slice (some ⟨b,0,none⟩) 1 1)] by simp [e]]
 exact Zqh b w
theorem run_mkrow (o:Oper) (hop:o.op= .alloc 38) (a:Act) (w:World):
 (execOp a.eval o).run Tryz.prog w= .ok (.value (.pointer (some ⟨w.heap.size,0,none⟩))) (w.alloc (.cells #[.int .i64 0,.int .i64 0,.slice none 0 0] 38)):=by
 unfold execOp
 rw [hop]
 simp only
 kernel_rfl
structure CasJ (N:Nat) (L:Led) (B:Bk) (s:Stp) (d1 d3 d4 d5 d6:Tmp) (done:List Nat) (g:Nat->Value) (w:World):Prop where
 p1:1∈done->∃q1 p m pb gg,g d1= .pointer (some ⟨q1,0,none⟩)/\N<=q1/\(5∉done->IsM w q1 p m pb gg L B)
 p3:3∈done->∃b,g d3= .slice (some ⟨b,0,none⟩) 1 1/\w.heap[b]? =some (.cells (X3 [s]).toArray 30 (0,0))
 p4:4∈done->∃b,g d4= .agg #[.slice (some ⟨b,0,none⟩) 1 1]/\w.heap[b]? =some (.cells (X3 [s]).toArray 30 (0,0))
 p5:5∈done->∃A cp,g d5= .agg #[.int .i64 (Z6 [s] L B).1.1,.int .i64 (Z6 [s] L B).1.2.1,.slice A (Z6 [s] L B).1.2.2.length cp]/\Zn w N 2 (.slice A (Z6 [s] L B).1.2.2.length cp) (Z6 [s] L B).1.2.2.length (gtC (Z6 [s] L B).1.2.2)
 p6:6∈done->∃p,g d6= .pointer (some ⟨p,0,none⟩)/\N<=p/\w.heap[p]? =some (.cells #[.int .i64 0,.int .i64 0,.slice none 0 0] 38 (0,0))
theorem CasJ.ext {N:Nat} {L:Led} {B:Bk} {s:Stp} {d1 d3 d4 d5 d6:Tmp} {done:List Nat} {g:Nat->Value} {w w':World} (h:CasJ N L B s d1 d3 d4 d5 d6 done g w) (k:Ext w w'):CasJ N L B s d1 d3 d4 d5 d6 done g w' where
 p1:=fun hd=>let ⟨q1,p,m,pb,gg,h1,h2,h3⟩:=h.p1 hd;⟨q1,p,m,pb,gg,h1,h2,fun h5=>(h3 h5).ext k⟩
 p3:=fun hd=>let ⟨b,h1,h2⟩:=h.p3 hd;⟨b,h1,k.at h2⟩
 p4:=fun hd=>let ⟨b,h1,h2⟩:=h.p4 hd;⟨b,h1,k.at h2⟩
 p5:=fun hd=>let ⟨A,cp,h1,h2⟩:=h.p5 hd;⟨A,cp,h1,h2.ext k⟩
 p6:=fun hd=>let ⟨p,h1,h2,h3⟩:=h.p6 hd;⟨p,h1,h2,k.at h3⟩
theorem CasJ.step {N:Nat} {L:Led} {B:Bk} {s:Stp} {d1 d3 d4 d5 d6:Tmp} {done:List Nat} {g g':Nat->Value} {w:World} (i:Nat) (h:CasJ N L B s d1 d3 d4 d5 d6 done g w) (h5:i≠5)
 (e1:i≠1->g' d1=g d1) (e3:i≠3->g' d3=g d3) (e4:i≠4->g' d4=g d4) (e5:g' d5=g d5) (e6:i≠6->g' d6=g d6)
 (n1:i=1->∃q1 p m pb gg,g' d1= .pointer (some ⟨q1,0,none⟩)/\N<=q1/\IsM w q1 p m pb gg L B)
 (n3:i=3->∃b,g' d3= .slice (some ⟨b,0,none⟩) 1 1/\w.heap[b]? =some (.cells (X3 [s]).toArray 30 (0,0)))
 (n4:i=4->∃b,g' d4= .agg #[.slice (some ⟨b,0,none⟩) 1 1]/\w.heap[b]? =some (.cells (X3 [s]).toArray 30 (0,0)))
 (n6:i=6->∃p,g' d6= .pointer (some ⟨p,0,none⟩)/\N<=p/\w.heap[p]? =some (.cells #[.int .i64 0,.int .i64 0,.slice none 0 0] 38 (0,0))):
 CasJ N L B s d1 d3 d4 d5 d6 (i::done) g' w where
 p1:=fun hd=>by
  by_cases hi:i=1
  ·obtain ⟨q1,p,m,pb,gg,k1,k2,k3⟩:=n1 hi
   exact ⟨q1,p,m,pb,gg,k1,k2,fun _=>k3⟩
  obtain ⟨q1,p,m,pb,gg,k1,k2,k3⟩:=h.p1 (by simpa [Ne.symm hi] using hd)
  exact ⟨q1,p,m,pb,gg,by rw [e1 hi];exact k1,k2,fun hn=>k3 (fun hx=>hn (List.mem_cons_of_mem _ hx))⟩
 p3:=fun hd=>by
  by_cases hi:i=3
  ·exact n3 hi
  rw [e3 hi]
  exact h.p3 (by simpa [Ne.symm hi] using hd)
 p4:=fun hd=>by
  by_cases hi:i=4
  ·exact n4 hi
  rw [e4 hi]
  exact h.p4 (by simpa [Ne.symm hi] using hd)
 p5:=fun hd=>by
  rw [e5]
  exact h.p5 (by simpa [Ne.symm h5] using hd)
 p6:=fun hd=>by
  by_cases hi:i=6
  ·exact n6 hi
  rw [e6 hi]
  exact h.p6 (by simpa [Ne.symm hi] using hd)
def Zj3 (i:Nat):List Nat:=if i=4 then [3] else if i=5 then [1,4] else []
theorem Za6 {w:World} {a b:Nat} {ca cb:Array Value} {ta tb:TypeId} (ha:w.heap[a]? =some (.cells ca ta (0,0))) (hb:w.heap[b]? =some (.cells cb tb (0,0))) (h:ta≠tb):a≠b:=fun e=>by
 subst e
 rw [ha] at hb
 injection hb with hb
 injection hb with _ hb
 exact h hb
theorem cas_float {ops:Array Oper} {n f:Nat} {Lf:Array Bool->Act->World->Prop} {c:Array Bool->Bool} {listed:Array Bool} (E:List Nat) (hE:∀i∈E,i=1\/i=3\/i=4\/i=5\/i=6) (q p m pb:Nat) (g:Option Nat) (L:Led) (B:Bk) (s:Stp) (W w1:World)
 (hM:IsM W q p m pb g L B) (hin:Zfl s) (t0 t2 d1 d3 d4 d5 d6:Tmp) (o1 o3 o4 o5 o6:Oper) (a0:Act) (T1 T5:Array TypeId)
 (h1:ops[1]? =some o1/\o1.guard=none/\o1.dst=some d1/\o1.op= .call { callee:= .value (.func 39),args:=#[.tmp t0],argTypes:=T1 })
 (h3:ops[3]? =some o3/\o3.guard=none/\o3.dst=some d3/\o3.op= .buildSlice 40 1 #[(0,.tmp t2)])
 (h4:ops[4]? =some o4/\o4.guard=none/\o4.dst=some d4/\o4.op= .build 42 #[(0,.tmp d3)])
 (h5:ops[5]? =some o5/\o5.guard=none/\o5.dst=some d5/\o5.op= .call { callee:= .value (.func 17),args:=#[.tmp d1,.tmp d4],argTypes:=T5 })
 (h6:6∈E->ops[6]? =some o6/\o6.guard=none/\o6.dst=some d6/\o6.op= .alloc 38)
 (hv0:a0.tmps.getD t0 undef= .pointer (some ⟨q,0,none⟩)) (hv2:a0.tmps.getD t2 undef=s.agg) (ht0:t0∉[d1,d3,d4,d5,d6]) (ht2:t2∉[d1,d3,d4,d5,d6]) (hdd:[d1,d3,d4,d5,d6].Nodup) (hsz:∀x∈[d1,d3,d4,d5,d6],x<a0.tmps.size)
 (hB:Zgl .any ops n E Zj3 c f [] listed=true) (hw1:Ext W w1)
 (hL:∀listed (a:Act) (w:World) (done:List Nat),c listed=true->Ext W w->a.defers=a0.defers->a.tmps.size=a0.tmps.size->(∀s,s∉[d1,d3,d4,d5,d6]->a.tmps.getD s undef=a0.tmps.getD s undef)->(∀k∈E,k∈done)->
   CasJ W.heap.size L B s d1 d3 d4 d5 d6 done (fun s=>a.tmps.getD s undef) w->wpX Tryz.prog .any ops W n Lf 0 listed a w):
 wpX Tryz.prog .any ops W n Lf f listed a0 w1:=by
 simp only [List.nodup_cons,List.mem_cons,List.not_mem_nil,or_false,not_or,List.nodup_nil,and_true] at hdd
 obtain ⟨⟨n13,n14,n15,n16⟩,⟨n34,n35,n36⟩,⟨n45,n46⟩,n56⟩:=hdd
 refine Zkw (J:=CasJ W.heap.size L B s d1 d3 d4 d5 d6) (ds:=[d1,d3,d4,d5,d6]) (fun done g w w' h k=>h.ext k) hsz (fun i hi=> ?_) hL f [] listed a0 w1 hB hw1 rfl rfl (fun _ _=>rfl) ⟨fun h=>by simp at h,fun h=>by simp at h,fun h=>by simp at h,fun h=>by simp at h,fun h=>by simp at h⟩
 rcases hE i hi with rfl | rfl | rfl | rfl | rfl
 ·refine ⟨o1,d1,h1.1,h1.2.1,h1.2.2.1,by simp,fun done a w hnd hdp hW hb hj=> ?_⟩
  refine RgK.Vs 39 _ #[.pointer (some ⟨q,0,none⟩)] _ _ h1.2.2.2 Tryz.func39 rfl (by kernel_rfl) (by simp [Act.eval,hb t0 ht0,hv0]) ?_
  refine (Zf6 q p m pb g L B w (hM.ext hW)).mono ?_
  rintro e w2 ⟨q1,p1,m1,pb1,g1,rfl,e2,hM1,hq1⟩
  refine ⟨_,rfl,Xt hW e2,fun g' hg hg2=>(hj.ext e2).step 1 (by decide) (fun h=>absurd rfl h) (fun _=>hg2 _ (Ne.symm n13)) (fun _=>hg2 _ (Ne.symm n14)) (hg2 _ (Ne.symm n15)) (fun _=>hg2 _ (Ne.symm n16))
   (fun _=>⟨q1,p1,m1,pb1,g1,hg,Nat.le_trans hW.size hq1,hM1⟩) (fun h=>absurd h (by decide)) (fun h=>absurd h (by decide)) (fun h=>absurd h (by decide))⟩
 ·refine ⟨o3,d3,h3.1,h3.2.1,h3.2.2.1,by simp,fun done a w hnd hdp hW hb hj=> ?_⟩
  unfold Xn
  rw [Zn3 o3 t2 s h3.2.2.2 a w (by rw [hb t2 ht2,hv2])]
  have e2:=Zc w (.cells (X3 [s]).toArray 30)
  refine ⟨Xt hW e2,fun g' hg hg2=>(hj.ext e2).step 3 (by decide) (fun _=>hg2 _ n13) (fun h=>absurd rfl h) (fun _=>hg2 _ (Ne.symm n34)) (hg2 _ (Ne.symm n35)) (fun _=>hg2 _ (Ne.symm n36))
   (fun h=>absurd h (by decide)) (fun _=>⟨_,hg,Zb w _⟩) (fun h=>absurd h (by decide)) (fun h=>absurd h (by decide))⟩
 ·refine ⟨o4,d4,h4.1,h4.2.1,h4.2.2.1,by simp,fun done a w hnd hdp hW hb hj=> ?_⟩
  obtain ⟨b,k1,k2⟩:=hj.p3 (hdp 3 (by simp [Zj3]))
  unfold Xn
  rw [run_mkcmd o4 d3 b h4.2.2.2 a w k1]
  refine ⟨hW,fun g' hg hg2=>hj.step 4 (by decide) (fun _=>hg2 _ n14) (fun _=>hg2 _ n34) (fun h=>absurd rfl h) (hg2 _ (Ne.symm n45)) (fun _=>hg2 _ (Ne.symm n46))
   (fun h=>absurd h (by decide)) (fun h=>absurd h (by decide)) (fun _=>⟨b,hg,k2⟩) (fun h=>absurd h (by decide))⟩
 ·refine ⟨o5,d5,h5.1,h5.2.1,h5.2.2.1,by simp,fun done a w hnd hdp hW hb hj=> ?_⟩
  obtain ⟨q1,p1,m1,pb1,g1,k1,k2,k3⟩:=hj.p1 (hdp 1 (by simp [Zj3]))
  obtain ⟨b,k4,k5⟩:=hj.p4 (hdp 4 (by simp [Zj3]))
  have hM1:=k3 hnd
  refine RgK.Vs 17 _ #[.pointer (some ⟨q1,0,none⟩),.agg #[.slice (some ⟨b,0,none⟩) 1 1]] _ _ h5.2.2.2 Tryz.func17 rfl (by kernel_rfl) (by simp [Act.eval,k1,k4]) ?_
  refine (Zbs q1 p1 m1 pb1 g1 L B [s] _ w hM1 (Zch (base:=0) k5 rfl (show 1<=maxLen by decide) (Nat.zero_le _)).arg (fun x hx=>by rw [List.mem_singleton.1 hx];exact hin)).mono ?_
  rintro e w2 ⟨v2,p2,m2,pb2,g2,rfl,f2,sg2,hM2⟩
  obtain ⟨A,cp,rfl,_⟩:=id sg2
  have E2:Ext W w2:=FrA.ext0 hW f2 (fun x (hx:x=q1)=>by omega)
  refine ⟨_,rfl,E2,fun g' hg hg2=>⟨fun _=>⟨q1,p1,m1,pb1,g1,by rw [hg2 _ n15];exact k1,k2,fun h=>absurd (List.mem_cons_self) h⟩,fun h=> ?_,fun h=> ?_,fun _=>⟨A,cp,hg,sg2.low hW.size⟩,fun h=> ?_⟩⟩
  ·obtain ⟨x,y1,y2⟩:=hj.p3 (by simpa using h)
   exact ⟨x,by rw [hg2 _ n35];exact y1,f2.at y2 (Za6 y2 hM1.row (by decide))⟩
  ·obtain ⟨x,y1,y2⟩:=hj.p4 (by simpa using h)
   exact ⟨x,by rw [hg2 _ n45];exact y1,f2.at y2 (Za6 y2 hM1.row (by decide))⟩
  obtain ⟨x,y1,y2,y3⟩:=hj.p6 (by simpa using h)
  exact ⟨x,by rw [hg2 _ (Ne.symm n56.1)];exact y1,y2,f2.at y3 (Za6 y3 hM1.row (by decide))⟩
 obtain ⟨h61,h62,h63,h64⟩:=h6 hi
 refine ⟨o6,d6,h61,h62,h63,by simp,fun done a w hnd hdp hW hb hj=> ?_⟩
 unfold Xn
 rw [run_mkrow o6 h64 a w]
 have e2:=Zc w (.cells #[.int .i64 0,.int .i64 0,.slice none 0 0] 38)
 refine ⟨Xt hW e2,fun g' hg hg2=>(hj.ext e2).step 6 (by decide) (fun _=>hg2 _ n16) (fun _=>hg2 _ n36) (fun _=>hg2 _ n46) (hg2 _ n56.1) (fun h=>absurd rfl h)
  (fun h=>absurd h (by decide)) (fun h=>absurd h (by decide)) (fun h=>absurd h (by decide)) (fun _=>⟨_,hg,hW.size,Zb w _⟩)⟩
theorem Zfg {l:List Oper} {n f:Nat} {Q:Exit->Act->World->Prop} {listed:Array Bool} (E:List Nat) (hE:∀i∈E,i=1\/i=3\/i=4\/i=5\/i=6) (h5E:5∈E) (q p m pb:Nat) (g:Option Nat) (L:Led) (B:Bk) (s:Stp) (W w1:World)
 (hM:IsM W q p m pb g L B) (hin:Zfl s) (t0 t2 d1 d3 d4 d5 d6:Tmp) (o1 o3 o4 o5 o6:Oper) (a0:Act) (T1 T5:Array TypeId)
 (h1:l.toArray[1]? =some o1/\o1.guard=none/\o1.dst=some d1/\o1.op= .call { callee:= .value (.func 39),args:=#[.tmp t0],argTypes:=T1 })
 (h3:l.toArray[3]? =some o3/\o3.guard=none/\o3.dst=some d3/\o3.op= .buildSlice 40 1 #[(0,.tmp t2)])
 (h4:l.toArray[4]? =some o4/\o4.guard=none/\o4.dst=some d4/\o4.op= .build 42 #[(0,.tmp d3)])
 (h5:l.toArray[5]? =some o5/\o5.guard=none/\o5.dst=some d5/\o5.op= .call { callee:= .value (.func 17),args:=#[.tmp d1,.tmp d4],argTypes:=T5 })
 (h6:6∈E->l.toArray[6]? =some o6/\o6.guard=none/\o6.dst=some d6/\o6.op= .alloc 38)
 (hv0:a0.tmps.getD t0 undef= .pointer (some ⟨q,0,none⟩)) (hv2:a0.tmps.getD t2 undef=s.agg) (ht0:t0∉[d1,d3,d4,d5,d6]) (ht2:t2∉[d1,d3,d4,d5,d6]) (hdd:[d1,d3,d4,d5,d6].Nodup) (hsz:∀x∈[d1,d3,d4,d5,d6],x<a0.tmps.size)
 (hB:Zgl .any l.toArray n E Zj3 (fun li=>Region.seqB .any l.toArray (l.toArray.size-n) n li) f [] listed=true) (hw1:Ext W w1)
 (hL:∀(v1 v3 v4 v6:Value) (w:World) (A:Option Addr) (cp:Nat),Ext W w->Zn w W.heap.size 2 (.slice A (Z6 [s] L B).1.2.2.length cp) (Z6 [s] L B).1.2.2.length (gtC (Z6 [s] L B).1.2.2)->
   (6∈E->∃p,v6= .pointer (some ⟨p,0,none⟩)/\W.heap.size<=p/\w.heap[p]? =some (.cells #[.int .i64 0,.int .i64 0,.slice none 0 0] 38 (0,0)))->
   wpList Tryz.prog l.toArray Q (l.drop n) { tmps:=((((a0.tmps.setIfInBounds d1 v1).setIfInBounds d3 v3).setIfInBounds d4 v4).setIfInBounds d5 (.agg #[.int .i64 (Z6 [s] L B).1.1,.int .i64 (Z6 [s] L B).1.2.1,.slice A (Z6 [s] L B).1.2.2.length cp])).setIfInBounds d6 v6,defers:=a0.defers } w):
 wpX Tryz.prog .any l.toArray W n (Yu Tryz.prog l.toArray Q n) f listed a0 w1:=by
 refine cas_float E hE q p m pb g L B s W w1 hM hin t0 t2 d1 d3 d4 d5 d6 o1 o3 o4 o5 o6 a0 T1 T5 h1 h3 h4 h5 h6 hv0 hv2 ht0 ht2 hdd hsz hB hw1 fun listed a w done hc hW hdf hs hb hE2 hj=> ?_
 refine Zj hc fun w' h0 hw'=> ?_
 have hj':=hj.ext hw'
 obtain ⟨A,cp,k1,k2⟩:=hj'.p5 (hE2 5 h5E)
 have he:=act_eta a a0 [d1,d3,d4,d5,d6] hdf hs hb
 rw [he]
 simp only [List.foldl_cons,List.foldl_nil]
 rw [k1]
 exact hL _ _ _ _ w' A cp h0 k2 fun h=>let ⟨p,x1,x2,x3⟩:=hj'.p6 (hE2 6 h);⟨p,x1,x2,x3⟩
end Go.Proofs.YtipjchbdogmccaaGreat

set_option maxHeartbeats 25600000
set_option maxRecDepth 100000
namespace Go.Proofs.YtipjchbdogmccaaGreat
open Go.RowKit Go.Rg Go.BigFrame
theorem sw_ok {L:Led} {B:Bk} (h:MOk L B):SwOk L B:=⟨h.wf,h.ok,h.sq.1⟩
theorem Zk7 (va:Value) (l:List Cmd) (w:World) (ha:Zbu w 1 va l.length (l.flatMap Cmd.cells)) (hla:∀x∈l,Zd4 w x):
 Calls Tryz.prog 48 #[va] w (fun e w'=>∃q p m pb g L B,e= .returned (.pointer (some ⟨q,0,none⟩))/\Ext w w'/\IsM w' q p m pb g L B/\w.heap.size<=q):=by
 obtain ⟨A,cap,rfl,q1,q2,q3,q4⟩:=ha
 have hn63:(l.length:Int)<=9223372036854775807:=by unfold maxLen at q2;omega
 have HLA:=Lib.hid hla
 clear hla q3
 go_enter Tryz.func48,Tryz.ntmps48
 go_wp2_with fail
 refine (Zok _).mono ?_
 rintro e w3 ⟨q,p,m,pb,g,rfl,e3,hM3,hq3⟩
 go_wp2_with fail
 go_loopw [4,6,7,8,9,10,11,12,13,14,15,16,17] (fun iv _ _ _ _ _ _ _ _ _ _ _ _ wr=>∃k:Nat,k<=l.length/\iv= .int .i64 k/\∃p m pb g L B,IsM wr q p m pb g L B/\Ext w wr) (fun iv _ _ _ _ _ _ _ _ _ _ _ _ _=>l.length-(intOf iv).toNat)
 case atStart=>exact ⟨0,Nat.zero_le _,rfl,p,m,pb,g,_,_,hM3,e3⟩
 clear hM3 e3
 obtain ⟨k,hk,rfl,p,m,pb,g,L,B,hM,er⟩:=hrel
 by_cases hkn:k<l.length
 ·rcases q4 with q4 | ⟨ga,off,rfl,hlt,hcell⟩
  ·omega
  have hj1:(0:Int)<=(k:Int):=by omega
  have hj2:(k:Int)<(l.length:Int):=by omega
  have hld:=Zi9 ((Zf (er.block hlt)).trans (hcell k _ (Zhi l k hkn)))
  have hcx:=(HLA.out _ (List.getElem_mem hkn)).ext er
  generalize (l[k]'hkn)=x at *
  obtain ⟨vx,sx⟩:=x
  simp only at hld
  clear hcell
  go_wp2_with (refine Zd rfl 42 _ _ _ rfl rfl hld ?_)
  refine (Zbs q p m pb g L B sx vx wr hM hcx.1 (fun s hs=>Jw s (hcx.2 s hs))).mono ?_
  rintro e w5 ⟨v5,p',m',pb',g',rfl,f5,_,hM'⟩
  have er':=FrA.ext0 er f5 (fun x (hx:x=q)=>by omega)
  clear hld
  go_wp2
  exact ⟨⟨k+1,by omega,by go_num,p',m',pb',g',_,_,hM',er'⟩,by simp [intOf];omega⟩
 have hk':k=l.length:=by omega
 subst hk'
 clear q4 hkn
 go_wp2_with fail
 go_ret
 exact ⟨q,p,m,pb,g,L,B,rfl,er,hM,hq3⟩
theorem qmost_any (va:Value) (l:List Cmd) (fr to get give n:Int) (w:World) (ha:Zbu w 1 va l.length (l.flatMap Cmd.cells)) (hla:∀x∈l,Zd4 w x) (_hn1: -9223372036854775808<=n) (_hn2:n<=9223372036854775807):
 Calls Tryz.prog 13 #[va,.agg #[.int .u8 fr,.int .u8 to,.int .u8 get,.int .u8 give,.int .i64 n]] w (Ret (.bool true) w):=by
 obtain ⟨W,hW,eW,hb,sW⟩:=Y8 w #[.int .u8 fr,.int .u8 to,.int .u8 get,.int .u8 give,.int .i64 n] 110
 have hgr:=Zjp va l W (ha.ext eW) (fun x hx=>(hla x hx).ext eW)
 have hmd:=fun W' (k:Ext W W')=>Zk7 va l W' (ha.ext (Xt eW k)) (fun x hx=>(hla x hx).ext (Xt eW k))
 have y0:=Za (j:=0) hb rfl
 have y1:=Za (j:=1) hb rfl
 have y2:=Za (j:=2) hb rfl
 have y3:=Za (j:=3) hb rfl
 have y4:=Za (j:=4) hb rfl
 clear ha hla sW
 go_enter Tryz.func13,Tryz.ntmps13
 go_wp2_with (rw [hW])
 refine hgr.mono ?_
 clear hgr
 rintro e w1 ⟨⟨bg,rfl,_⟩,e1⟩
 cases bg with
 | true=>
   go_wp2_with fail
   refine (Vg _).mono ?_
   rintro e wz ⟨rfl,ez⟩
   go_wp2_with fail
   go_ret
   exact ⟨rfl,Xt eW (Xt e1 ez)⟩
 | false=>
   go_wp2_with fail
   refine (hmd w1 e1).mono ?_
   clear hmd
   rintro e w2 ⟨q,p,m,pb,g,L,B,rfl,e2,hM,_⟩
   have XX:=Xt e1 e2
   clear y0 y1 y2 y3 y4
   have y0:=Za (j:=0) (XX.at hb) rfl
   have y1:=Za (j:=1) (XX.at hb) rfl
   have y2:=Za (j:=2) (XX.at hb) rfl
   have y3:=Za (j:=3) (XX.at hb) rfl
   have y4:=Za (j:=4) (XX.at hb) rfl
   have hs:=sw_ok hM.ok
   have HS:=Lib.hid hs
   clear hs e1 e2
   go_wp2_with fail
   refine (Ze0 q p m pb g L B fr to get give n w2 hM).mono ?_
   rintro e w3 ⟨rfl,e3⟩
   have XX:=Xt XX e3
   clear y0 y1 y2 y3 y4
   have y0:=Za (j:=0) (XX.at hb) rfl
   have y1:=Za (j:=1) (XX.at hb) rfl
   have y2:=Za (j:=2) (XX.at hb) rfl
   have y3:=Za (j:=3) (XX.at hb) rfl
   have y4:=Za (j:=4) (XX.at hb) rfl
   have hM:=hM.ext e3
   have hm:=Zmv HS.out fr to get give n
   have hp:1<=(Uw L B fr to get give n).1->_:=fun h=>much_part HS.out (fr:=fr) (to:=to) (get:=get) (give:=give) (most:=n) h
   generalize Uw L B fr to get give n=r at *
   obtain ⟨k,gv⟩:=r
   simp only at hp
   by_cases hk0:k=0
   focus
    subst hk0
    have hg0:gv=0:=hm.none rfl
    subst hg0
    have hmo:¬((Yh L B fr to get give 1).2=0/\(Yh L B fr to get give 1).1<=n):=hm.more
    have hd:=U1 q p m pb g L B fr to get give 1 w3 hM (by decide)
    generalize Yh L B fr to get give 1=dv at *
    obtain ⟨c,ce⟩:=dv
    simp only at hmo hd
    clear hm hp
    have MO:=Lib.hid hmo
    clear hmo
    go_wp2_with fail
    refine hd.mono ?_
    clear hd
    rintro e w4 ⟨rfl,e4⟩
    have XX:=Xt XX e4
    clear y0 y1 y2 y3 y4
    have y0:=Za (j:=0) (XX.at hb) rfl
    have y1:=Za (j:=1) (XX.at hb) rfl
    have y2:=Za (j:=2) (XX.at hb) rfl
    have y3:=Za (j:=3) (XX.at hb) rfl
    have y4:=Za (j:=4) (XX.at hb) rfl
    by_cases hce:ce=0
    focus
     subst hce
     have hc:n<c:=by have:=MO.out;simp at this;exact this
    rotate_left
    focus have hce2:(ce !=0)=true:=by simpa [bne] using hce
   rotate_left 2
   focus
    have hlo:=hm.lo
    have hhi:=hm.hi
    simp only at hlo hhi
    have hk1:1<=k:=by omega
    obtain ⟨⟨a1,a2⟩,a3⟩:=hm.had hk1
    simp only at a1 a2 a3
    have hpp:=hp hk1
    have hgv:=Zfd HS.out a1
    have hdk:Yh L B fr to get give k=(gv,0):=Prod.ext a3.symm a1
    have hmo:¬((Yh L B fr to get give (k+1)).2=0/\(Yh L B fr to get give (k+1)).1<=n):=hm.more
    have hd1:=U1 q p m pb g L B fr to get give k w3 hM (by omega)
    have hd2:=fun W' (kk:Ext w3 W')=>U1 q p m pb g L B fr to get give (k+1) W' (hM.ext kk) (by omega)
    have hd3:=fun W' (kk:Ext w3 W')=>Ze0 q p m pb g L B fr to get give (gv-1) W' (hM.ext kk)
    rw [hdk] at hd1
    rw [<-a3] at a2 hgv
    simp only at hd1
    generalize Yh L B fr to get give (k+1)=dv at *
    generalize Uw L B fr to get give (gv-1)=r2 at *
    obtain ⟨mo,f⟩:=dv
    obtain ⟨ha,pa⟩:=r2
    simp only at hmo hd2 hd3 hpp
    obtain ⟨g1,g2,g3,g4⟩:=hgv
    obtain ⟨u1,u2⟩:=hpp
    have MO:=Lib.hid hmo
    have hkb:(k==0)=false:=by simpa using hk0
    clear hmo hm hp a1 a3 hdk HS hM
    go_wp2_with fail
    refine hd1.mono ?_
    clear hd1
    rintro e w4 ⟨rfl,e4⟩
    have XX:=Xt XX e4
    clear y0 y1 y2 y3 y4
    have y0:=Za (j:=0) (XX.at hb) rfl
    have y1:=Za (j:=1) (XX.at hb) rfl
    have y2:=Za (j:=2) (XX.at hb) rfl
    have y3:=Za (j:=3) (XX.at hb) rfl
    have y4:=Za (j:=4) (XX.at hb) rfl
    go_wp2_with fail
    refine (hd2 w4 e4).mono ?_
    clear hd2
    rintro e w5 ⟨rfl,e5⟩
    have XX:=Xt XX e5
    clear y0 y1 y2 y3 y4
    have y0:=Za (j:=0) (XX.at hb) rfl
    have y1:=Za (j:=1) (XX.at hb) rfl
    have y2:=Za (j:=2) (XX.at hb) rfl
    have y3:=Za (j:=3) (XX.at hb) rfl
    have y4:=Za (j:=4) (XX.at hb) rfl
    have e35:=Xt e4 e5
    by_cases hf:f=0
    focus
     subst hf
     have hmn:n<mo:=by have:=MO.out;simp at this;exact this
    rotate_left
    focus have hf2:(f==0)=false:=by simpa using hf
    all_goals
     go_wp2_with fail
     refine (hd3 w5 e35).mono ?_
     clear hd3
     rintro e w6 ⟨rfl,e6⟩
     have XX:=Xt XX e6
     clear y0 y1 y2 y3 y4
     have y0:=Za (j:=0) (XX.at hb) rfl
     have y1:=Za (j:=1) (XX.at hb) rfl
     have y2:=Za (j:=2) (XX.at hb) rfl
     have y3:=Za (j:=3) (XX.at hb) rfl
     have y4:=Za (j:=4) (XX.at hb) rfl
   all_goals
    go_wp2_with fail
    refine (Vg _).mono ?_
    rintro e wz ⟨rfl,ez⟩
    go_wp2_with fail
    go_ret
    exact ⟨rfl,Xt eW (Xt XX ez)⟩
end Go.Proofs.YtipjchbdogmccaaGreat
