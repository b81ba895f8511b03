/- The kinds of steps: what does each, in a map. A machine, walked: what it is; a step by its kind. Printed by ap1.py. A machine, walked: a command of several steps. A machine, walked: Apply. -/
import Derived.Test.YtipjchbdogmccaaGreatBase
import Derived.Test.YtipjchbdogmccaaGreatWk
import Derived.Test.YtipjchbdogmccaaGreatHCopy
set_option maxHeartbeats 51200000
set_option maxRecDepth 100000
namespace Go.Proofs.YtipjchbdogmccaaGreat
open Go.RowKit Go.Rg Go.BigFrame
def V9:List (Int×Nat):=[(1,91),(2,92),(3,93),(4,94),(5,95),(6,96),(7,97),(8,98),(9,99),(10,100),(11,101)]
def kfn (n:Nat):Value:= .func (.func n) #[] #[]
def Vf:List (Int×Nat)->Int->Nat->Option (Nat×Value)
 | [],_,_=>none
 | x::l,k,i=>if x.1==k then some (i,kfn x.2) else Vf l k (i+1)
abbrev kEs (es:Array MapEntry) (l:List (Int×Nat)):Prop:=es.toList.map (fun e=>(e.key,e.val))=l.map (fun x=>(Value.int .u8 x.1,kfn x.2))
def Zfm (w:World) (m:Nat):Prop:=∃es clock,w.heap[m]? =some (.map es clock)/\kEs es V9
theorem Zfm.keep {S:List Nat} {w w':World} {m:Nat} (h:Zfm w m) (k:Keep S w w') (hn:m∉S):Zfm w' m:=
 let ⟨es,c,h1,h2⟩:=h
 ⟨es,c,k.at h1 hn,h2⟩
theorem kin_now (k:Int):∀(l:List (Int×Nat)) (es:List MapEntry) (i:Nat),es.map (fun e=>(e.key,e.val))=l.map (fun x=>(Value.int .u8 x.1,kfn x.2))->
 Instr.findNow (.int .u8) (.int .u8 k) es i=some (Vf l k i)
 | [],[],_,_=>rfl
 | [],_::_,_,h=>by simp at h
 | _::_,[],_,h=>by simp at h
 | x::l,e::es,i,h=>by
   simp only [List.map_cons,List.cons.injEq,Prod.mk.injEq] at h
   obtain ⟨⟨hk,hv⟩,ht⟩:=h
   have ih:=kin_now k l es (i+1) ht
   unfold Instr.findNow Vf
   rw [hk,hv]
   by_cases hx:x.1=k
   ·subst hx;simp [Instr.sameNow]
   have:(x.1==k)=false:=by simpa using hx
   have h2:(k==x.1)=false:=by simpa using fun e=>hx e.symm
   simp only [Instr.sameNow,if_true,h2,this]
   exact ih
theorem Zov (k:Int) (w:World) (l:List (Int×Nat)) (es:List MapEntry) (h:es.map (fun e=>(e.key,e.val))=l.map (fun x=>(Value.int .u8 x.1,kfn x.2))):
 (Instr.findKey 23 (.int .u8 k) es).run Tryz.prog w= .ok (Vf l k 0) w:=by
 unfold Instr.findKey
 rw [Sem.run_bind,run_underlying Tryz.underlying23 w,Result.andThen_ok,kin_now k l es 0 h]
 rfl
theorem Zm4 (n:Nat) (k:Int) (e:Bool) (w:World):(Instr.checkKey e (n+1) 23 (.int .u8 k)).run Tryz.prog w= .ok () w:=by
 simp only [Instr.checkKey]
 go_simp
theorem Zlu (k:Int) (e:Bool) (w:World):(Instr.checkKey e 10000 23 (.int .u8 k)).run Tryz.prog w= .ok () w:=Zm4 9999 k e w
theorem zero_fn (w:World):(zeroValue 140).run Tryz.prog w= .ok .nilFunc w:=by first | rfl | go_simp
theorem Zji (k:Int) (m clock:Nat) (l:List (Int×Nat)) (es:Array MapEntry) (w:World) (hm:w.heap[m]? =some (.map es clock)) (h:kEs es l):
 (Instr.lookup 138 (.map (some m)) (.int .u8 k) true).run Tryz.prog w= .ok (match Vf l k 0 with | some r=>.tuple #[r.2,.bool true] | none=>.tuple #[.nilFunc,.bool false]) w:=by
 have hf:=Zov k w l es.toList h
 have hg:(getObj m).run Tryz.prog w= .ok (.map es clock) w:=by simp [getObj,Sem.run,hm]
 unfold Instr.lookup
 simp only [Sem.run_bind,run_underlying Tryz.underlying138 w,Result.andThen_ok,hg,Sem.run_pure,Zlu,hf]
 cases hc:Vf l k 0 with
 | none=>simp only [Sem.run_bind,zero_fn,Result.andThen_ok,Sem.run_pure,if_true]
 | some r=>simp only [Sem.run_pure,Sem.run_bind,Result.andThen_ok,if_true]
theorem Uy (k:Int) (f m:Nat) (l:List (Int×Nat)) (w:World) (hm:∃es clock,w.heap[m]? =some (.map es clock)/\kEs es l) (hn:Vf l k 0=none):
 ∃w',(Instr.mapUpdate 138 (.map (some m)) (.int .u8 k) (.func (.func f) #[] #[])).run Tryz.prog w= .ok () w'/\(∃es clock,w'.heap[m]? =some (.map es clock)/\kEs es (l++[(k,f)]))/\Keep [m] w w':=by
 obtain ⟨es,clock,hm,h⟩:=hm
 have hf:=Zov k w l es.toList h
 have hg:(getObj m).run Tryz.prog w= .ok (.map es clock) w:=by simp [getObj,Sem.run,hm]
 have hset:∀ob',(setObj m ob').run Tryz.prog w= .ok () { w with heap:=w.heap.setIfInBounds m ob' }:=fun ob'=>by simp [setObj,Sem.run,hm]
 unfold Instr.mapUpdate
 simp only [Sem.run_bind,run_underlying Tryz.underlying138 w,Result.andThen_ok,hg,Zlu,hf,hn,hset]
 obtain ⟨k1,k2⟩:=Jz (ob':= .map (es.push { key:= .int .u8 k,val:= .func (.func f) #[] #[],born:=clock }) (clock+1)) hm
 refine ⟨_,rfl,⟨_,_,k2,?_⟩,k1⟩
 simp only [kEs,Array.toList_push,List.map_append,List.map_cons,List.map_nil]
 rw [h]
 rfl
theorem Yx {P:Program} {ops:Array Oper} {rest:List Oper} {o:Oper} {a:Act} {w:World} {Q:Exit->Act->World->Prop} (hgd:o.guard=none) (hd:o.dst=none) (t:TypeId) (m k v:Operand) (hop:o.op= .insert t m k v) (vm vk vv:Value)
 (hm:a.eval m=vm) (hk:a.eval k=vk) (hv:a.eval v=vv) (w':World) (hr:(Instr.mapUpdate t vm vk vv).run P w= .ok () w') (h:wpList P ops Q rest a w'):wpList P ops Q (o::rest) a w:=
 wpList_plain hgd fun K hK=>by
  unfold Oper.wp execOp
  simp only [hop,hm,hk,hv,Sem.run_bind,Sem.run_pure,Result.andThen_ok,hr,Oper.upon]
  rw [hd]
  exact hK _ _ h
theorem kinds_any (w:World):Calls Tryz.prog 54 #[] w (fun e w'=>∃m,e= .returned (.map (some m))/\Ext w w'/\Zfm w' m/\w.heap.size<=m):=by
 have hmk:∀w,(Instr.makeMap 138 none).run Tryz.prog w= .ok (.map (some w.heap.size)) (w.alloc (.map #[] 0)):=fun _=>rfl
 have hm:=Zb w (.map #[] 0)
 have em:=Zc w (.map #[] 0)
 generalize hW:w.alloc (.map #[] 0)=W at hm em
 have HW:=Lib.hid hW
 clear hW
 obtain ⟨w1,r1,m1,q1⟩:=Uy 1 91 w.heap.size [] W ⟨_,_,hm,rfl⟩ rfl
 obtain ⟨w2,r2,m2,q2⟩:=Uy 2 92 w.heap.size _ w1 m1 (by decide)
 obtain ⟨w3,r3,m3,q3⟩:=Uy 3 93 w.heap.size _ w2 m2 (by decide)
 obtain ⟨w4,r4,m4,q4⟩:=Uy 4 94 w.heap.size _ w3 m3 (by decide)
 obtain ⟨w5,r5,m5,q5⟩:=Uy 5 95 w.heap.size _ w4 m4 (by decide)
 obtain ⟨w6,r6,m6,q6⟩:=Uy 6 96 w.heap.size _ w5 m5 (by decide)
 obtain ⟨w7,r7,m7,q7⟩:=Uy 7 97 w.heap.size _ w6 m6 (by decide)
 obtain ⟨w8,r8,m8,q8⟩:=Uy 8 98 w.heap.size _ w7 m7 (by decide)
 obtain ⟨w9,r9,m9,q9⟩:=Uy 9 99 w.heap.size _ w8 m8 (by decide)
 obtain ⟨w10,r10,m10,q10⟩:=Uy 10 100 w.heap.size _ w9 m9 (by decide)
 obtain ⟨w11,r11,m11,q11⟩:=Uy 11 101 w.heap.size _ w10 m10 (by decide)
 have KW:=Lib.hid ((((((((((q1.trans q2).trans q3).trans q4).trans q5).trans q6).trans q7).trans q8).trans q9).trans q10).trans q11)
 have M:=Lib.hid m11
 have EM:=Lib.hid em
 clear m1 m2 m3 m4 m5 m6 m7 m8 m9 m10 m11 q1 q2 q3 q4 q5 q6 q7 q8 q9 q10 q11 em hm
 go_enter Tryz.func54,Tryz.ntmps54
 have r1':=r1
 rw [<-HW.out] at r1'
 clear r1
 go_wp2_with (first
  | (refine Yx rfl rfl 138 _ _ _ rfl _ _ _ rfl rfl rfl _ r1' ?_)
  | (refine Yx rfl rfl 138 _ _ _ rfl _ _ _ rfl rfl rfl _ r2 ?_)
  | (refine Yx rfl rfl 138 _ _ _ rfl _ _ _ rfl rfl rfl _ r3 ?_)
  | (refine Yx rfl rfl 138 _ _ _ rfl _ _ _ rfl rfl rfl _ r4 ?_)
  | (refine Yx rfl rfl 138 _ _ _ rfl _ _ _ rfl rfl rfl _ r5 ?_)
  | (refine Yx rfl rfl 138 _ _ _ rfl _ _ _ rfl rfl rfl _ r6 ?_)
  | (refine Yx rfl rfl 138 _ _ _ rfl _ _ _ rfl rfl rfl _ r7 ?_)
  | (refine Yx rfl rfl 138 _ _ _ rfl _ _ _ rfl rfl rfl _ r8 ?_)
  | (refine Yx rfl rfl 138 _ _ _ rfl _ _ _ rfl rfl rfl _ r9 ?_)
  | (refine Yx rfl rfl 138 _ _ _ rfl _ _ _ rfl rfl rfl _ r10 ?_)
  | (refine Yx rfl rfl 138 _ _ _ rfl _ _ _ rfl rfl rfl _ r11 ?_))
 go_ret
 obtain ⟨es,ck,h1,h2⟩:=M.out
 exact ⟨w.heap.size,rfl,(Keep.trans_fresh (S:=[]) (Kx EM.out) KW.out (fun x hx=>by right;simp at hx;omega)).ext,⟨es,ck,h1,h2⟩,Nat.le_refl _⟩
end Go.Proofs.YtipjchbdogmccaaGreat
namespace Go.Rg
open Go.RowKit
theorem run_callv {P:Program} {a:Act} {o:Oper} {f:FuncId} {x:Operand} {args:Array Operand} {ts:Array TypeId} (fn:Func) (hop:o.op= .call { callee:= .value x,args:=args,argTypes:=ts }) (hx:a.eval x= .func (.func f) #[] #[]) (hf:P.funcs[f]? =some fn) (hb:fn.body.isNone=false)
 (hn:(fn.name== "runtime.NumGoroutine")=false) (w:World):(execOp a.eval o).run P w= .ok (.enter f (args.map a.eval)) w:=by
 have hb':fn.body≠none:=by intro h;simp [h] at hb
 have hn':fn.name≠ "runtime.NumGoroutine":=by simpa using hn
 generalize a.eval=ρ at hx ⊢
 unfold execOp
 simp [hop,hx,go_sem,callFunc,hf,hb',hn',Result.andThen]
theorem Zmi {P:Program} {ops:Array Oper} {rest:List Oper} {o:Oper} {a:Act} {w:World} {Q:Exit->Act->World->Prop} (hg:o.guard=none) (d:Option Tmp) (hd:o.dst=d) (x:Operand) (args:Array Operand) (ts:Array TypeId) (hop:o.op= .call { callee:= .value x,args:=args,argTypes:=ts })
 (f:FuncId) (fn:Func) (hx:a.eval x= .func (.func f) #[] #[]) (hf:P.funcs[f]? =some fn) (hb:fn.body.isNone=false) (hn:(fn.name== "runtime.NumGoroutine")=false) (vals:Array Value) (hv:args.map a.eval=vals)
 (hc:Calls P f vals w (fun e w'=>∃v,e= .returned v/\wpList P ops Q rest (a.put d v) w')):wpList P ops Q (o::rest) a w:=by
 subst hd
 refine wpList_plain hg fun K hK=> ?_
 unfold Oper.wp
 rw [run_callv fn hop hx hf hb hn w,hv,Oper.upon_enter]
 refine hc.mono fun e w'' hh=> ?_
 obtain ⟨v,rfl,h⟩:=hh
 exact hK _ _ h
end Go.Rg
namespace Go.Proofs.YtipjchbdogmccaaGreat
open Go.RowKit Go.Rg Go.BigFrame
def Zay (f:Nat):Prop:=∃fn,Tryz.prog.funcs[f]? =some fn/\fn.body.isNone=false/\(fn.name== "runtime.NumGoroutine")=false
theorem fnat_open:Zay 91:=⟨_,Tryz.func91,rfl,by decide⟩
theorem Zrl:Zay 92:=⟨_,Tryz.func92,rfl,by decide⟩
theorem fnat_pay:Zay 93:=⟨_,Tryz.func93,rfl,by decide⟩
theorem fnat_swap:Zay 94:=⟨_,Tryz.func94,rfl,by decide⟩
theorem Zrn:Zay 95:=⟨_,Tryz.func95,rfl,by decide⟩
theorem Zpa:Zay 96:=⟨_,Tryz.func96,rfl,by decide⟩
theorem fnat_net:Zay 97:=⟨_,Tryz.func97,rfl,by decide⟩
theorem fnat_debt:Zay 98:=⟨_,Tryz.func98,rfl,by decide⟩
theorem Zks:Zay 99:=⟨_,Tryz.func99,rfl,by decide⟩
theorem Zrm:Zay 100:=⟨_,Tryz.func100,rfl,by decide⟩
theorem fnat_left:Zay 101:=⟨_,Tryz.func101,rfl,by decide⟩
theorem Zrc {k:Int} (h:∀n∈[1,2,3,4,5,6,7,8,9,10,11],k≠n):Vf V9 k 0=none:=by
 have hh:∀(l:List (Int×Nat)) (i:Nat),(∀x∈l,k≠x.1)->Vf l k i=none:=by
  intro l
  induction l with
  | nil=>intro i _;rfl
  | cons x l ih=>
    intro i hx
    unfold Vf
    have:(x.1==k)=false:=by simpa using fun e=>hx x (by simp) e.symm
    rw [this]
    exact ih _ fun y hy=>hx y (by simp [hy])
 refine hh _ _ fun x hx=> ?_
 simp only [V9,List.mem_cons,List.not_mem_nil,or_false] at hx
 rcases hx with rfl | rfl | rfl | rfl | rfl | rfl | rfl | rfl | rfl | rfl | rfl<;>exact h _ (by simp)
theorem Zp7 (s:Stp) (L:Led) (B:Bk) (h:Vf V9 s.kd 0=none):Xd s L B=((0,0),1,L,B):=by
 have hk:∀(n:Int) r,Vf V9 n 0=some r->s.kd≠n:=fun n r hr e=>by rw [e,hr] at h;cases h
 unfold Xd
 rw [if_neg (hk 1 _ rfl),if_neg (hk 2 _ rfl),if_neg (hk 3 _ rfl),if_neg (hk 4 _ rfl),if_neg (hk 5 _ rfl),if_neg (hk 6 _ rfl),if_neg (hk 7 _ rfl),if_neg (hk 8 _ rfl),if_neg (hk 9 _ rfl),if_neg (hk 10 _ rfl),if_neg (hk 11 _ rfl)]
def Zp0 (f:Nat) (s:Stp):Prop:=∀(base:Nat->Prop) (hw p m pb:Nat) (g:Option Nat) (L:Led) (B:Bk) (w:World),IsH w base hw p m pb g L B->(∀x,w.heap.size<=x->base x)->
 Calls Tryz.prog f #[.pointer (some ⟨hw,0,none⟩),s.agg] w (Zhw base hw (Xd s L B) w)
theorem kind_some (s:Stp) (hin:s.In) (r:Nat×Value) (h:Vf V9 s.kd 0=some r):∃f,r.2=kfn f/\Zay f/\Zp0 f s:=by
 by_cases k1:s.kd=1
 ·rw [k1,show Vf V9 1 0=some (0,kfn 91) from rfl] at h
  cases h
  refine ⟨_,rfl,fnat_open,fun base hw p m pb g L B w h' hb=> ?_⟩
  have:=wopen_any base hw p m pb g L B s w h' hb hin
  unfold Xd
  rw [if_pos k1]
  exact this
 by_cases k2:s.kd=2
 ·rw [k2,show Vf V9 2 0=some (1,kfn 92) from rfl] at h
  cases h
  refine ⟨_,rfl,Zrl,fun base hw p m pb g L B w h' hb=> ?_⟩
  have:=Zp1 base hw p m pb g L B s w h' hb hin
  unfold Xd
  rw [if_neg k1,if_pos k2]
  exact this
 by_cases k3:s.kd=3
 ·rw [k3,show Vf V9 3 0=some (2,kfn 93) from rfl] at h
  cases h
  refine ⟨_,rfl,fnat_pay,fun base hw p m pb g L B w h' hb=> ?_⟩
  have:=wpay_any base hw p m pb g L B s w h' hb hin
  unfold Xd
  rw [if_neg k1,if_neg k2,if_pos k3]
  exact this
 by_cases k4:s.kd=4
 ·rw [k4,show Vf V9 4 0=some (3,kfn 94) from rfl] at h
  cases h
  refine ⟨_,rfl,fnat_swap,fun base hw p m pb g L B w h' hb=> ?_⟩
  have:=wswap_any base hw p m pb g L B s w h' hb hin
  unfold Xd
  rw [if_neg k1,if_neg k2,if_neg k3,if_pos k4]
  exact this
 by_cases k5:s.kd=5
 ·rw [k5,show Vf V9 5 0=some (4,kfn 95) from rfl] at h
  cases h
  refine ⟨_,rfl,Zrn,fun base hw p m pb g L B w h' hb=> ?_⟩
  have:=Zp3 base hw p m pb g L B s w h' hb hin
  unfold Xd
  rw [if_neg k1,if_neg k2,if_neg k3,if_neg k4,if_pos k5]
  exact this
 by_cases k6:s.kd=6
 ·rw [k6,show Vf V9 6 0=some (5,kfn 96) from rfl] at h
  cases h
  refine ⟨_,rfl,Zpa,fun base hw p m pb g L B w h' hb=> ?_⟩
  have:=Znu base hw p m pb g L B s w h' hb hin
  unfold Xd
  rw [if_neg k1,if_neg k2,if_neg k3,if_neg k4,if_neg k5,if_pos k6]
  exact this
 by_cases k7:s.kd=7
 ·rw [k7,show Vf V9 7 0=some (6,kfn 97) from rfl] at h
  cases h
  refine ⟨_,rfl,fnat_net,fun base hw p m pb g L B w h' hb=> ?_⟩
  have:=wnet_any base hw p m pb g L B s w h' hb hin
  unfold Xd
  rw [if_neg k1,if_neg k2,if_neg k3,if_neg k4,if_neg k5,if_neg k6,if_pos k7]
  exact this
 by_cases k8:s.kd=8
 ·rw [k8,show Vf V9 8 0=some (7,kfn 98) from rfl] at h
  cases h
  refine ⟨_,rfl,fnat_debt,fun base hw p m pb g L B w h' hb=> ?_⟩
  have:=wdebt_any base hw p m pb g L B s w h' hb
  unfold Xd
  rw [if_neg k1,if_neg k2,if_neg k3,if_neg k4,if_neg k5,if_neg k6,if_neg k7,if_pos k8]
  exact this
 by_cases k9:s.kd=9
 ·rw [k9,show Vf V9 9 0=some (8,kfn 99) from rfl] at h
  cases h
  refine ⟨_,rfl,Zks,fun base hw p m pb g L B w h' hb=> ?_⟩
  have:=Zkb base hw p m pb g L B s w h' hb
  unfold Xd
  rw [if_neg k1,if_neg k2,if_neg k3,if_neg k4,if_neg k5,if_neg k6,if_neg k7,if_neg k8,if_pos k9]
  exact this
 by_cases k10:s.kd=10
 ·rw [k10,show Vf V9 10 0=some (9,kfn 100) from rfl] at h
  cases h
  refine ⟨_,rfl,Zrm,fun base hw p m pb g L B w h' hb=> ?_⟩
  have:=Zp2 base hw p m pb g L B s w h' hb
  unfold Xd
  rw [if_neg k1,if_neg k2,if_neg k3,if_neg k4,if_neg k5,if_neg k6,if_neg k7,if_neg k8,if_neg k9,if_pos k10]
  exact this
 by_cases k11:s.kd=11
 ·rw [k11,show Vf V9 11 0=some (10,kfn 101) from rfl] at h
  cases h
  refine ⟨_,rfl,fnat_left,fun base hw p m pb g L B w h' hb=> ?_⟩
  have:=wleft_any base hw p m pb g L B s w h' hb
  unfold Xd
  rw [if_neg k1,if_neg k2,if_neg k3,if_neg k4,if_neg k5,if_neg k6,if_neg k7,if_neg k8,if_neg k9,if_neg k10,if_pos k11]
  exact this
 have:=Zrc (k:=s.kd) (by simp [k1,k2,k3,k4,k5,k6,k7,k8,k9,k10,k11])
 rw [this] at h
 cases h
def Zfl (s:Stp):Prop:=∀r,Vf V9 s.kd 0=some r->∃f,r.2=kfn f/\Zay f/\Zp0 f s
theorem Jw (s:Stp) (hin:s.In):Zfl s:=fun r h=>kind_some s hin r h
structure IsM (w:World) (q p m pb:Nat) (g:Option Nat) (L:Led) (B:Bk):Prop where
 row:w.heap[q]? =some (Obj.cells #[.pointer (some ⟨p,0,none⟩),.pointer (some ⟨pb,0,none⟩)] 105 (0,0))
 led:IsLed w p m L
 book:IsBook w pb g B
 ok:MOk L B
theorem IsM.ext {w w':World} {q p m pb:Nat} {g:Option Nat} {L:Led} {B:Bk} (h:IsM w q p m pb g L B) (k:Ext w w'):IsM w' q p m pb g L B:=⟨k.at h.row,h.led.ext k,h.book.ext k,h.ok⟩
theorem Zg8 {w:World} {q:Nat} {x y:Value} (h:w.heap[q]? =some (Obj.cells #[x,y] 105 (0,0))):(loadVar 103 ⟨q,0,none⟩).run Tryz.prog w= .ok (.agg #[x,y]) w:=
 Zs w q 0 103 [x,y] _ (fun j u hu=>by
  refine Za h ?_
  rw [Nat.zero_add]
  match j,hu with
  | 0,hu=>exact hu
  | 1,hu=>exact hu) Tryz.underlying103 rfl (by kernel_rfl)
theorem Zeh (q p m pb:Nat) (g:Option Nat) (L:Led) (B:Bk) (w:World) (h:IsM w q p m pb g L B):Calls Tryz.prog 52 #[.pointer (some ⟨q,0,none⟩)] w (Ret (.bool true) w):=by
 have c0:=Za (j:=0) h.row rfl
 go_enter Tryz.func52,Tryz.ntmps52
 go_wp2
 go_ret
 exact ⟨rfl,Ext.refl _⟩
theorem Zeg (w:World):Calls Tryz.prog 52 #[.pointer none] w (Ret (.bool false) w):=by
 go_enter Tryz.func52,Tryz.ntmps52
 go_wp2
 go_ret
 exact ⟨rfl,Ext.refl _⟩
theorem Zoj (q:Nat) (w:World) (h:w.heap[q]? =some (Obj.cells #[.pointer none,.pointer none] 105 (0,0))):Calls Tryz.prog 52 #[.pointer (some ⟨q,0,none⟩)] w (Ret (.bool false) w):=by
 have c0:=Za (j:=0) h rfl
 go_enter Tryz.func52,Tryz.ntmps52
 go_wp2
 go_ret
 exact ⟨rfl,Ext.refl _⟩
def RetMa (L:Led) (B:Bk) (w:World) (e:Ending) (w':World):Prop:=
 ∃q p m pb g,e= .returned (.pointer (some ⟨q,0,none⟩))/\Ext w w'/\IsM w' q p m pb g L B/\w.heap.size<=q
theorem Zf6 (q p m pb:Nat) (g:Option Nat) (L:Led) (B:Bk) (w:World) (h:IsM w q p m pb g L B):Calls Tryz.prog 39 #[.pointer (some ⟨q,0,none⟩)] w (RetMa L B w):=by
 have hth:=Zeh q p m pb g L B w h
 go_enter Tryz.func39,Tryz.ntmps39
 go_wp2_with fail
 refine hth.mono ?_
 rintro e w1 ⟨rfl,e1⟩
 have h1:=h.ext e1
 have hcp:=Zdm p m pb g L B w1 h1.led h1.book
 have ldh:=Zg8 h1.row
 go_wp2_with (refine Zd rfl 103 _ _ _ rfl rfl ldh ?_)
 refine hcp.mono ?_
 rintro e w2 ⟨p',m',pb',g',rfl,e2,hL,hB,_⟩
 have hz:=Zb w2 (.cells #[.pointer (some ⟨p',0,none⟩),.pointer (some ⟨pb',0,none⟩)] 105)
 have ez:=Zc w2 (.cells #[.pointer (some ⟨p',0,none⟩),.pointer (some ⟨pb',0,none⟩)] 105)
 have hok:=h.ok
 have hsz:=(Xt e1 e2).size
 clear hth hcp h1 h
 go_wp2
 go_ret
 exact ⟨_,p',m',pb',g',rfl,Xt e1 (Xt e2 ez),⟨hz,hL.ext ez,hB.ext ez,hok⟩,hsz⟩
theorem Zok (w:World):Calls Tryz.prog 16 #[] w (RetMa Zjc ⟨[],1⟩ w):=by
 go_enter Tryz.func16,Tryz.ntmps16
 go_wp2_with fail
 refine (new_any _).mono ?_
 rintro e w1 ⟨p',m',rfl,e1,hL1,_⟩
 go_wp2_with fail
 refine (Zps _).mono ?_
 rintro e w2 hq
 simp only [RetBook] at hq
 obtain ⟨pb',g',rfl,e2,hB,_⟩:=hq
 have hz:=Zb w2 (.cells #[.pointer (some ⟨p',0,none⟩),.pointer (some ⟨pb',0,none⟩)] 105)
 have ez:=Zc w2 (.cells #[.pointer (some ⟨p',0,none⟩),.pointer (some ⟨pb',0,none⟩)] 105)
 have hL:=hL1.ext e2
 have hsz:=(Xt e1 e2).size
 go_wp2
 go_ret
 exact ⟨_,p',m',pb',g',rfl,Xt e1 (Xt e2 ez),⟨hz,hL.ext ez,hB.ext ez,wf_led0,fun o ho=>by simp at ho,by simp [Jm],fun o ho=>by simp at ho⟩,hsz⟩
def X3 (l:List Stp):List Value:=l.flatMap Stp.cells
def gtC1 (x:Gt):List Value:=[.int .i64 x.1,.int .i64 x.2]
def gtC (l:List Gt):List Value:=l.flatMap gtC1
theorem gtC_none (n:Nat):(List.replicate n [Value.int .i64 0,Value.int .i64 0]).flatten=gtC (List.replicate n (0,0)):=by
 unfold gtC
 induction n with
 | zero=>rfl
 | succ n ih=>rw [List.replicate_succ,List.replicate_succ,List.flatten_cons,List.flatMap_cons,ih];rfl
theorem Zna (l:List Gt):(gtC l).length=l.length*2:=Zap gtC1 2 (fun _=>rfl) l
theorem Zrg (l:List Gt) (k j:Nat) (hk:k<l.length) (hj:j<2):(gtC l)[k*2+j]? =(gtC1 (l[k]'hk))[j]? :=Za8 gtC1 2 (fun _=>rfl) l k j hk hj
theorem gtC_set (l:List Gt) (k:Nat) (hk:k<l.length) (x y:Int):((gtC l).set (k*2) (.int .i64 x)).set (k*2+1) (.int .i64 y)=gtC (l.set k (x,y)):=by
 have hl:=Zna l
 refine List.ext_getElem? fun m=> ?_
 rw [List.getElem?_set,List.getElem?_set]
 simp only [List.length_set]
 by_cases hm:m<l.length*2
 ·have hdiv:m / 2<l.length:=by omega
  have hmm:m=m / 2*2+m%2:=by omega
  have h2:=Zrg (l.set k (x,y)) (m / 2) (m%2) (by rw [List.length_set];exact hdiv) (by omega)
  rw [<-hmm,List.getElem_set] at h2
  have h3:=Zrg l (m / 2) (m%2) hdiv (by omega)
  rw [<-hmm] at h3
  rw [h2]
  by_cases e:k=m / 2
  ·rw [if_pos e]
   by_cases e0:m%2=0
   ·rw [if_neg (by omega),if_pos (by omega),if_pos (by omega),e0];rfl
   rw [if_pos (by omega),if_pos (by omega),show m%2=1 by omega];rfl
  rw [if_neg e,if_neg (by omega),if_neg (by omega),h3]
 rw [if_neg (by omega),if_neg (by omega),List.getElem?_eq_none (by omega),List.getElem?_eq_none (by rw [Zna,List.length_set];omega)]
def gtK (gl:List Gt) (n:Nat):List Gt:=gl++List.replicate (n-gl.length) (0,0)
theorem gtK_len {gl:List Gt} {n:Nat} (h:gl.length<=n):(gtK gl n).length=n:=by unfold gtK;simp;omega
theorem gtK_set {gl:List Gt} {n:Nat} (h:gl.length<n) (x:Gt):(gtK gl n).set gl.length x=gtK (gl++[x]) n:=by
 unfold gtK
 rw [List.set_append,if_neg (by omega),Nat.sub_self,List.length_append,List.length_singleton,show n-gl.length=(n-(gl.length+1))+1 by omega,List.replicate_succ,List.set_cons_zero,List.append_assoc]
 rfl
theorem gtK_full {gl:List Gt} {n:Nat} (h:gl.length=n):gtK gl n=gl:=by unfold gtK;rw [h,Nat.sub_self];simp
theorem Zp9 (l:List Stp) (k j:Nat) (hk:k<l.length) (hj:j<10):(X3 l)[k*10+j]? =((l[k]'hk).cells)[j]? :=Za8 Stp.cells 10 (fun _=>rfl) l k j hk hj
theorem Zn.arg {w:World} {base size n:Nat} {v:Value} {xs:List Value} (h:Zn w base size v n xs):Zbu w size v n xs:=by
 obtain ⟨A,cap,hv,h1,h2,h3,h4⟩:=h
 refine ⟨A,cap,hv,h1,h2,h3,?_⟩
 rcases h4 with h4 | ⟨g,hA,_,hlt,hc⟩
 ·exact .inl h4
 exact .inr ⟨g,0,hA,hlt,fun j u hu=>by rw [Nat.zero_add];exact hc j u hu⟩
theorem load_st (w:World) (g off k:Nat) (l:List Stp) (hk:k<l.length) (h:∀j u,(X3 l)[j]? =some u->w.cell? ⟨g,off+j,none⟩=some u):
 (loadVar 30 ⟨g,off+k*10,none⟩).run Tryz.prog w= .ok ((l[k]'hk).agg) w:=
 Zs w g (off+k*10) 30 ((l[k]'hk).cells) _ (fun j u hu=>by
  have hj:j<10:=(List.getElem?_eq_some_iff.1 hu).1
  rw [Nat.add_assoc]
  exact h _ _ ((Zp9 l k j hk hj).trans hu)) Tryz.underlying30 rfl (by kernel_rfl)
theorem FrA.ext0 {A:Nat->Prop} {w a b:World} (e:Ext w a) (k:FrA A a b) (hA:∀x,A x->w.heap.size<=x):Ext w b:=by
 refine ⟨k.os.trans e.os,k.tape.trans e.tape,k.output.trans e.output,Nat.le_trans e.size k.size,fun _ hi=> ?_⟩
 exact (k.block _ (Nat.lt_of_lt_of_le hi e.size) (fun h=>by have:=hA _ h;omega)).trans (e.block hi)
theorem own_fra {A:Nat->Prop} {w w':World} {base size n:Nat} {e:TypeId} {v:Value} {xs:List Value} (h:w.ownsRow base e size v n xs) (k:FrA A w w') (hA:∀b,v.ownBlock=some b->¬A b):w'.ownsRow base e size v n xs:=by
 refine ⟨h.1,?_⟩
 rcases h.2 with h4 | ⟨b,cap,cur,hv,hb,hg,rest⟩
 ·exact .inl h4
 exact .inr ⟨b,cap,cur,hv,hb,k.at hg (hA b (by rw [hv];rfl)),rest⟩
theorem IsH.keep {S:List Nat} {w w':World} {base:Nat->Prop} {hw p m pb:Nat} {g:Option Nat} {L:Led} {B:Bk} (h:IsH w base hw p m pb g L B) (k:Keep S w w') (hS:∀x∈S,¬base x):IsH w' base hw p m pb g L B:=
 ⟨k.at h.row (fun hm=>hS _ hm h.lo.1),h.led.keep k (fun hm=>hS _ hm h.lo.2.1) (fun hm=>hS _ hm h.lo.2.2.1),h.book.keep k (fun hm=>hS _ hm h.lo.2.2.2.1) (fun x hx hm=>hS _ hm (h.lo.2.2.2.2 x hx)),h.ok,h.lo⟩
theorem got_info:(Tryz.prog.info? 55).map (fun i=>(i.zero,i.size,i.bytes))=some (some (.agg #[.int .i64 0,.int .i64 0]),2,16):=by kernel_rfl
theorem Zpx {l:List Stp} (h:l.length=0\/8<l.length) (L:Led) (B:Bk):Z6 l L B=((3,0,[]),L,B):=by unfold Z6;rw [if_pos h]
theorem Zgr {l:List Stp} (h:¬(l.length=0\/8<l.length)) (L:Led) (B:Bk) {e i:Int} {gl:List Gt} {L':Led} {B':Bk} (hr:Zak l 0 L B []=(e,i,gl,L',B')) (he:e≠0):Z6 l L B=((e,i,[]),L,B):=by unfold Z6;rw [if_neg h,hr,if_pos he]
theorem Zj6 {l:List Stp} (h:¬(l.length=0\/8<l.length)) (L:Led) (B:Bk) {i:Int} {gl:List Gt} {L':Led} {B':Bk} (hr:Zak l 0 L B []=(0,i,gl,L',B')):Z6 l L B=((0,0,gl),L',B'):=by unfold Z6;rw [if_neg h,hr,if_neg (by simp)]
theorem Zev (s:Stp) (l:List Stp) (i:Int) (L:Led) (B:Bk) (g:List Gt) (h:(Xd s L B).2.1≠0):Zak (s::l) i L B g=((Xd s L B).2.1,i,[],L,B):=by rw [Zak,if_pos h]
theorem Zfx (s:Stp) (l:List Stp) (i:Int) (L:Led) (B:Bk) (g:List Gt) (h:(Xd s L B).2.1=0):Zak (s::l) i L B g=Zak l (i+1) (Xd s L B).2.2.1 (Xd s L B).2.2.2 (g++[(Xd s L B).1]):=by rw [Zak,if_neg (by simpa using h)]
structure ApI (base:Nat->Prop) (l:List Stp) (L0:Led) (B0:Bk) (w:World) (vv:Value) (km ga hw k:Nat) (p m pb:Nat) (g:Option Nat) (L:Led) (B:Bk) (gl:List Gt) (wr:World):Prop where
 len:gl.length=k
 run:Zak l 0 L0 B0 []=Zak (l.drop k) k L B gl
 house:IsH wr base hw p m pb g L B
 ext:Ext w wr
 cmd:wr.heap[w.heap.size]? =some (.cells #[vv] 42 (0,0))
 rep:wr.heap[w.heap.size+1]? =some (.cells #[.int .i64 0,.int .i64 0,.slice none 0 0] 38 (0,0))
 kin:Zfm wr km
 own:wr.ownsRow w.heap.size 55 2 (.slice (some ⟨ga,0,none⟩) l.length l.length) l.length (gtC (gtK gl l.length))
def RetAp (q:Nat) (r:(Int×Int×List Gt)×Led×Bk) (w:World) (e:Ending) (w':World):Prop:=
 ∃v p m pb g,e= .returned (.agg #[.int .i64 r.1.1,.int .i64 r.1.2.1,v])/\FrA (fun x=>x=q) w w'/\Zn w' w.heap.size 2 v r.1.2.2.length (gtC r.1.2.2)/\IsM w' q p m pb g r.2.1 r.2.2
theorem IsM.keep {S:List Nat} {w w':World} {q p m pb:Nat} {g:Option Nat} {L:Led} {B:Bk} (h:IsM w q p m pb g L B) (k:Keep S w w') (h1:q∉S) (h2:p∉S) (h3:m∉S) (h4:pb∉S) (h5:∀x,g=some x->x∉S):IsM w' q p m pb g L B:=
 ⟨k.at h.row h1,h.led.keep k h2 h3,h.book.keep k h4 h5,h.ok⟩
theorem Zbf (w:World) (base size:Nat):Zn w base size (.slice none 0 0) 0 []:=⟨none,0,rfl,Nat.le_refl _,by unfold maxLen;omega,by simp,.inl rfl⟩
theorem own_there {w:World} {base n ga:Nat} {gl:List Gt} (h:w.ownsRow base 55 2 (.slice (some ⟨ga,0,none⟩) n n) n (gtC (gtK gl n))) (hk:gl.length<n):w.there ga (gl.length*2) 2:=fun j hj=>by
 obtain ⟨cur,hrow⟩:=Us h
 refine ⟨?_,frozen_of_row _ ga _ _ _ hrow⟩
 have hlt:gl.length*2+j<(gtC (gtK gl n)).length:=by rw [Zna,gtK_len (by omega)];omega
 rw [(Yc h).2 _ _ (List.getElem?_eq_getElem hlt)]
 rfl
theorem own_got {w:World} {base n ga:Nat} {gl:List Gt} (h:w.ownsRow base 55 2 (.slice (some ⟨ga,0,none⟩) n n) n (gtC (gtK gl n))) (hk:gl.length<n) (x y:Int):
 (w.setCells ga (gl.length*2) #[Value.int .i64 x,.int .i64 y].toList).ownsRow base 55 2 (.slice (some ⟨ga,0,none⟩) n n) n (gtC (gtK (gl++[(x,y)]) n))/\Keep [ga] w (w.setCells ga (gl.length*2) #[Value.int .i64 x,.int .i64 y].toList):=by
 have e:w.setCells ga (gl.length*2) #[Value.int .i64 x,.int .i64 y].toList=(w.setCell ⟨ga,gl.length*2,none⟩ (.int .i64 x)).setCell ⟨ga,gl.length*2+1,none⟩ (.int .i64 y):=rfl
 rw [e]
 refine ⟨?_,Keep.setCell (Keep.setCell (Keep.refl _ _) (.inl (by simp)) _) (.inl (by simp)) _⟩
 have h5:=Zad (Zad h (gl.length*2) (.int .i64 x)) (gl.length*2+1) (.int .i64 y)
 rwa [gtC_set _ _ (by rw [gtK_len (by omega)];exact hk),gtK_set hk] at h5
theorem Zbs (q p m pb:Nat) (g:Option Nat) (L:Led) (B:Bk) (l:List Stp) (v:Value) (w:World) (h:IsM w q p m pb g L B) (hs:Zbu w 10 v l.length (X3 l)) (hin:∀s∈l,Zfl s):
 Calls Tryz.prog 17 #[.pointer (some ⟨q,0,none⟩),.agg #[v]] w (RetAp q (Z6 l L B) w):=by
 obtain ⟨i0,hi,hz0,hz1,hz2⟩:=info_parts got_info
 obtain ⟨A,cap,rfl,q1,q2,q3,q4⟩:=hs
 obtain ⟨vv,hvv⟩:∃vv,vv=Value.slice A l.length cap:=⟨_,rfl⟩
 have VV:=Lib.hid hvv
 rw [<-hvv]
 have hql:=Zg h.row
 have e0:=Zc w (.cells #[vv] 42)
 have h0:=Zb w (.cells #[vv] 42)
 have s0:=size_alloc w (.cells #[vv] 42)
 generalize hW:w.alloc (.cells #[vv] 42)=W at *
 have HW:=Lib.hid hW
 clear hW hvv q3
 obtain ⟨r,hr⟩:∃r,r=Z6 l L B:=⟨_,rfl⟩
 have HR:=Lib.hid hr
 rw [<-hr]
 clear hr
 go_enter Tryz.func17,Tryz.ntmps17
 go_wp2_with (first
  | (refine Zu rfl 38 rfl (.cells #[.int .i64 0,.int .i64 0,.slice none 0 0] 38) _ rfl (by go_simp) ?_
     rw [HW.out]
     intro w2 e2 h2
     rw [s0] at h2))
 have h02:=e2.at h0
 have e02:=Xt e0 e2
 have s2:=Zg h2
 clear e0 h0 e2 HW s0
 refine (Zeh q p m pb g L B w2 (h.ext e02)).mono ?_
 rintro e w3 ⟨rfl,e3⟩
 have e03:=Xt e02 e3
 have h03:=e3.at h02
 have h3:=e3.at h2
 have h3M:=h.ext e03
 have s3:=e3.size
 clear h02 h2
 by_cases hn:l.length=0\/8<l.length
 ·have HA:=Lib.hid (Zpx hn L B)
  have c0:=Za (j:=0) h03 rfl
  rw [VV.out] at c0
  rcases hn with hn | hn
  focus
   rw [hn] at c0
   have g1:decide ((0:Int)<1)=true:=rfl
  rotate_left
  focus
   have g1:decide ((l.length:Int)<1)=false:=by simp;omega
   have g2:decide ((l.length:Int) > 8)=true:=by simp;omega
  all_goals
   go_wp2_with (refine Ze rfl rfl 38 _ _ rfl (w.heap.size+1) _ rfl rfl 38 _ h3 (by kernel_rfl) (by rfl) (by rfl) ?_
                intro w8 hb8 ho8 hs8)
   exact Yp (w.heap.size+1) 38 _ _ _ rfl rfl hs8 Tryz.underlying38 rfl (by kernel_rfl) rfl (by
    have e8:Ext w w8:=hb8 _ _ (by omega) e03
    rw [HR.out,HA.out]
    exact ⟨_,p,m,pb,g,rfl,FrA.of_ext e8,Zbf _ _ _,h.ext e8⟩)
 have c0:=Za (j:=0) h03 rfl
 rw [VV.out] at c0
 have g1:decide ((l.length:Int)<1)=false:=by simp;omega
 have g2:decide ((l.length:Int) > 8)=false:=by simp;omega
 have ldh:=Zg8 h3M.row
 have hcp:=Zdm p m pb g L B w3 h3M.led h3M.book
 have HN:=Lib.hid hn
 go_wp2_with (refine Zd rfl 103 _ _ _ rfl rfl ldh ?_)
 refine hcp.mono ?_
 rintro e w4 ⟨p4,m4,pb4,g4,rfl,e4,hL4,hB4,n1,n2,n3,n4⟩
 have hz:=Zb w4 (.cells #[.pointer (some ⟨p4,0,none⟩),.pointer (some ⟨pb4,0,none⟩)] 137)
 have ez:=Zc w4 (.cells #[.pointer (some ⟨p4,0,none⟩),.pointer (some ⟨pb4,0,none⟩)] 137)
 clear hcp ldh c0 g1 g2
 go_wp2_with fail
 generalize w4.alloc (.cells #[.pointer (some ⟨p4,0,none⟩),.pointer (some ⟨pb4,0,none⟩)] 137)=w5 at *
 refine (kinds_any _).mono ?_
 rintro e w6 ⟨km,rfl,e6,hk6,hkm⟩
 have E6:Ext w3 w6:=Xt e4 (Xt ez e6)
 have h06:=E6.at h03
 have h6:=E6.at h3
 have c6:=Za (j:=0) h06 rfl
 rw [VV.out] at c6
 have hxs:(madeCells (Value.agg #[.int .i64 0,.int .i64 0]).cells (l.length*2)).toList=gtC (List.replicate l.length (0,0)):=by
  show (madeCells #[.int .i64 0,.int .i64 0] (l.length*2)).toList=_
  rw [made2,gtC_none]
 have hb2:i0.bytes*l.length<=281474976710656:=by rw [hz2];omega
 have hb3:l.length<=maxLen:=by unfold maxLen;omega
 go_wp2_with (first
  | (at_make;refine Zaa rfl _ _ 36 rfl w6.heap.size 55 i0 _ 2 Tryz.underlying36 hi hz0 hz1 _ _ l.length rfl rfl hb2 hb3 (Nat.le_refl _) _ hxs ?_
     intro w7 e7 hlt7 hown7
     have c7:=Za (j:=0) (e7.at h06) rfl
     rw [VV.out] at c7))
 have hkml:km<w6.heap.size:=by obtain ⟨es,cl,hm,_⟩:=hk6;exact Zg hm
 obtain ⟨ga,hga⟩:∃ga,ga=w6.heap.size:=⟨_,rfl⟩
 rw [<-hga] at hown7 hlt7 ⊢
 have s4:=e4.size
 have s5:=ez.size
 have s6:=e6.size
 have l4:=Zg hz
 have hga1:w6.heap.size<=ga:=by omega
 obtain ⟨base,hbase⟩:∃base:Nat->Prop,base=fun x=>w.heap.size+2<=x/\x≠km/\x≠ga:=⟨_,rfl⟩
 have hba:∀x,base x->w.heap.size+2<=x/\x≠km/\x≠ga:=fun x hx=>by rw [hbase] at hx;exact hx
 have hbb:∀x,w.heap.size+2<=x->x≠km->x≠ga->base x:=fun x h1 h2 h3=>by rw [hbase];exact ⟨h1,h2,h3⟩
 have E47:Ext w4 w7:=Xt ez (Xt e6 e7)
 have hI0:ApI base l L B w vv km ga w4.heap.size 0 p4 m4 pb4 g4 L B [] w7:=by
  refine ⟨rfl,by simp,⟨(Xt e6 e7).at hz,hL4.ext E47,hB4.ext E47,h.ok,?_,?_,?_,?_,?_⟩,Xt e03 (Xt E6 e7),e7.at h06,e7.at h6,hk6.keep (Kx (S:=[]) e7) (by simp),?_⟩
  ·exact hbb _ (by omega) (by omega) (by omega)
  ·have:=hL4.ltp;exact hbb _ (by omega) (by omega) (by omega)
  ·have:=hL4.ltm;exact hbb _ (by omega) (by omega) (by omega)
  ·have:=hB4.ltp;exact hbb _ (by omega) (by omega) (by omega)
  ·intro x hx
   have:=n4 x hx
   have:=hB4.ltg x hx
   exact hbb _ (by omega) (by omega) (by omega)
  have:=Uj hown7 (show w.heap.size<=ga by omega)
  simpa [gtK] using this
 have hwn:w.heap.size+2<=w4.heap.size:=by omega
 have hgar:w.heap.size+1<ga:=by omega
 have hkga:km<ga:=by omega
 generalize w4.heap.size=hw at *
 clear hga hbase hxs hb2 hb3 hown7 c6 h06 h6 hk6 E47 hz ez e6 e7 hL4 hB4 E6 h03 h3 h3M hkm n1 n2 n3 n4 hi hz0 hz1 hz2 hn s2 s3 s4 s5 s6 l4 hlt7 hkml e02 e03 e3 e4 c7
 have hn63:(l.length:Int)<=9223372036854775807:=by have:=HN.out;omega
 go_loopw [8,9,10,11,12,13,46,47,48,49,50,51,52,53,54,55,56,57,58,59,60,61,62,63,64,65,66,67,68,69,70,71,72,73,74,75,76,77,78] (fun _ _ _ _ _ _ iv _ _ _ _ _ _ _ _ _ _ _ _ _ _ _ _ _ _ _ _ _ _ _ _ _ _ _ _ _ _ _ _ wr=>∃k:Nat,k<=l.length/\iv= .int .i64 k/\∃p5 m5 pb5 g5 L5 B5 gl,ApI base l L B w vv km ga hw k p5 m5 pb5 g5 L5 B5 gl wr) (fun _ _ _ _ _ _ iv _ _ _ _ _ _ _ _ _ _ _ _ _ _ _ _ _ _ _ _ _ _ _ _ _ _ _ _ _ _ _ _ _=>l.length-(intOf iv).toNat)
 case atStart=>exact ⟨0,Nat.zero_le _,rfl,_,_,_,_,_,_,_,hI0⟩
 obtain ⟨k,hk,rfl,p5,m5,pb5,g5,L5,B5,gl,len,run,house,ext,cmd,rep,kin,own⟩:=hrel
 clear hI0
 subst len
 by_cases hkn:gl.length<l.length
 ·rcases q4 with q4 | ⟨g0,off,rfl,hlt,hcell⟩
  ·omega
  have hld:=load_st wr g0 off gl.length l hkn (fun j u hu=>(Zf (ext.block hlt)).trans (hcell j u hu))
  have hdr:=List.drop_eq_getElem_cons hkn
  have hins:=hin _ (List.getElem_mem hkn)
  generalize l[gl.length]'hkn=s at *
  obtain ⟨kd,pa,pbb,ca,cb,am,mx,nu,de,sq⟩:=s
  simp only [Stp.agg] at hld
  rw [hdr] at run
  have RUN:=Lib.hid run
  have INS:=Lib.hid hins
  have k0:(0:Int)<=(gl.length:Int):=by omega
  have k1:(gl.length:Int)<(l.length:Int):=by omega
  have k2:decide ((gl.length:Int)<(l.length:Int))=true:=by simpa using hkn
  have hz5:=Zb wr (.cells #[.int .u8 0,.int .u8 0,.int .u8 0,.int .u8 0,.int .u8 0,.int .i64 0,.int .i64 0,.int .i64 0,.int .i64 0,.int .u64 0] 30)
  have ez5:=Zc wr (.cells #[.int .u8 0,.int .u8 0,.int .u8 0,.int .u8 0,.int .u8 0,.int .i64 0,.int .i64 0,.int .i64 0,.int .i64 0,.int .u64 0] 30)
  clear hcell hdr run hins
  obtain ⟨es,clock,hkm,hes⟩:=kin
  cases hkf:Vf V9 kd 0 with
  | none=>
    have hst:=Zp7 ⟨kd,pa,pbb,ca,cb,am,mx,nu,de,sq⟩ L5 B5 hkf
    have HST:=Lib.hid hst
    clear hst
    go_wp2_with (first
     | (refine Zd rfl 30 _ _ _ rfl rfl hld ?_)
     | (refine Ze rfl rfl 30 _ _ rfl wr.heap.size _ rfl rfl 30 _ hz5 (by kernel_rfl) (by rfl) (by rfl) ?_
        intro w8 hb8 ho8 hs8
        have e8:Ext wr w8:=hb8 _ _ (Nat.le_refl _) ez5
        have z0:=Za (j:=0) hs8 rfl
        have hlk:=Zji kd km clock V9 es w8 (e8.at hkm) hes
        rw [hkf] at hlk
        simp only at hlk
        have hr8:=e8.at rep)
     | (refine Ze rfl rfl 38 _ _ rfl (w.heap.size+1) _ rfl rfl 38 _ hr8 (by kernel_rfl) (by rfl) (by rfl) ?_
        intro w9 hb9 ho9 hs9))
    exact Yp (w.heap.size+1) 38 _ _ _ rfl rfl hs9 Tryz.underlying38 rfl (by kernel_rfl) rfl (by
     have e9:Ext w w9:=hb9 _ _ (by omega) (Xt ext e8)
     have hrun:=RUN.out
     rw [Zev _ _ _ _ _ _ (by rw [HST.out];show (1:Int)≠0;decide),HST.out] at hrun
     rw [HR.out,Zgr HN.out L B hrun (show (1:Int)≠0 by decide)]
     exact ⟨_,p,m,pb,g,rfl,FrA.of_ext e9,Zbf _ _ _,h.ext e9⟩)
  | some fr=>
    obtain ⟨f,hrf,⟨fn,hf1,hf2,hf3⟩,hdo⟩:=INS.out fr hkf
    obtain ⟨fi,fv⟩:=fr
    simp only at hrf
    subst hrf
    have HCAL:=Lib.hid (fun W k1 k2=>hdo base hw p5 m5 pb5 g5 L5 B5 W k1 k2)
    clear hdo
    obtain ⟨sm,hsm⟩:∃sm,sm=Xd ⟨kd,pa,pbb,ca,cb,am,mx,nu,de,sq⟩ L5 B5:=⟨_,rfl⟩
    rw [<-hsm] at HCAL
    have HSM:=Lib.hid hsm.symm
    clear hsm
    obtain ⟨sg,se,sL,sB⟩:=sm
    have hx1:=Zg rep
    have hx2:=Zg hkm
    have hx3:=(Yc own).1
    go_wp2_with (first
     | (refine Zd rfl 30 _ _ _ rfl rfl hld ?_)
     | (refine Ze rfl rfl 30 _ _ rfl wr.heap.size _ rfl rfl 30 _ hz5 (by kernel_rfl) (by rfl) (by rfl) ?_
        intro w8 hb8 ho8 hs8
        have e8:Ext wr w8:=hb8 _ _ (Nat.le_refl _) ez5
        have z0:=Za (j:=0) hs8 rfl
        have hlk:=Zji kd km clock V9 es w8 (e8.at hkm) hes
        rw [hkf] at hlk
        simp only at hlk
        have ldst:=run_loadVar_row (P:=Tryz.prog) w8 wr.heap.size _ 30 _ _ _ hs8 Tryz.underlying30 rfl (by kernel_rfl))
     | (refine Zd rfl 30 _ _ _ rfl rfl ldst ?_)
     | (refine Zmi rfl _ rfl _ _ _ rfl f fn rfl hf1 hf2 hf3 _ rfl ?_))
    have hs8':=e8.size
    refine (HCAL.out w8 (house.ext e8) (fun x hx=>hbb x (by omega) (by omega) (by omega))).mono ?_
    rintro e wc ⟨x,y,rfl,kc,hgood⟩
    refine ⟨_,rfl,?_⟩
    have hnb:¬base ga:=fun hx=>(hba ga hx).2.2 rfl
    have hnk:¬base km:=fun hx=>(hba km hx).2.1 rfl
    have hnr:¬base (w.heap.size+1):=fun hx=>by have:=hba _ hx;omega
    have hnc:¬base w.heap.size:=fun hx=>by have:=hba _ hx;omega
    have ownc:=own_fra (Zo own e8) kc (fun b hb=>by
     have:ga=b:=by injection hb
     subst this
     exact hnb)
    have repc:=kc.at (e8.at rep) hnr
    have cmdc:=kc.at (e8.at cmd) hnc
    have kmc:=kc.at (e8.at hkm) hnk
    have extc:Ext w wc:=FrA.ext0 (Xt ext e8) kc (fun x hx=>by have:=hba x hx;omega)
    clear hlk ldst z0 hs8 hz5 ez5 hld rep cmd hkm ho8 hb8 kc
    by_cases hse:se=0
    ·subst hse
     obtain ⟨hxy,p6,m6,pb6,g6,hH6⟩:=hgood rfl
     have HXY:=Lib.hid hxy
     clear hgood hxy
     go_wp2_with (first
      | (refine Zu rfl 55 rfl (.cells #[.int .i64 0,.int .i64 0] 55) _ rfl (by go_simp) ?_
         intro w9 e9 hr9)
      | (refine Ze rfl rfl 55 _ _ rfl wc.heap.size _ rfl rfl 55 _ hr9 (by kernel_rfl) (by rfl) (by rfl) ?_
         intro w10 hb10 ho10 hs10
         have e10:Ext wc w10:=hb10 _ _ (Nat.le_refl _) e9
         have own10:=Zo ownc e10
         have hth:=own_there own10 hkn
         have ldg:=run_loadVar_row (P:=Tryz.prog) w10 wc.heap.size _ 55 _ _ _ hs10 Tryz.underlying55 rfl (by kernel_rfl))
      | (refine Zd rfl 55 _ _ _ rfl rfl ldg ?_)
      | (refine Zd7 rfl rfl 55 _ _ rfl ga (gl.length*2) #[.int .i64 x,.int .i64 y] rfl rfl hth (by kernel_rfl) (by simp [Value.oneCell']) ?_))
     obtain ⟨own11,k11⟩:=own_got own10 hkn x y
     have hgn:∀k,k≠ga->k∉[ga]:=fun k hk=>by simpa using hk
     refine ⟨⟨gl.length+1,by omega,by go_num,p6,m6,pb6,g6,sL,sB,gl++[(x,y)],by simp,?_,(hH6.ext e10).keep k11 (fun z hz=>by rw [List.mem_singleton.1 hz];exact hnb),(Keep.trans_fresh (S:=[]) (Kx (Xt extc e10)) k11 (fun z hz=>by right;rw [List.mem_singleton.1 hz];omega)).ext,k11.at (e10.at cmdc) (hgn _ (by omega)),k11.at (e10.at repc) (hgn _ (by omega)),⟨es,clock,k11.at (e10.at kmc) (hgn _ (by omega)),hes⟩,own11⟩,by simp [intOf];omega⟩
     rw [RUN.out,Zfx _ _ _ _ _ _ (by rw [HSM.out]),HSM.out,HXY.out,show (((gl.length+1:Nat)):Int)=(gl.length:Int)+1 by omega]
    have hse1:(se==0)=false:=by simpa using hse
    have hse2:(se !=0)=true:=by simpa using hse
    clear hgood
    go_wp2_with (first
     | (refine Zu rfl 55 rfl (.cells #[.int .i64 0,.int .i64 0] 55) _ rfl (by go_simp) ?_
        intro w9 e9 hr9)
     | (refine Ze rfl rfl 55 _ _ rfl wc.heap.size _ rfl rfl 55 _ hr9 (by kernel_rfl) (by rfl) (by rfl) ?_
        intro w10 hb10 ho10 hs10
        have e10:Ext wc w10:=hb10 _ _ (Nat.le_refl _) e9
        have hr10:=e10.at repc)
     | (refine Ze rfl rfl 38 _ _ rfl (w.heap.size+1) _ rfl rfl 38 _ hr10 (by kernel_rfl) (by rfl) (by rfl) ?_
        intro w11 hb11 ho11 hs11))
    exact Yp (w.heap.size+1) 38 _ _ _ rfl rfl hs11 Tryz.underlying38 rfl (by kernel_rfl) rfl (by
     have e11:Ext w w11:=hb11 _ _ (by omega) (Xt extc e10)
     have hrun:=RUN.out
     rw [Zev _ _ _ _ _ _ (by rw [HSM.out];exact hse),HSM.out] at hrun
     rw [HR.out,Zgr HN.out L B hrun hse]
     exact ⟨_,p,m,pb,g,rfl,FrA.of_ext e11,Zbf _ _ _,h.ext e11⟩)
 have hk':gl.length=l.length:=by omega
 have HK:=Lib.hid hk'
 have k3:decide ((gl.length:Int)<(l.length:Int))=false:=by simp;omega
 have k3n:decide (gl.length<l.length)=false:=by simp;omega
 have hrow:=ext.at h.row
 have ldh:=Zek house.row
 have RUN:=Lib.hid run
 clear run hk' hk hkn q4
 go_wp2_with (first
  | (refine Zd rfl 103 _ _ _ rfl rfl ldh ?_)
  | (refine Ze rfl rfl 103 _ _ rfl q _ rfl rfl 105 _ hrow (by kernel_rfl) (by rfl) (by rfl) ?_
     intro w8 hb8 ho8 hs8
     have hr8:=(ho8 (w.heap.size+1) (by omega)).trans rep)
  | (refine Ze rfl rfl 38 _ _ rfl (w.heap.size+1) _ rfl rfl 38 _ hr8 (by kernel_rfl) (by rfl) (by rfl) ?_
     intro w9 hb9 ho9 hs9))
 exact Yp (w.heap.size+1) 38 _ _ _ rfl rfl hs9 Tryz.underlying38 rfl (by kernel_rfl) rfl (by
  have HN2:=HN.out
  have hrun:=RUN.out
  rw [HK.out,List.drop_length] at hrun
  rw [HR.out,Zj6 HN2 L B (hrun.trans rfl)]
  have BQ:=hb8 q wr (Nat.le_refl _) (Below.refl _ _)
  have KQ:Keep [q] wr w8:=⟨BQ.os,BQ.tape,BQ.output,BQ.size,fun k _ hk=>ho8 k (by simpa using hk)⟩
  have BZ:=hb9 (w.heap.size+1) w8 (Nat.le_refl _) (Below.refl _ _)
  have KZ:Keep [w.heap.size+1] w8 w9:=⟨BZ.os,BZ.tape,BZ.output,BZ.size,fun k _ hk=>ho9 k (by simpa using hk)⟩
  have F9:FrA (fun x=>x=q) w w9:=Z8 (Z8 (FrA.of_ext ext) KQ (fun x hx=>.inl (List.mem_singleton.1 hx))) KZ (fun x hx=>.inr (by rw [List.mem_singleton.1 hx];omega))
  have KA:Keep [q,w.heap.size+1] wr w9:=(KQ.mono (fun x hx=>by simp at hx ⊢;omega)).trans (KZ.mono (fun x hx=>by simp at hx ⊢;omega))
  obtain ⟨b1,b2,b3,b4,b5⟩:=house.lo
  have b1':=hba _ b1
  have b2':=hba _ b2
  have b3':=hba _ b3
  have b4':=hba _ b4
  have hgaw:w.heap.size<=ga:=by
   rcases own.2 with h4 | ⟨b,cp,cur,hv,hb,_⟩
   ·cases h4.1
   injection hv with hv;injection hv with hv;injection hv with hv;rw [hv];exact hb
  have own9:=own_fra own (show FrA (fun x=>x=q\/x=w.heap.size+1) wr w9 from ⟨KA.os,KA.tape,KA.output,KA.size,fun k hk hA=>KA.block k hk (by simpa using hA)⟩) (fun b hb=>by
   have:ga=b:=by injection hb
   subst this
   rintro (hx | hx)
   ·omega
   have:=Us own
   obtain ⟨cur,hrow2⟩:=this
   rw [hx,rep] at hrow2
   injection hrow2 with hrow2
   injection hrow2 with _ h2
   exact absurd h2 (by decide))
  refine ⟨_,p5,m5,pb5,g5,rfl,F9,?_,⟨KZ.at hs8 (by simp;omega),house.led.keep KA (by simp;omega) (by simp;omega),house.book.keep KA (by simp;omega) (fun x hx=>by have:=hba _ (b5 x hx);simp;omega),house.ok⟩⟩
  have:=Zn.of_own own9
  rw [gtK_full HK.out] at this
  simp only [HK.out]
  exact this)
end Go.Proofs.YtipjchbdogmccaaGreat
