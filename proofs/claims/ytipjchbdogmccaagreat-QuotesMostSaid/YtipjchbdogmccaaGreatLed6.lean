/- The ledger, further: new; a copy. The ledger, further: its parties. -/
import Derived.Test.YtipjchbdogmccaaGreatLed4
import Derived.Laws.Externs
import Derived.Test.YtipjchbdogmccaaGreatGen
import Derived.WalkKit
import Derived.BigCall
import Derived.Maps.AppendAt
import Derived.Laws.OwnMore
set_option maxHeartbeats 1600000
set_option maxRecDepth 100000
namespace Go.Rg
variable {P:Program} {ops:Array Oper} {md:Region.Mode}
theorem wpX_call {n f:Nat} {L:Array Bool->Act->World->Prop} {listed:Array Bool} {a:Act} {w0 w:World} (i:Nat) (o:Oper) (g:FuncId) (args:Array Value) (hop:∀w,(execOp a.eval o).run P w= .ok (.enter g args) w) (hg:o.guard=none)
 (hr:Region.ready md ops listed=[i]) (hin:i<n) (ho:ops[i]? =some o)
 (h:∀w':World,Ext w0 w'->Ext w w'->Calls P g args w' (fun e w''=>∃v,e= .returned v/\Ext w0 w''/\wpX P md ops w0 n L f (listed.setIfInBounds i true) (a.put o.dst v) w'')):wpX P md ops w0 n L (f+1) listed a w:=by
 refine Vq i o hr hin ho (by simp [Region.wanted,hg]) fun w' h0 hw'=> ?_
 unfold Xn
 rw [hop w']
 exact h w' h0 hw'
theorem Zdx {a:Act} {o:Oper} {g:FuncId} {args:Array Operand} {ts:Array TypeId} (fn:Func) (hop:o.op= .call { callee:= .value (.func g),args:=args,argTypes:=ts }) (hf:P.funcs[g]? =some fn) (hb:fn.body.isNone=false)
 (hn:(fn.name== "runtime.NumGoroutine")=false) (w:World):(execOp a.eval o).run P w= .ok (.enter g (args.map a.eval)) w:=by
 have hb':fn.body≠none:=by intro h;simp [h] at hb
 have hn':fn.name≠ "runtime.NumGoroutine":=by simpa using hn
 unfold execOp
 simp [hop,go_sem,callFunc,hf,hb',hn',Result.andThen]
theorem Zv {n f:Nat} {L:Array Bool->Act->World->Prop} {listed:Array Bool} {a:Act} {w0 w:World} (i:Nat) (g:FuncId) (fn:Func) (vals:Array Value) (o:Oper) (ho:ops[i]? =some o) (args:Array Operand) (ts:Array TypeId)
 (hop:o.op= .call { callee:= .value (.func g),args:=args,argTypes:=ts }) (hf:P.funcs[g]? =some fn) (hb:fn.body.isNone=false) (hn:(fn.name== "runtime.NumGoroutine")=false) (hv:args.map a.eval=vals) (hg:o.guard=none)
 (hr:Region.ready md ops listed=[i]) (hin:i<n)
 (h:∀w':World,Ext w0 w'->Ext w w'->Calls P g vals w' (fun e w''=>∃v,e= .returned v/\Ext w0 w''/\wpX P md ops w0 n L f (listed.setIfInBounds i true) (a.put o.dst v) w'')):wpX P md ops w0 n L (f+1) listed a w:=
 wpX_call i o g vals (fun w=>by rw [Zdx fn hop hf hb hn w,hv]) hg hr hin ho h
end Go.Rg
namespace Go.Proofs.YtipjchbdogmccaaGreat
open Go.RowKit Go.Rg Go.BigFrame
theorem Zhu (d:Nat) (t k e:TypeId) (m:Option Nat) (h:Tryz.prog.underlying t=some (.map k e)) (w:World):
 (Op.equalIn (d+1) t (.map m) (.map none)).run Tryz.prog w= .ok m.isNone w:=by
 cases m<;>simp [Op.equalIn,run_underlying h]
theorem Zpe (t k e:TypeId) (m:Option Nat) (h:Tryz.prog.underlying t=some (.map k e)) (w:World):(binOp .eql t (.map m) (.map none)).run Tryz.prog w= .ok (.bool m.isNone) w:=by
 simp only [binOp]
 simp [show Op.equal t (.map m) (.map none)=Op.equalIn (9999+1) t (.map m) (.map none) from rfl,Zhu 9999 t k e m h w]
theorem clone_map (r:Nat) (es:Array MapEntry) (clock:Nat) (t:TypeId) (w:World) (hb:w.heap[r]? =some (.map es clock)):
 (Extern.MapsClone.clone #[.iface t (.map (some r))]).run Tryz.prog w= .ok (.iface t (.map (some w.heap.size))) (w.alloc (.map es clock)):=by
 have e:Extern.MapsClone.clone #[.iface t (.map (some r))]=(getObj r >>=fun o=>match o with
  | .map entries clock=>(newObj (.map entries clock) >>=fun n=>pure (.iface t (.map (some n))))
  | _=>stuck "maps.clone: a map expected"):=rfl
 have hg:(getObj r).run Tryz.prog w= .ok (.map es clock) w:=by simp [getObj,Sem.run,hb]
 rw [e]
 simp [hg,Result.andThen,go_sem]
def RetMap (l:Zr) (w:World) (e:Ending) (w':World):Prop:=∃m,e= .returned (.map (some m))/\Ext w w'/\J2 w' m l/\w.heap.size<=m
theorem clone_any (m:Nat) (l:Zr) (w:World) (h:J2 w m l):Calls Tryz.prog 142 #[.map (some m)] w (RetMap l w):=by
 obtain ⟨l0,hpm,es,clock,hb,hr⟩:=h
 have hq:=fun w=>Zpe 200 _ _ (some m) Tryz.underlying200 w
 have hta:∀(v:Value) (w:World),(Instr.typeAssert (.iface 200 v) 20 200 false).run Tryz.prog w= .ok v w:=fun v w=>by
  simp [Instr.typeAssert,run_underlying Tryz.underlying200,go_sem,Result.andThen]
 have hc:∀args w,(callFunc 164 args).run Tryz.prog w=((Extern.MapsClone.clone args).run Tryz.prog w).andThen fun v w'=>.ok (.value v) w':=fun args w=>
  run_callFunc_extern Tryz.func164 (by kernel_rfl) (by kernel_rfl) (by kernel_rfl) (e:=Extern.MapsClone.clone) (by kernel_rfl) args w
 have hcl:=clone_map m es clock 200 w hb
 have h0:=Zb w (.map es clock)
 have e0:=Zc w (.map es clock)
 generalize hW:w.alloc (.map es clock)=W at hcl h0 e0
 clear hW
 go_enter Tryz.func142,Tryz.ntmps142
 go_wp2
 go_ret
 exact ⟨_,rfl,e0,⟨l0,hpm,es,clock,h0,hr⟩,Nat.le_refl _⟩
def RetLed (L:Led) (w:World) (e:Ending) (w':World):Prop:=∃p m,e= .returned (.pointer (some ⟨p,0,none⟩))/\Ext w w'/\IsLed w' p m L/\w.heap.size<=p/\w.heap.size<=m
def Zjc:Led:=⟨List.replicate 17 false,[]⟩
theorem new_any (w:World):Calls Tryz.prog 50 #[] w (RetLed Zjc w):=by
 have hmk:∀w,(Instr.makeMap 200 none).run Tryz.prog w= .ok (.map (some w.heap.size)) (w.alloc (.map #[] 0)):=fun _=>rfl
 have hm:=Zb w (.map #[] 0)
 have em:=Zc w (.map #[] 0)
 have sz:=size_alloc w (.map #[] 0)
 generalize hW:w.alloc (.map #[] 0)=W at hm em sz
 have HW:=Lib.hid hW
 clear hW
 go_enter Tryz.func50,Tryz.ntmps50
 go_wp2
 rw [HW.out]
 have hp:=Zb W (.cells (Vy Zjc.par w.heap.size) 203)
 have ep:=Zc W (.cells (Vy Zjc.par w.heap.size) 203)
 have ht:=ep.at hm
 rw [sz] at hp
 go_ret
 exact ⟨w.heap.size+1,w.heap.size,rfl,Xt em ep,⟨hp,rfl,⟨[],List.Perm.refl _,_,_,ht,⟨rfl,List.Pairwise.nil,List.Pairwise.nil,fun e he=>absurd he (by simp)⟩⟩⟩,by omega,Nat.le_refl _⟩
theorem there_nil (w:World):Calls Tryz.prog 102 #[.pointer none] w (Ret (.bool false) w):=by
 go_enter Tryz.func102,Tryz.ntmps102
 go_wp2
 go_ret
 exact ⟨rfl,Ext.refl _⟩
theorem copy_nil (w:World):Calls Tryz.prog 89 #[.pointer none] w (Ret (.pointer none) w):=by
 have ct:=fun w=>there_nil w
 go_enter Tryz.func89,Tryz.ntmps89
 go_wp2_with fail
 refine (ct _).mono ?_
 rintro e w2 ⟨rfl,e2⟩
 go_wp2
 go_ret
 exact ⟨rfl,e2⟩
theorem Zfe (p m:Nat) (L:Led) (w:World) (h:IsLed w p m L):Calls Tryz.prog 89 #[.pointer (some ⟨p,0,none⟩)] w (RetLed L w):=by
 have ct:=fun w (h:IsLed w p m L)=>Vl p m L w h
 obtain ⟨par,lines⟩:=L
 have hlen:=h.len
 simp only at hlen
 match par,hlen with
 | [x0,x1,x2,x3,x4,x5,x6,x7,x8,x9,x10,x11,x12,x13,x14,x15,x16],_=>
   go_enter Tryz.func89,Tryz.ntmps89
   go_wp2_with fail
   refine (ct _ h).mono ?_
   rintro e w2 ⟨rfl,e2⟩
   have h2:=h.ext e2
   go_wp2
   refine Zh Zl 9 [8] (by kernel_rfl) (by kernel_rfl) ?_
   intro w1 hw1
   have hL:∀q:ExtOf w1,IsLed q.to p m ⟨[x0,x1,x2,x3,x4,x5,x6,x7,x8,x9,x10,x11,x12,x13,x14,x15,x16],lines⟩:=fun q=>h2.ext (Xt hw1 q.h)
   have c1:=fun q:ExtOf w1=>(hL q).cell17
   have ld:∀w2,Cls w1 w2->(loadVar 201 ⟨p,0,none⟩).run Tryz.prog w2= .ok (.agg #[.bool x0,.bool x1,.bool x2,.bool x3,.bool x4,.bool x5,.bool x6,.bool x7,.bool x8,.bool x9,.bool x10,.bool x11,.bool x12,.bool x13,.bool x14,.bool x15,.bool x16]) w2:=by
    rintro _ ⟨q,rfl⟩
    exact Zs q.to p 0 201 [.bool x0,.bool x1,.bool x2,.bool x3,.bool x4,.bool x5,.bool x6,.bool x7,.bool x8,.bool x9,.bool x10,.bool x11,.bool x12,.bool x13,.bool x14,.bool x15,.bool x16] _
     (fun j v hv=>by
       have hr:=(hL q).row
       rw [Nat.zero_add]
       exact Za hr (by simp only [Vy,List.map_cons,List.map_nil,List.cons_append,List.nil_append,List.getElem?_toArray];rw [show ([.bool x0,.bool x1,.bool x2,.bool x3,.bool x4,.bool x5,.bool x6,.bool x7,.bool x8,.bool x9,.bool x10,.bool x11,.bool x12,.bool x13,.bool x14,.bool x15,.bool x16,.map (some m)]:List Value)=[.bool x0,.bool x1,.bool x2,.bool x3,.bool x4,.bool x5,.bool x6,.bool x7,.bool x8,.bool x9,.bool x10,.bool x11,.bool x12,.bool x13,.bool x14,.bool x15,.bool x16]++[.map (some m)] from rfl,List.getElem?_append_left (List.getElem?_eq_some_iff.1 hv).1];exact hv))
     Tryz.underlying201 rfl (by kernel_rfl)
   clear hL
   simp only [Zk,Rg.hsB,Nat.reduceBEq,Nat.reduceAdd,↓reduceIte]
   repeat (first | go_big_quiet_step (fail) | (go_big_quiet_want;refine Z0 201 _ _ _ rfl rfl ld ?_;go_big_quiet_on;simp only [Act.put,Rg.puB]))
   refine wpQuiet_nil ?_
   refine Zv 8 142 _ #[.map (some m)] _ (by rfl) _ _ (by rfl) Tryz.func142 rfl rfl (by kernel_rfl) (by rfl) (by kernel_rfl) (by decide) ?_
   intro w3 h03 h3
   have h3L:=h2.ext h03
   refine (clone_any m lines w3 h3L.map).mono ?_
   rintro e w4 ⟨m',rfl,e4,hm',hlt⟩
   refine ⟨_,rfl,Xt h03 e4,?_⟩
   refine Zj (by kernel_rfl) ?_
   intro w5 e5 e5'
   simp only [Act.put,Rg.puB]
   have hp:=Zb w5 (.cells (Vy [x0,x1,x2,x3,x4,x5,x6,x7,x8,x9,x10,x11,x12,x13,x14,x15,x16] m') 203)
   have ep:=Zc w5 (.cells (Vy [x0,x1,x2,x3,x4,x5,x6,x7,x8,x9,x10,x11,x12,x13,x14,x15,x16] m') 203)
   have s2:=e2.size
   have s3:=h03.size
   have s5:=e5.size
   clear c1 ld
   go_wp2
   go_ret
   exact ⟨_,_,rfl,Xt e2 (Xt e5 ep),⟨hp,rfl,hm'.keep (Kx (S:=[]) (Xt e5' ep)) (by simp)⟩,by omega,by omega⟩
def Zn (w:World) (base size:Nat) (v:Value) (n:Nat) (xs:List Value):Prop:=
 ∃A cap,v= .slice A n cap/\n<=cap/\cap<=maxLen/\xs.length=n*size/\(n=0\/∃g,A=some ⟨g,0,none⟩/\base<=g/\g<w.heap.size/\∀j u,xs[j]? =some u->w.cell? ⟨g,j,none⟩=some u)
theorem Zf {w w':World} {a:Addr} (h:w'.heap[a.block]? =w.heap[a.block]?):w'.cell? a=w.cell? a:=by simp [World.cell?,h]
theorem Zn.keep {S:List Nat} {w w':World} {base size n:Nat} {v:Value} {xs:List Value} (h:Zn w base size v n xs) (k:Keep S w w') (hS:∀x∈S,x<base):Zn w' base size v n xs:=by
 obtain ⟨A,cap,hv,h1,h2,h3,h4⟩:=h
 refine ⟨A,cap,hv,h1,h2,h3,?_⟩
 rcases h4 with h4 | ⟨g,hA,hb,hlt,hc⟩
 ·exact .inl h4
 refine .inr ⟨g,hA,hb,Nat.lt_of_lt_of_le hlt k.size,fun j u hu=> ?_⟩
 rw [Zf (k.block g hlt (fun hg=>by have:=hS g hg;omega))]
 exact hc j u hu
theorem Zn.ext {w w':World} {base size n:Nat} {v:Value} {xs:List Value} (h:Zn w base size v n xs) (k:Ext w w'):Zn w' base size v n xs:=
 h.keep (Kx (S:=[]) k) (by simp)
theorem Zn.of_own {w:World} {base size n:Nat} {e:TypeId} {v:Value} {xs:List Value} (h:w.ownsRow base e size v n xs):Zn w base size v n xs:=by
 obtain ⟨hl,h⟩:=h
 rcases h with ⟨rfl,rfl⟩ | ⟨g,cap,cur,rfl,hb,hg,h1,h2,h3,h4⟩
 ·exact ⟨none,0,rfl,Nat.le_refl _,by unfold maxLen;omega,hl,.inl rfl⟩
 refine ⟨_,_,rfl,h1,h2,hl,.inr ⟨g,rfl,hb,Zg hg,fun j u hu=> ?_⟩⟩
 rw [cell_of_row w g j cur e _ hg]
 rw [<-h4] at hu
 have:=(List.getElem?_take_of_lt (l:=cur.toList) (by have:=(List.getElem?_eq_some_iff.1 hu).1;rw [List.length_take] at this;omega:j<n*size)).symm.trans hu
 simpa using this
def Zhs (L:Led) (k:Nat):List Int:=((List.range k).filter fun j=>L.par.getD j false).map Int.ofNat
def Zx (L:Led):List Int:=Zhs L 17
theorem parK_succ (L:Led) (k:Nat):Zhs L (k+1)=Zhs L k++(if L.par.getD k false then [(k:Int)] else []):=by
 unfold Zhs
 rw [List.range_succ,List.filter_append,List.map_append]
 congr 1
 by_cases h:L.par.getD k false=true
 ·simp only [List.filter_cons,h,if_true,List.filter_nil,List.map_cons,List.map_nil];rfl
 simp only [List.filter_cons,h,List.filter_nil];rfl
theorem Zod (L:Led) (k:Nat):(Zhs L k).length<=k:=by
 unfold Zhs
 rw [List.length_map]
 exact Nat.le_trans (List.length_filter_le _ _) (by simp)
theorem Zbv:(Tryz.prog.info? 24).map (fun i=>(i.zero,i.size,i.bytes))=some (some (.int .u8 0),1,1):=by kernel_rfl
def Zfk (size n:Nat) (xs:List Value) (w:World) (e:Ending) (w':World):Prop:=∃v,e= .returned v/\Ext w w'/\Zn w' w.heap.size size v n xs
theorem clipP_any (base n:Nat) (v:Value) (xs:List Value) (w:World) (h:Zn w base 1 v n xs):Calls Tryz.prog 103 #[v] w (fun e w'=>∃v',e= .returned v'/\Ext w w'/\Zn w' base 1 v' n xs):=by
 obtain ⟨A,cap,rfl,h1,h2,h3,h4⟩:=h
 rcases h4 with rfl | ⟨g,rfl,hb,hlt,hc⟩
 ·cases A
  rotate_left
  focus rename_i a
  all_goals
   go_enter Tryz.func103,Tryz.ntmps103
   go_wp2
   go_ret
   exact ⟨_,rfl,Ext.refl _,_,_,rfl,Nat.le_refl _,by unfold maxLen;omega,h3,.inl rfl⟩
 have hn63:(n:Int)<=9223372036854775807:=by unfold maxLen at h2;omega
 go_enter Tryz.func103,Tryz.ntmps103
 go_wp2
 go_ret
 exact ⟨_,rfl,Ext.refl _,_,_,rfl,Nat.le_refl _,Nat.le_trans h1 h2,h3,.inr ⟨g,rfl,hb,hlt,hc⟩⟩
theorem Zox (bs:List Bool) (h17:bs.length=17) (k:Nat) (hk:k<17) (w:World):
 (Instr.index 201 (.agg (bs.map Value.bool).toArray) (.int .i64 k)).run Tryz.prog w= .ok (.bool (bs.getD k false)) w:=by
 match bs,h17 with
 | [x0,x1,x2,x3,x4,x5,x6,x7,x8,x9,x10,x11,x12,x13,x14,x15,x16],_=>
   rcases (show k=0\/k=1\/k=2\/k=3\/k=4\/k=5\/k=6\/k=7\/k=8\/k=9\/k=10\/k=11\/k=12\/k=13\/k=14\/k=15\/k=16 by omega) with rfl | rfl | rfl | rfl | rfl | rfl | rfl | rfl | rfl | rfl | rfl | rfl | rfl | rfl | rfl | rfl | rfl<;>(show Sem.run _ _ _=Result.ok _ _;kernel_rfl)
theorem Zg0 (p m:Nat) (L:Led) (w:World) (h:IsLed w p m L):Calls Tryz.prog 55 #[.pointer (some ⟨p,0,none⟩)] w (Zfk 1 (Zx L).length ((Zx L).map (.int .u8)) w):=by
 have ct:=fun w (h:IsLed w p m L)=>Vl p m L w h
 obtain ⟨i0,hi,hz0,hz1,hz2⟩:=info_parts Zbv
 have hlen:=h.len
 have hix:=fun k hk w=>Zox L.par hlen k hk w
 have cl:=fun n v xs w0 w' h=>clipP_any w0 n v xs w' h
 go_enter Tryz.func55,Tryz.ntmps55
 go_wp2_with fail
 refine (ct _ h).mono ?_
 rintro e w2 ⟨rfl,e2⟩
 have h2:=h.ext e2
 have ld:(loadVar 201 ⟨p,0,none⟩).run Tryz.prog w2= .ok (.agg (L.par.map Value.bool).toArray) w2:=
  Zs w2 p 0 201 (L.par.map Value.bool) _ (fun j v hv=>by
   rw [Nat.zero_add]
   have hj:j<17:=by have:=(List.getElem?_eq_some_iff.1 hv).1;rw [List.length_map,hlen] at this;exact this
   rw [h2.cellP j hj,<-hv,List.getElem?_map,List.getD_eq_getElem?_getD,List.getElem?_eq_getElem (by rw [hlen];exact hj)]
   rfl) Tryz.underlying201 rfl (by rw [List.length_map,hlen];kernel_rfl)
 go_wp2_with (refine Zd rfl 201 _ _ _ rfl rfl ld ?_)
 have e2':=e2.size
 go_loopw [3,13] (fun v i wr=>∃(k:Nat) (ao:Option Addr) (cv:Nat),k<=17/\i= .int .i64 k/\v= .slice ao (Zhs L k).length cv/\wr.ownsRow w2.heap.size 24 1 v (Zhs L k).length ((Zhs L k).map (.int .u8))/\Below w2.heap.size w2 wr)
  (fun _ i _=>17-(intOf i).toNat)
 case atStart=>exact ⟨0,none,0,Nat.zero_le _,rfl,rfl,World.ownsRow_nil _ _ _ _,Below.refl _ _⟩
 obtain ⟨k,ao,cv,hk,rfl,rfl,hown,hnx⟩:=hrel
 have hsize:=hnx.size
 have hpl:=Zod L k
 have hps:=parK_succ L k
 by_cases hk17:k<17
 ·have hix1:=fun w=>hix k hk17 w
  clear hix
  by_cases hb:L.par.getD k false=true
  ·rw [hb] at hix1 hps
   rw [if_pos rfl] at hps
   go_wp2_with (first
    | (at_builtin;refine wpList_append_own _ rfl _ _ 43 rfl w2.heap.size 24 i0 (.int .u8 0) 1 1 Tryz.underlying43 hi hz0 hz1 hz2 rfl (by decide) _ _ _ rfl (hown.alloc _) ⟨wr.heap.size,0,none⟩ 1 1 [.int .u8 k] rfl rfl (cell_one_new _ _ _) (fun x hx=>by simp at hx;subst hx;rfl) (by unfold maxLen;omega) (by omega) (by simp;omega) ?_;intro v' w3 hown' hgrow3 hnil3))
   obtain ⟨g3,cap3,hv3⟩:∃g3 cap3,v'= .slice (some ⟨g3,0,none⟩) ((Zhs L k).length+1) cap3:=by
    rcases hown'.2 with ⟨_,h⟩ | ⟨g3,cap3,_,h,_⟩
    ·omega
    exact ⟨g3,cap3,h⟩
   refine ⟨⟨k+1,some ⟨g3,0,none⟩,cap3,by omega,by go_num,by rw [hv3,hps];simp,?_,(hnx.alloc hsize _).grown hgrow3 (by simp;omega) (fun q hq=>(hown.lt q hq).1)⟩,by simp [intOf];omega⟩
   rw [hps,List.map_append,List.length_append]
   exact hown'
  rw [Bool.not_eq_true] at hb
  rw [hb] at hix1 hps
  rw [if_neg (by simp),List.append_nil] at hps
  go_wp2
  exact ⟨⟨k+1,ao,cv,by omega,by go_num,by rw [hps],by rw [hps];exact hown,hnx⟩,by simp [intOf];omega⟩
 have hk':k=17:=by omega
 subst hk'
 clear hix
 go_wp2_with fail
 refine (cl _ _ _ w2.heap.size _ (Zn.of_own hown)).mono ?_
 rintro e w5 ⟨v',rfl,e5,h5⟩
 go_wp2
 go_ret
 have e25:Ext w2 wr:=hnx
 obtain ⟨A,cap,hv,q1,q2,q3,q4⟩:=h5
 refine ⟨v',rfl,Xt e2 (Xt e25 e5),A,cap,hv,q1,q2,q3,?_⟩
 rcases q4 with q4 | ⟨g,q4,q5,q6⟩
 ·exact .inl q4
 exact .inr ⟨g,q4,by omega,q6⟩
def Zbu (w:World) (size:Nat) (v:Value) (n:Nat) (xs:List Value):Prop:=
 ∃A cap,v= .slice A n cap/\n<=cap/\cap<=maxLen/\xs.length=n*size/\(n=0\/∃g off,A=some ⟨g,off,none⟩/\g<w.heap.size/\∀j u,xs[j]? =some u->w.cell? ⟨g,off+j,none⟩=some u)
theorem Zbu.ext {w w':World} {size n:Nat} {v:Value} {xs:List Value} (h:Zbu w size v n xs) (k:Ext w w'):Zbu w' size v n xs:=by
 obtain ⟨A,cap,hv,h1,h2,h3,h4⟩:=h
 refine ⟨A,cap,hv,h1,h2,h3,?_⟩
 rcases h4 with h4 | ⟨g,off,hA,hlt,hc⟩
 ·exact .inl h4
 refine .inr ⟨g,off,hA,Nat.lt_of_lt_of_le hlt k.size,fun j u hu=> ?_⟩
 rw [Zf (k.block hlt)]
 exact hc j u hu
end Go.Proofs.YtipjchbdogmccaaGreat
