/- As Again, over the worlds that keep all but S: two that stand next; a call; a store into a row made since. Program independent. -/
import Derived.Test.YtipjchbdogmccaaGreatAll
import Derived.Test.YtipjchbdogmccaaGreatLed6
namespace Go.RgK
open Go.RowKit Go.Rg
section
variable {S:List Nat} {P:Program} {ops:Array Oper} {md:Region.Mode}
theorem Za0 {n f:Nat} {L:Array Bool->Act->World->Prop} {listed:Array Bool} {a:Act} {w0 w:World} (i j:Nat) (oi oj:Oper) (hr:Region.ready md ops listed=[i,j]) (hin:i<n) (hjn:j<n) (hoi:ops[i]? =some oi) (hoj:ops[j]? =some oj)
 (hgi:oi.guard=none) (hgj:oj.guard=none)
 (hi:∀w',Keep S w0 w'->Ext w w'->Xn P oi a w' (fun v w''=>Keep S w0 w''/\wpX S P md ops w0 n L f (listed.setIfInBounds i true) (a.put oi.dst v) w''))
 (hj:∀w',Keep S w0 w'->Ext w w'->Xn P oj a w' (fun v w''=>Keep S w0 w''/\wpX S P md ops w0 n L f (listed.setIfInBounds j true) (a.put oj.dst v) w'')):wpX S P md ops w0 n L (f+1) listed a w:=by
 refine ⟨by rw [hr];simp,fun k hk=> ?_⟩
 rw [hr] at hk
 have hwi:Region.wanted oi (yielded ops a.tmps)=true:=by simp [Region.wanted,hgi]
 have hwj:Region.wanted oj (yielded ops a.tmps)=true:=by simp [Region.wanted,hgj]
 rcases (by simpa using hk:k=i\/k=j) with rfl | rfl
 ·exact ⟨hin,fun w' h0 hw'=>by unfold xOp;simp only [hoi,hwi,if_true];exact hi w' h0 hw'⟩
 exact ⟨hjn,fun w' h0 hw'=>by unfold xOp;simp only [hoj,hwj,if_true];exact hj w' h0 hw'⟩
theorem Vs {o:Oper} {a:Act} {w:World} {R:Value->World->Prop} (g:FuncId) (fn:Func) (vals:Array Value) (args:Array Operand) (ts:Array TypeId) (hop:o.op= .call { callee:= .value (.func g),args:=args,argTypes:=ts }) (hf:P.funcs[g]? =some fn) (hb:fn.body.isNone=false)
 (hn:(fn.name== "runtime.NumGoroutine")=false) (hv:args.map a.eval=vals) (h:Calls P g vals w (fun e w''=>∃v,e= .returned v/\R v w'')):Xn P o a w R:=by
 unfold Xn
 rw [Zdx fn hop hf hb hn w,hv]
 exact h
theorem Zcd {o:Oper} {a:Act} {w:World} {R:Value->World->Prop} (v:Value) (ob:Obj) (hm:(execOp a.eval o).run P w= .ok (.value v) (w.alloc ob)) (h:R v (w.alloc ob)):Xn P o a w R:=by
 unfold Xn
 rw [hm]
 exact h
theorem Zv {n f:Nat} {L:Array Bool->Act->World->Prop} {listed:Array Bool} {a:Act} {w0 w:World} (i:Nat) (g:FuncId) (fn:Func) (vals:Array Value) (o:Oper) (ho:ops[i]? =some o) (args:Array Operand) (ts:Array TypeId)
 (hop:o.op= .call { callee:= .value (.func g),args:=args,argTypes:=ts }) (hf:P.funcs[g]? =some fn) (hb:fn.body.isNone=false) (hn:(fn.name== "runtime.NumGoroutine")=false) (hv:args.map a.eval=vals) (hg:o.guard=none)
 (hr:Region.ready md ops listed=[i]) (hin:i<n)
 (h:∀w':World,Keep S w0 w'->Ext w w'->Calls P g vals w' (fun e w''=>∃v,e= .returned v/\Keep S w0 w''/\wpX S P md ops w0 n L f (listed.setIfInBounds i true) (a.put o.dst v) w'')):wpX S P md ops w0 n L (f+1) listed a w:=
 Vq i o hr hin ho (by simp [Region.wanted,hg]) fun w' h0 hw'=>Vs g fn vals args ts hop hf hb hn hv (h w' h0 hw')
def Zib (ops:Array Oper) (n k f e:Nat) (es:List Nat) (listed:Array Bool):Bool:=
 Region.noSelect ops&&decide (n<ops.size)&&decide (k<=n)&&Region.sinkB .any ops n&&Region.chainB .any ops n&&Zcx .any ops n listed&&Yv .any ops es (n-k) k listed&&decide (Zz es (n-k) k+e=f)
theorem Xf (W:Y2 P) {w0 w:World} {n f:Nat} {Q:Exit->Act->World->Prop} {l0:List Oper} {a:Act} {listed:Array Bool} (k:Nat) (es:List Nat) (e:Nat) (hB:Zib l0.toArray n k f e es listed=true) (hpl:(Zk es k ((l0.take n).drop k)).all (fun o=>Za2 o.op)=true) (h0:Keep S w0 w)
 (h:∀w1,Keep S w w1->wpQuiet P l0.toArray (U9 S w1) (fun a'=>Ext w w1->wpX S P .any l0.toArray w n (Yu P l0.toArray Q n) e (Z1 es (n-k) k listed) a' w1) (Zk es k ((l0.take n).drop k)) a):
 wpX S P .any l0.toArray w0 n (Yu P l0.toArray Q n) f listed a w:=by
 simp only [Zib,Bool.and_eq_true,decide_eq_true_eq] at hB
 obtain ⟨⟨⟨⟨⟨⟨⟨hsel,hn⟩,hkn⟩,hs⟩,hc⟩,hinv⟩,hok⟩,hf⟩:=hB
 have hn':n<l0.length:=by simpa using hn
 have hlen:((l0.take n).drop k).length=n-k:=by simp;omega
 have H:=Xi (S:=S) (md:= .any) W (w0:=w) (L:=Yu P l0.toArray Q n) (e:=e) (es:=es) hsel hs hc hn (fun listed a w hL=>seqB_ready hL.1) ((l0.take n).drop k) k listed a w (fun j hj=>by
  rw [hlen] at hj
  simp [List.getElem?_drop,List.getElem?_take]
  omega) (by rw [hlen];omega) (Zb3 hinv) (Keep.refl S w) (Ext.refl w) (by rw [hlen];exact hok) hpl (by rw [hlen];exact h)
 rw [hlen,hf] at H
 exact Jc h0 f listed a w (Keep.refl S w) H
theorem Zgt {S':List Nat} {w0 w:World} {n:Nat} {L:Array Bool->Act->World->Prop} (h0:Keep S w0 w) (hS:∀x∈S',x∈S\/w0.heap.size<=x):∀(f:Nat) (listed:Array Bool) (a:Act) (v:World),Keep S' w v->wpX S' P md ops w n L f listed a v->wpX S P md ops w0 n L f listed a v
 | 0,_,_,_,hv,H=>fun w' _ hw'=>H w' (hv.trans (Kx hw')) hw'
 | f+1,listed,_,_,hv,H=>⟨H.1,fun i hi=>⟨(H.2 i hi).1,fun w' _ hw'=>by
    have h1:=(H.2 i hi).2 w' (hv.trans (Kx hw')) hw'
    have hr:=fun a' w'' (hx:Keep S' w w'') (hk:wpX S' P md ops w n L f (listed.setIfInBounds i true) a' w'')=>Zgt h0 hS f _ a' w'' hx hk
    unfold xOp at *
    split
    ·rename_i ho
     simp only [ho] at h1
     exact hr _ _ (hv.trans (Kx hw')) h1
    rename_i o ho
    simp only [ho] at h1
    split
    ·rename_i hwa
     simp only [hwa,if_true] at h1
     exact Y0 (fun u w'' ⟨hx,hk⟩=>⟨h0.trans_fresh hx hS,hr _ _ hx hk⟩) h1
    rename_i hwa
    simp only [hwa] at h1
    exact hr _ _ (hv.trans (Kx hw')) h1⟩⟩
theorem Vu (S':List Nat) (W:Y2 P) {w0 w:World} {n f:Nat} {Q:Exit->Act->World->Prop} {l0:List Oper} {a:Act} {listed:Array Bool} (k:Nat) (es:List Nat) (e:Nat) (hB:Zib l0.toArray n k f e es listed=true) (hpl:(Zk es k ((l0.take n).drop k)).all (fun o=>Za2 o.op)=true) (h0:Keep S w0 w)
 (hS:∀x∈S',x∈S\/w0.heap.size<=x)
 (h:∀w1,Keep S' w w1->wpQuiet P l0.toArray (U9 S' w1) (fun a'=>Ext w w1->wpX S' P .any l0.toArray w n (Yu P l0.toArray Q n) e (Z1 es (n-k) k listed) a' w1) (Zk es k ((l0.take n).drop k)) a):
 wpX S P .any l0.toArray w0 n (Yu P l0.toArray Q n) f listed a w:=by
 simp only [Zib,Bool.and_eq_true,decide_eq_true_eq] at hB
 obtain ⟨⟨⟨⟨⟨⟨⟨hsel,hn⟩,hkn⟩,hs⟩,hc⟩,hinv⟩,hok⟩,hf⟩:=hB
 have hn':n<l0.length:=by simpa using hn
 have hlen:((l0.take n).drop k).length=n-k:=by simp;omega
 have H:=Xi (S:=S') (md:= .any) W (w0:=w) (L:=Yu P l0.toArray Q n) (e:=e) (es:=es) hsel hs hc hn (fun listed a w hL=>seqB_ready hL.1) ((l0.take n).drop k) k listed a w (fun j hj=>by
  rw [hlen] at hj
  simp [List.getElem?_drop,List.getElem?_take]
  omega) (by rw [hlen];omega) (Zb3 hinv) (Keep.refl S' w) (Ext.refl w) (by rw [hlen];exact hok) hpl (by rw [hlen];exact h)
 rw [hlen,hf] at H
 exact Zgt h0 hS f listed a w (Keep.refl S' w) H
theorem Z3 {n f:Nat} {L:Array Bool->Act->World->Prop} {listed:Array Bool} {a:Act} {w0 w:World} (i:Nat) (o:Oper) (ty:TypeId) (x y:Operand) (hop:o.op= .store ty x y) (hg:o.guard=none) (hd:o.dst=none)
 (hr:Region.ready md ops listed=[i]) (hin:i<n) (ho:ops[i]? =some o) (g:Nat) (cells:Array Value) (hx:a.eval x= .pointer (some ⟨g,0,none⟩)) (hy:a.eval y= .agg cells)
 (t:TypeId) (old:Array Value) (hi:(P.info? ty).map (·.size)=some cells.size) (hold:old.size=cells.size) (h1:cells.toList.all (·.oneCell')=true) (hgw:w.heap[g]? =some (.cells old t (0,0))) (hg0:g∈S\/w0.heap.size<=g)
 (h:∀w':World,Keep S w0 w'->Keep [g] w w'->w'.heap[g]? =some (.cells cells t (0,0))->wpX S P md ops w0 n L f (listed.setIfInBounds i true) a w'):wpX S P md ops w0 n L (f+1) listed a w:=by
 refine Vq i o hr hin ho (by simp [Region.wanted,hg]) fun w' h0 hw'=> ?_
 have hgw':=hw'.at hgw
 unfold Xn execOp
 simp only [hop,hx,hy,Instr.storeAt,Instr.sureAddr,Sem.run_bind,Sem.run_pure,Result.andThen_ok,run_storeVar_row w' g t ty old cells hgw' hi hold (by rw [<-Array.all_toList];exact h1),Xz]
 have kg:Keep [g] w' (w'.setRow g cells):=⟨rfl,rfl,rfl,by simp [World.setRow],fun k _ hk=>setRow_other _ _ _ _ (by simpa using hk)⟩
 have e0:Keep S w0 (w'.setRow g cells):=h0.trans_fresh kg (fun x hx=>by simp at hx;subst hx;exact hg0)
 refine ⟨e0,?_⟩
 rw [hd]
 exact h _ e0 ((Kx hw').trans kg) (setRow_heap _ _ _ _ _ _ hgw')
end
end Go.RgK
