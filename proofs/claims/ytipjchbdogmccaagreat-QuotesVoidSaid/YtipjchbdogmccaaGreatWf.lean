/- What each step of a ledger and of a book keeps, and what the graph of a ledger keeps, in plain Lean. The walks of flows.Most, payments.Most, and payments' checks. The walk of Pay. -/
import Derived.Test.YtipjchbdogmccaaGreatRoute
set_option maxHeartbeats 3200000
set_option maxRecDepth 100000
namespace Go.Proofs.YtipjchbdogmccaaGreat
theorem Zet {k:K3} {v:V2} {x:K3×V2}:∀{l:Zr},x∈upd l k v->x∈l\/x=(k,v)
 | [],h=>by simp [upd] at h;exact .inr h
 | y::l,h=>by
   unfold upd at h
   split at h
   ·rcases List.mem_cons.1 h with rfl | h
    ·exact .inr rfl
    exact .inl (by simp [h])
   rcases List.mem_cons.1 h with rfl | h
   ·exact .inl (by simp)
   rcases Zet h with h | h
   ·exact .inl (by simp [h])
   exact .inr h
theorem Zce {k:K3} {v v0:V2}:∀{l:Zr},lkO l k=some v0->(upd l k v).length=l.length
 | [],h=>by simp [lkO] at h
 | y::l,h=>by
   rw [Zct] at h
   unfold upd
   split
   ·rfl
   rename_i hc
   rw [if_neg hc] at h
   simp [Zce h]
theorem Zgu {k:K3} {v:V2}:∀{l:Zr},(upd l k v).length<=l.length+1
 | []=>by simp [upd]
 | y::l=>by
   unfold upd
   split
   ·simp
   have:=Zgu (k:=k) (v:=v) (l:=l)
   simp only [List.length_cons];omega
theorem wf_upd {L:Led} (h:WF L) (k:K3) (v v0:V2) (hk:lkO L.lines k=some v0) (h1:1<=v.1) (h2:v.1<=1099511627776) (h3:0<=v.2) (h4:v.2<=v.1):WF { L with lines:=upd L.lines k v }:=by
 refine ⟨h.par0,fun x hx=> ?_,fun x hx=> ?_,?_⟩
 ·rcases Zet hx with hx | rfl
  ·exact h.ends x hx
  exact h.ends (k,v0) (Zdk hk)
 ·rcases Zet hx with hx | rfl
  ·exact h.nums x hx
  exact ⟨h1,h2,h3,h4⟩
 show (upd L.lines k v).length<=64
 rw [Zce hk];exact h.few
theorem Zm0 {l:Zr} {k:K3} {v:V2} (h:lkO l k=some v):lk l k=v:=by unfold lk;rw [h];rfl
theorem Zm1 {l:Zr} {k:K3} (h:lkO l k=none):lk l k=(0,0):=by unfold lk;rw [h];rfl
theorem Zmk {L:Led} (h:WF L) (k:K3) (n:Int) (h3:0<=(lk L.lines k).2+n) (h4:(lk L.lines k).2+n<=(lk L.lines k).1):WF { L with lines:=U8 L.lines k n }:=by
 unfold U8
 by_cases hn:n=0
 ·rw [if_pos hn];exact h
 rw [if_neg hn]
 cases hk:lkO L.lines k with
 | none=>rw [Zm1 hk] at h3 h4;simp at h3 h4;omega
 | some v0=>
   rw [Zm0 hk] at h3 h4 ⊢
   have:=h.nums _ (Zdk hk)
   exact wf_upd h k _ v0 hk this.1 this.2.1 h3 h4
theorem Zmj {L:Led} (h:WF L) (a b c n:Int):WF (Js L a b c n).2:=by
 unfold Js
 split
 ·exact h
 split
 ·exact h
 rename_i h1 h2
 simp only
 unfold V8
 have b1:=h.lk (a,b,c)
 have b2:=h.lk (b,a,c)
 unfold Xo at h2
 by_cases hab:a=b
 ·subst hab
  rw [wf_self h] at h2
  simp at h2;omega
 have hne:(a,b,c)≠(b,a,c):=by intro e;simp at e;omega
 have w1:=Zmk h (a,b,c) (-(min n (lk L.lines (a,b,c)).2)) (by omega) (by omega)
 refine Zmk w1 (b,a,c) _ ?_ ?_
 ·show 0<=(lk (U8 L.lines (a,b,c) _) (b,a,c)).2+_
  rw [Jq _ _ _ _ hne];omega
 show (lk (U8 L.lines (a,b,c) _) (b,a,c)).2+_<=(lk (U8 L.lines (a,b,c) _) (b,a,c)).1
 rw [Jq _ _ _ _ hne];omega
theorem del_mem {k:K3} {x:K3×V2} {l:Zr} (h:x∈del l k):x∈l:=(Zh8 k l).subset h
theorem wf_open {L:Led} (h:WF L) (hl:L.par.length=17) (x:Int):WF (Za3 L x).2:=by
 unfold Za3
 split
 ·rename_i hp
  split
  ·exact h
  unfold Zm at hp
  rw [decide_eq_true_eq] at hp
  have hget:∀j,(L.par.set x.toNat true).getD j false=if j=x.toNat then true else L.par.getD j false:=fun j=>by
   rw [List.getD_eq_getElem?_getD,List.getD_eq_getElem?_getD,List.getElem?_set]
   by_cases e:x.toNat=j
   ·rw [if_pos e,if_pos (by omega),if_pos e.symm];rfl
   rw [if_neg e,if_neg (fun h=>e h.symm)]
  refine ⟨?_,fun y hy=> ?_,h.nums,h.few⟩
  ·show (L.par.set x.toNat true).getD 0 false=false
   rw [hget,if_neg (by omega)];exact h.par0
  obtain ⟨h1,h2,h3⟩:=h.ends y hy
  refine ⟨h1,?_,?_⟩
  ·unfold Yr at h2 ⊢
   show (Zm y.1.1&&(L.par.set x.toNat true).getD y.1.1.toNat false)=true
   rw [hget]
   split
   ·simpa using (Bool.and_eq_true_iff.1 h2).1
   exact h2
  unfold Yr at h3 ⊢
  show (Zm y.1.2.1&&(L.par.set x.toNat true).getD y.1.2.1.toNat false)=true
  rw [hget]
  split
  ·simpa using (Bool.and_eq_true_iff.1 h3).1
  exact h3
 exact h
theorem wf_trust {L:Led} (h:WF L) (a b c lim:Int):WF (X9 L a b c lim).2:=by
 unfold X9
 split
 ·exact h
 rename_i h1
 split
 ·exact h
 rename_i h2
 split
 ·exact h
 rename_i h3
 split
 ·exact h
 rename_i h4
 split
 ·exact ⟨h.par0,fun x hx=>h.ends x (del_mem hx),fun x hx=>h.nums x (del_mem hx),Nat.le_trans (Zh8 _ _).length_le h.few⟩
 rename_i h5
 have b1:=h.lk (a,b,c)
 simp only [not_or,Bool.not_eq_false] at h1 h2
 have hab:=(Zjw a b c).1 h1.1
 refine ⟨h.par0,fun x hx=> ?_,fun x hx=> ?_,?_⟩
 ·rcases Zet hx with hx | rfl
  ·exact h.ends x hx
  refine ⟨h1.1,?_,?_⟩
  ·unfold Yr Zm;simp only [Bool.and_eq_true,decide_eq_true_eq];exact ⟨hab.1,h2.1⟩
  unfold Yr Zm;simp only [Bool.and_eq_true,decide_eq_true_eq];exact ⟨hab.2.1,h2.2⟩
 ·rcases Zet hx with hx | rfl
  ·exact h.nums x hx
  exact ⟨by simp only;omega,by simp only;omega,by simp only;omega,by simp only;omega⟩
 show (upd L.lines (a,b,c) (lim,(lk L.lines (a,b,c)).2)).length<=64
 cases hk:lkO L.lines (a,b,c) with
 | none=>
   have:=Zgu (k:=(a,b,c)) (v:=(lim,(lk L.lines (a,b,c)).2)) (l:=L.lines)
   rw [hk] at h4
   simp only [Option.isSome_none,true_and,not_and,Nat.not_le] at h4
   have:=h4 (by omega)
   omega
 | some v0=>rw [Zce hk];exact h.few
theorem Zig {L:Led} (h:WF L) (a b c n:Int):WF (Zao L a b c n).2:=by
 unfold Zao
 split
 ·exact h
 rename_i h1
 cases hk:lkO L.lines (a,b,c) with
 | none=>exact h
 | some v=>
   simp only
   split
   ·exact h
   rename_i h2
   have:=h.nums _ (Zdk hk)
   simp only at this
   refine Zmk h (a,b,c) (-n) ?_ ?_<;>rw [Zm0 hk]<;>omega
theorem wf_led0:WF Zjc:=⟨rfl,fun x hx=>by simp [Zjc] at hx,fun x hx=>by simp [Zjc] at hx,by simp [Zjc]⟩
def OkB (B:Bk):Prop:=∀o∈B.offs,Xr o=true
theorem ok_place {B:Bk} (h:OkB B) (owner sell buy left num den:Int):OkB (Xh B owner sell buy left num den).2.2:=by
 unfold Xh
 split
 ·exact h
 split
 ·exact h
 rename_i h1 _
 intro o ho
 rcases List.mem_append.1 ho with ho | ho
 ·exact h o ho
 have:o=⟨B.next,owner,sell,buy,left,num,den⟩:=by simpa using ho
 subst this
 simpa using h1
theorem Vc {l:List Off} {s:Int} {o:Off} (h:Yk l s=some o):o∈l/\o.seq=s:=by
 unfold Yk at h
 exact ⟨List.mem_of_find?_eq_some h,by simpa using List.find?_some h⟩
theorem ok_take {B:Bk} (h:OkB B) (seq n:Int):OkB (Ja B seq n).2:=by
 unfold Ja
 cases hf:Yk B.offs seq with
 | none=>exact h
 | some o=>
   have ho:=h o (Vc hf).1
   simp only
   split
   ·exact h
   rename_i h1
   split
   ·exact fun x hx=>h x (List.mem_of_mem_eraseIdx hx)
   rename_i h2
   intro x hx
   rcases List.mem_or_eq_of_mem_set hx with hx | rfl
   ·exact h x hx
   unfold Xr at ho ⊢
   rw [decide_eq_true_eq] at ho ⊢
   obtain ⟨a1,a2,a3,a4,a5,a6,a7,a8,a9,a10⟩:=ho
   exact ⟨a1,a2,a3,a4,a5,a6,a7,by simp only;omega,by simp only;omega,a10⟩
theorem room_bd {L:Led} (h:WF L) (a b c:Int):0<=Xo L a b c/\Xo L a b c<=2199023255552:=by
 have b1:=h.lk (a,b,c)
 have b2:=h.lk (b,a,c)
 unfold Xo
 omega
def Small (g:List Int):Prop:=g.length=289/\∀k,0<=g.getD k 0/\g.getD k 0<=2199023255552
theorem small_set {g:List Int} (h:Small g) (k:Nat) (x:Int) (h1:0<=x) (h2:x<=2199023255552):Small (g.set k x):=by
 refine ⟨by simpa using h.1,fun j=> ?_⟩
 rw [List.getD_eq_getElem?_getD,List.getElem?_set]
 split
 ·split
  ·exact ⟨h1,h2⟩
  exact ⟨Int.le_refl _,by simp⟩
 rw [<-List.getD_eq_getElem?_getD];exact h.2 j
theorem Zk4 {L:Led} (hw:WF L) (cur a:Int):∀(bs:List Int) (g:List Int),Small g->Small (Jt L cur a bs g)
 | [],g,h=>h
 | b::bs,g,h=>by
   have:=room_bd hw a b cur
   exact Zk4 hw cur a bs _ (small_set h _ _ this.1 this.2)
theorem small_k {L:Led} (hw:WF L) (cur:Int) (ps:List Int):∀(qs:List Int) (g:List Int),Small g->Small (qs.foldl (fun g a=>Jt L cur a ps g) g)
 | [],_g,h=>h
 | a::qs,g,h=>small_k hw cur ps qs _ (Zk4 hw cur a ps g h)
theorem Zog {L:Led} (hw:WF L) (cur:Int):WFG (ofR L cur):=by
 have h0:Small (List.replicate 289 0):=⟨List.length_replicate,fun k=>by
  rw [List.getD_eq_getElem?_getD,List.getElem?_replicate]
  split
  ·exact ⟨Int.le_refl _,by decide⟩
  exact ⟨Int.le_refl _,by decide⟩⟩
 have h:=small_k hw cur (Zx L) (Zx L) _ h0
 have he:(Zx L).foldl (fun g a=>Jt L cur a (Zx L) g) (List.replicate 289 0)=ofR L cur:=rfl
 rw [he] at h
 refine ⟨h.1,fun k=>(h.2 k).1,fun a b _ _=> ?_⟩
 have:=(h.2 (a*17+b)).2
 have:=(h.2 (b*17+a)).2
 omega
open Go.RowKit Go.Rg Go.BigFrame
theorem fmost_any (p:Nat) (c:List Int) (a t:Int) (w:World) (h:IsG w p c) (hwf:WFG c):
 Calls Tryz.prog 297 #[.pointer (some ⟨p,0,none⟩),.int .u8 a,.int .u8 t] w (Ret (.int .i64 (Zd0 c a t)) w):=by
 have hr:=Zfy p c a t 9223372036854775807 w h hwf (by omega)
 have hm:(Y9 c a t 9223372036854775807).2=Zd0 c a t:=rfl
 go_enter Tryz.func297,Tryz.ntmps297
 go_wp2_with fail
 refine hr.mono ?_
 rintro e w' ⟨v,rfl,e1,_⟩
 go_wp2
 go_ret
 exact ⟨rfl,e1⟩
theorem Zld (p m:Nat) (L:Led) (a t c:Int) (w:World) (h:IsLed w p m L) (hwf:WF L):
 Calls Tryz.prog 262 #[.pointer (some ⟨p,0,none⟩),.int .u8 a,.int .u8 t,.int .u8 c] w (Ret (.int .i64 (Zd0 (ofR L c) a t)) w):=by
 have ho:=of_any p m L c w h hwf
 have hw:=Zog hwf c
 go_enter Tryz.func262,Tryz.ntmps262
 go_wp2_with fail
 refine ho.mono ?_
 rintro e w' ⟨q,rfl,e1,hG,_⟩
 go_wp2_with fail
 refine (fmost_any q _ a t w' hG hw).mono ?_
 rintro e w2 ⟨rfl,e2⟩
 go_wp2
 go_ret
 exact ⟨rfl,Xt e1 e2⟩
def Zau:Array Value:=#[.func (.func 213) #[] #[],.int .i64 2,.func (.func 214) #[] #[],.int .i64 1,.func (.func 215) #[] #[],.int .i64 7]
theorem Zr6 (w:World):Calls Tryz.prog 167 #[] w (fun e w'=>e= .returned (.slice (some ⟨w.heap.size,0,none⟩) 3 3)/\Ext w w'/\w'.heap[w.heap.size]? =some (.cells Zau 278 (0,0))):=by
 have h0:=Zb w (.cells Zau 278)
 have e0:=Zc w (.cells Zau 278)
 unfold Zau at *
 go_enter Tryz.func167,Tryz.ntmps167
 go_wp2
 go_ret
 exact ⟨rfl,e0,h0⟩
open Go.RowKit Go.Rg Go.BigFrame
theorem Zl5:∀(l:List Int) (n:Int) (x:Int×Int×Int),x∈Yb l n->x.2.2=n
 | [],_,_,h=>by simp [Yb] at h
 | [_],_,_,h=>by simp [Yb] at h
 | a::b::r,n,x,h=>by
   simp only [Yb,List.mem_cons] at h
   rcases h with rfl | h
   ·rfl
   exact Zl5 (b::r) n x h
theorem Ziw (a t want:Int):∀(f:Nat) (c:List Int) (got:Int) (acc:Flows),WFG c->0<=got->got<want->(∀x∈acc,x.2.2<=want)->∀x∈(Xw a t want f c got acc).1,x.2.2<=want
 | 0,_,_,_,_,_,_,h=>h
 | f+1,c,got,acc,hw,h0,h1,h=>by
   unfold Xw
   by_cases hn:Zq c a t=[]
   ·rw [if_pos hn];exact h
   rw [if_neg hn]
   obtain ⟨p1,p2,p3,_⟩:=Jg hw hn (want-got) (by omega)
   have happ:∀x∈acc++Yb (Zq c a t) (Z5 c (Zq c a t) (want-got)),x.2.2<=want:=by
    intro x hx
    rcases List.mem_append.1 hx with hx | hx
    ·exact h x hx
    rw [Zl5 _ _ x hx];omega
   by_cases g1:got+Z5 c (Zq c a t) (want-got)=want
   ·rw [if_pos g1];exact happ
   rw [if_neg g1]
   exact Ziw a t want f _ _ _ p3 (by omega) (by omega) happ
theorem route_le (c:List Int) (a t want:Int) (hw:WFG c):∀x∈(Y9 c a t want).1,x.2.2<=max want 0:=by
 unfold Y9
 split
 ·intro x hx;simp at hx
 intro x hx
 have:=Ziw a t want 90000 c 0 [] hw (by omega) (by omega) (by simp) x hx
 omega
theorem Ze9:∀(l:Flows) (k j:Nat) (hk:k<l.length) (_hj:j<3),(Yq l)[k*3+j]? =[Value.int .u8 (l[k]'hk).1,.int .u8 (l[k]'hk).2.1,.int .i64 (l[k]'hk).2.2][j]?
 | [],_,_,hk,_=>by simp at hk
 | x::l,0,j,_,hj=>by
   have:Yq (x::l)=[.int .u8 x.1,.int .u8 x.2.1,.int .i64 x.2.2]++Yq l:=by simp [Yq]
   rw [this,List.getElem?_append_left (by simp;omega)]
   simp
 | x::l,k+1,j,hk,hj=>by
   have:Yq (x::l)=[.int .u8 x.1,.int .u8 x.2.1,.int .i64 x.2.2]++Yq l:=by simp [Yq]
   rw [this,List.getElem?_append_right (by simp;omega)]
   have:=Ze9 l k j (by simpa using hk) hj
   simp only [List.length_cons,List.length_nil,List.getElem_cons_succ]
   rw [show (k+1)*3+j-(0+1+1+1)=k*3+j by omega]
   exact this
def Yy (L:Led) (c:Int) (fl:Flows):Led:=fl.foldl (fun L x=>(Js L x.1 x.2.1 c x.2.2).2) L
def U5 (L:Led) (a b c n:Int):(Int×Int)×Led:=
 if Zkv a b c n=true then ((0,1),L) else if (!(Yr L a&&Yr L b))=true then ((0,7),L)
 else if (Y9 (ofR L c) a b n).2<n then ((0,11),L) else ((((Y9 (ofR L c) a b n).1.length:Int),0),Yy L c (Y9 (ofR L c) a b n).1)
theorem Znt {L:Led} (h:WF L) (c:Int) (fl:Flows):WF (Yy L c fl):=by
 induction fl generalizing L with
 | nil=>exact h
 | cons x fl ih=>exact ih (Zmj h _ _ _ _)
theorem Zie {L:Led} (h:WF L) (a b c n:Int):WF (U5 L a b c n).2:=by
 unfold U5
 split
 ·exact h
 split
 ·exact h
 split
 ·exact h
 exact Znt h _ _
theorem Zmt (p m:Nat) (L:Led) (a b c n:Int) (w:World) (h:IsLed w p m L) (hwf:WF L) (hn2:n<=9223372036854775807):
 Calls Tryz.prog 145 #[.pointer (some ⟨p,0,none⟩),.int .u8 a,.int .u8 b,.int .u8 c,.int .i64 n] w (Znq (two (U5 L a b c n).1) [m] (fun w'=>IsLed w' p m (U5 L a b c n).2) w):=by
 have h0:=Zb w (.cells #[.pointer (some ⟨p,0,none⟩),.int .u8 a,.int .u8 b,.int .u8 c,.int .i64 n] 273)
 have e0:=Zc w (.cells #[.pointer (some ⟨p,0,none⟩),.int .u8 a,.int .u8 b,.int .u8 c,.int .i64 n] 273)
 have s0:=size_alloc w (.cells #[.pointer (some ⟨p,0,none⟩),.int .u8 a,.int .u8 b,.int .u8 c,.int .i64 n] 273)
 obtain ⟨W,hW⟩:∃W,W=w.alloc (.cells #[.pointer (some ⟨p,0,none⟩),.int .u8 a,.int .u8 b,.int .u8 c,.int .i64 n] 273):=⟨_,rfl⟩
 rw [<-hW] at h0 e0 s0
 have HW:=Lib.hid hW
 clear hW
 go_enter Tryz.func145,Tryz.ntmps145
 go_wp2_with fail
 refine cast (congrArg (fun X=>Calls _ _ _ X _) HW.out) ?_
 refine (Zr6 W).mono ?_
 rintro e w2 ⟨rfl,e2,hc2⟩
 have hW2:=e2.at h0
 have hL2:=(h.ext e0).ext e2
 have E2:=Xt e0 e2
 rw [s0] at hc2
 go_wp2
 go_loopw [27] (fun i wr=>∃k:Nat,k<=3/\i= .int .i64 k/\Ext w2 wr/\(1<k->Zkv a b c n=false)/\(2<k->(!(Yr L a&&Yr L b))=false)) (fun i _=>3-(intOf i).toNat)
 case atStart=>exact ⟨0,by omega,rfl,Ext.refl _,by omega,by omega⟩
 obtain ⟨k,hk3,rfl,er,hb1,hb2⟩:=hrel
 have hLr:=hL2.ext er
 have hWr:=er.at hW2
 have hcr:=er.at hc2
 unfold Zau at hcr
 have ld94:=fun (wq:World) (hq:wq.heap[w.heap.size]? =some (.cells #[.pointer (some ⟨p,0,none⟩),.int .u8 a,.int .u8 b,.int .u8 c,.int .i64 n] 273 (0,0)))=>run_loadVar_row (P:=Tryz.prog) wq w.heap.size _ 273 _ _ _ hq Tryz.underlying273 rfl (by kernel_rfl)
 rcases (show k=0\/k=1\/k=2\/k=3 by omega) with rfl | rfl | rfl | rfl
 ·have ld99:(loadVar 278 ⟨w.heap.size+1,0,none⟩).run Tryz.prog wr= .ok (.agg #[.func (.func 213) #[] #[],.int .i64 2]) wr:=
   Zs wr _ 0 278 [_,_] _ (fun j v hv=>by
    match j,hv with
    | 0,hv=>simp at hv;subst hv;exact Za (j:=0) hcr rfl
    | 1,hv=>simp at hv;subst hv;exact Za (j:=1) hcr rfl
    | j+2,hv=>simp at hv) Tryz.underlying278 rfl (by kernel_rfl)
  have hz0:=Zb wr (.cells #[Value.nilFunc,.int .i64 0] 278)
  have ez0:=Zc wr (.cells #[Value.nilFunc,.int .i64 0] 278)
  go_wp2_with (first
   | (refine Zd rfl 278 _ _ _ rfl rfl ld99 ?_)
   | (refine Ze rfl rfl 278 _ _ rfl wr.heap.size _ rfl rfl 278 _ hz0 (by kernel_rfl) (by rfl) (by rfl) ?_;intro w3 hb3 ho3 hs3;have e3:Ext wr w3:=hb3 _ _ (Nat.le_refl _) ez0;have ldA:=ld94 w3 (e3.at hWr);have g0:=Za (j:=0) hs3 rfl)
   | (refine Zd rfl 273 _ _ _ rfl rfl ldA ?_))
  refine (Zsf p m L a b c n _ (hLr.ext e3)).mono ?_
  rintro e w5 ⟨rfl,e5⟩
  go_wp2
  exact ⟨⟨1,by omega,rfl,Xt er (Xt e3 e5),by omega,by omega⟩,by simp [intOf]⟩
 focus
  have ld99:(loadVar 278 ⟨w.heap.size+1,2,none⟩).run Tryz.prog wr= .ok (.agg #[.func (.func 214) #[] #[],.int .i64 1]) wr:=
   Zs wr _ 2 278 [_,_] _ (fun j v hv=>by
    match j,hv with
    | 0,hv=>simp at hv;subst hv;exact Za (j:=2) hcr rfl
    | 1,hv=>simp at hv;subst hv;exact Za (j:=3) hcr rfl
    | j+2,hv=>simp at hv) Tryz.underlying278 rfl (by kernel_rfl)
  have hz0:=Zb wr (.cells #[Value.nilFunc,.int .i64 0] 278)
  have ez0:=Zc wr (.cells #[Value.nilFunc,.int .i64 0] 278)
  go_wp2_with (first
   | (refine Zd rfl 278 _ _ _ rfl rfl ld99 ?_)
   | (refine Ze rfl rfl 278 _ _ rfl wr.heap.size _ rfl rfl 278 _ hz0 (by kernel_rfl) (by rfl) (by rfl) ?_;intro w3 hb3 ho3 hs3;have e3:Ext wr w3:=hb3 _ _ (Nat.le_refl _) ez0;have ldA:=ld94 w3 (e3.at hWr);have g0:=Za (j:=0) hs3 rfl)
   | (refine Zd rfl 273 _ _ _ rfl rfl ldA ?_))
  refine (bad_any p a b c n _).mono ?_
  rintro e w5 ⟨rfl,e5⟩
  have g1:=Za (j:=1) (e5.at hs3) rfl
  by_cases hbad:Zkv a b c n=true
  focus
   rw [hbad]
   have hr:U5 L a b c n=((0,1),L):=by unfold U5;rw [if_pos hbad]
  rotate_left
  ·have hbf:Zkv a b c n=false:=by simpa using hbad
   rw [hbf]
   go_wp2
   exact ⟨⟨2,by omega,rfl,Xt er (Xt e3 e5),fun _=>hbf,by omega⟩,by simp [intOf]⟩
 rotate_left
 focus
  have ld99:(loadVar 278 ⟨w.heap.size+1,4,none⟩).run Tryz.prog wr= .ok (.agg #[.func (.func 215) #[] #[],.int .i64 7]) wr:=
   Zs wr _ 4 278 [_,_] _ (fun j v hv=>by
    match j,hv with
    | 0,hv=>simp at hv;subst hv;exact Za (j:=4) hcr rfl
    | 1,hv=>simp at hv;subst hv;exact Za (j:=5) hcr rfl
    | j+2,hv=>simp at hv) Tryz.underlying278 rfl (by kernel_rfl)
  have hz0:=Zb wr (.cells #[Value.nilFunc,.int .i64 0] 278)
  have ez0:=Zc wr (.cells #[Value.nilFunc,.int .i64 0] 278)
  go_wp2_with (first
   | (refine Zd rfl 278 _ _ _ rfl rfl ld99 ?_)
   | (refine Ze rfl rfl 278 _ _ rfl wr.heap.size _ rfl rfl 278 _ hz0 (by kernel_rfl) (by rfl) (by rfl) ?_;intro w3 hb3 ho3 hs3;have e3:Ext wr w3:=hb3 _ _ (Nat.le_refl _) ez0;have ldA:=ld94 w3 (e3.at hWr);have g0:=Za (j:=0) hs3 rfl)
   | (refine Zd rfl 273 _ _ _ rfl rfl ldA ?_))
  refine (Zn0 p m L a b c n _ (hLr.ext e3)).mono ?_
  rintro e w5 ⟨rfl,e5⟩
  have g1:=Za (j:=1) (e5.at hs3) rfl
  have hbf:=hb1 (by omega)
  by_cases hst:(!(Yr L a&&Yr L b))=true
  focus
   rw [hst]
   have hr:U5 L a b c n=((0,7),L):=by unfold U5;rw [if_neg (by rw [hbf];simp),if_pos hst]
  rotate_left
  ·have hsf:(!(Yr L a&&Yr L b))=false:=by simpa using hst
   rw [hsf]
   go_wp2
   exact ⟨⟨3,by omega,rfl,Xt er (Xt e3 e5),fun _=>hbf,fun _=>hsf⟩,by simp [intOf]⟩
 rotate_left
 ·have hbf:=hb1 (by omega)
  have hsf:=hb2 (by omega)
  have hwg:=Zog hwf c
  have hro:=Zfy
  have hfl:=route_le (ofR L c) a b n hwg
  have hpr:U5 L a b c n=if (Y9 (ofR L c) a b n).2<n then ((0,11),L) else ((((Y9 (ofR L c) a b n).1.length:Int),0),Yy L c (Y9 (ofR L c) a b n).1):=by
   unfold U5
   rw [if_neg (by rw [hbf];simp),if_neg (by rw [hsf];simp)]
  have HPR:=Lib.hid hpr
  have EW:Ext w wr:=Xt E2 er
  clear hpr hbf hsf hb1 hb2 ld94 hcr hWr hro
  go_wp2_with fail
  refine (of_any p m L c wr hLr hwf).mono ?_
  rintro e w3 ⟨q,rfl,e3,hG,_⟩
  go_wp2_with fail
  refine (Zfy q _ a b n w3 hG hwg hn2).mono ?_
  rintro e w4 ⟨v,rfl,e4,hsl⟩
  generalize Y9 (ofR L c) a b n=r at *
  have E4:Ext w w4:=Xt EW (Xt e3 e4)
  have h4:=h.ext E4
  by_cases hlt:r.2<n
  ·have hlt':decide (r.2<n)=true:=by simpa using hlt
   have hp2:=HPR.out
   rw [if_pos hlt] at hp2
   have HP2:=Lib.hid hp2
   clear hp2 HPR hlt
   go_wp2
   go_ret2
   exact ⟨by rw [HP2.out];rfl,Kx E4,by rw [HP2.out];exact h4⟩
  have hlt':decide (r.2<n)=false:=by simpa using hlt
  have hp2:=HPR.out
  rw [if_neg hlt] at hp2
  have HP2:=Lib.hid hp2
  clear hp2 HPR hlt
  obtain ⟨A,cap,rfl,g1,g2,g3,g4⟩:=hsl
  have hn63:(r.1.length:Int)<=9223372036854775807:=by unfold maxLen at g2;omega
  have hlm:=h.ltm
  have hlp:=h.ltp
  have hs34:w.heap.size<=w3.heap.size:=(Xt EW e3).size
  go_wp2
  go_loopw [53] (fun i wq=>∃k:Nat,k<=r.1.length/\i= .int .i64 k/\Keep [m] w4 wq/\IsLed wq p m (Yy L c (r.1.take k))) (fun i _=>r.1.length-(intOf i).toNat)
  case atStart=>exact ⟨0,by omega,rfl,Keep.refl _ _,by rw [List.take_zero];exact h4⟩
  obtain ⟨k,hk,rfl,kk,hLk⟩:=hrel
  by_cases hkn:k<r.1.length
  ·have hwk:=Znt hwf c (r.1.take k)
   have hcat:=Ze9 r.1 k
   have hfx:=hfl (r.1[k]'hkn) (List.getElem_mem hkn)
   have hstep:Yy L c (r.1.take (k+1))=(Js (Yy L c (r.1.take k)) (r.1[k]'hkn).1 (r.1[k]'hkn).2.1 c (r.1[k]'hkn).2.2).2:=by
    rw [List.take_succ_eq_append_getElem hkn]
    unfold Yy
    rw [List.foldl_append]
    rfl
   rcases g4 with g4 | ⟨g,rfl,g5,g6,g7⟩
   ·omega
   have hc3:∀j v,[Value.int .u8 (r.1[k]'hkn).1,.int .u8 (r.1[k]'hkn).2.1,.int .i64 (r.1[k]'hkn).2.2][j]? =some v->wr.cell? ⟨g,k*3+j,none⟩=some v:=by
    intro j v hv
    have hj:j<3:=(List.getElem?_eq_some_iff.1 hv).1
    have:=g7 (k*3+j) v (by rw [hcat j hkn hj];exact hv)
    exact (Zf (a:=⟨g,k*3+j,none⟩) (kk.block g g6 (by simp;omega))).trans this
   have HST:=Lib.hid hstep
   generalize r.1[k]'hkn=x at *
   obtain ⟨x1,x2,x3⟩:=x
   simp only at hc3 hfx HST
   have ld104:(loadVar 285 ⟨g,k*3,none⟩).run Tryz.prog wr= .ok (.agg #[.int .u8 x1,.int .u8 x2,.int .i64 x3]) wr:=
    Zs wr g (k*3) 285 [_,_,_] _ hc3 Tryz.underlying285 rfl (by kernel_rfl)
   have hz0:=Zb wr (.cells #[.int .u8 0,.int .u8 0,.int .i64 0] 285)
   have ez0:=Zc wr (.cells #[.int .u8 0,.int .u8 0,.int .i64 0] 285)
   clear hc3 g7 hcat hstep
   go_wp2_with (first
    | (refine Zd rfl 285 _ _ _ rfl rfl ld104 ?_)
    | (refine Ze rfl rfl 285 _ _ rfl wr.heap.size _ rfl rfl 285 _ hz0 (by kernel_rfl) (by rfl) (by rfl) ?_;intro w5 hb5 ho5 hs5;have e5:Ext wr w5:=hb5 _ _ (Nat.le_refl _) ez0;have q0:=Za (j:=0) hs5 rfl;have q1:=Za (j:=1) hs5 rfl;have q2:=Za (j:=2) hs5 rfl))
   have hL5:=hLk.ext e5
   refine (push_any p m _ x1 x2 c x3 _ hL5 hwk (by omega)).mono ?_
   rintro e w6 ⟨rfl,k6,hL6⟩
   have kf:Keep [m] w4 w6:=(kk.trans (Kx e5)).trans k6
   have hLf:IsLed w6 p m (Yy L c (r.1.take (k+1))):=by rw [HST.out];exact hL6
   clear hLk hL5 hL6
   go_wp2
   first
    | exact ⟨⟨k+1,by omega,by go_num,kf,hLf⟩,by simp [intOf];omega⟩
    | refine ⟨?_,by simp [intOf];omega⟩
      repeat (apply Exists.intro)
      refine ⟨?_,rfl⟩
      exact ⟨k+1,by omega,by go_num,kf,hLf⟩
  have hke:k=r.1.length:=by omega
  subst hke
  rw [List.take_length] at hLk
  clear g4
  go_wp2
  go_ret2
  exact ⟨by rw [HP2.out];rfl,(Kx E4).trans kk,by rw [HP2.out];exact hLk⟩
 all_goals
  have hs5:=e5.at hs3
  have hr1:(U5 L a b c n).2=L:=by rw [hr]
  go_wp2
  refine Zh Zl 3 [] (by kernel_rfl) (by kernel_rfl) ?_
  intro w1 hw1
  have g1q:=fun u:ExtOf w1=>Za (j:=1) ((Xt hw1 u.h).at hs5) rfl
  simp only [Zk,Rg.hsB,Nat.reduceAdd,↓reduceIte]
  repeat (go_big_quiet_step ((fail)))
  refine wpQuiet_nil ?_
  refine Zj (by kernel_rfl) ?_
  intro w6 e6 e6'
  simp only [Rg.puB]
  go_wp2
  go_ret2
  have E6:Ext w w6:=Xt E2 (Xt er (Xt e3 (Xt e5 e6)))
  exact ⟨by rw [hr];rfl,Kx E6,by rw [hr1];exact h.ext E6⟩
end Go.Proofs.YtipjchbdogmccaaGreat
