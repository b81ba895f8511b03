/- A range over a function whose rounds keep what the iterator has laid: a law over states. Program independent. -/
import Derived.Test.YtipjchbdogmccaaGreatGen
namespace Go.Rg
open Go.RowKit
variable {P:Program}
section
variable {ops:Array Oper} {Q:Exit->Act->World->Prop}
theorem Zfp (lp n:Nat) (hout:¬LetsOut Q):∀(l:List Oper) (a:Act) (w:World),(∀o∈l,∀c,o.op≠ .defer c)->wpList P ops Q l a w->wpListIn (Fence.wide.inRound lp) n P ops Q l a w
 | [],_,_,_,h=>h
 | o::l,a,w,hd,h=>by
   unfold wpList at h
   unfold wpListIn
   have hd':∀o∈l,∀c,o.op≠ .defer c:=fun o ho=>hd o (by simp [ho])
   split
   ·rename_i hw
    simp only [hw,if_true] at h
    rcases h with h | ⟨_,h⟩
    ·refine ⟨fun _ _=>trivial,?_⟩
     rw [Oper.semAt_eq _ _ _ (hd o (by simp))]
     refine upon_in lp n o a _ _ ?_
     exact Oper.wp_mono (fun a' w' hk=>Zfp lp n hout l a' w' hd' hk) h
    exact absurd h hout
   rename_i hw
   simp only [hw] at h
   exact ⟨fun _ _=>trivial,Zfp lp n hout l _ _ hd' h⟩
theorem Zeq {lp n id:Nat} {l:List Oper} {a:Act} {w:World} (hnd:Zdh l.toArray=true) (hout:¬LetsOut Q) (h:wpList P l.toArray Q l a w):(Code.region id l.toArray false).wpIn (Fence.wide.inRound lp) n P Q a w:=
 wpIn_region (by
  have hr:=wpOpsIn_eq_wpListIn (F:=Fence.wide.inRound lp) (n:=n) (P:=P) (ops:=l.toArray) (Q:=Q) l 0 (fun j=>by simp)
  rw [show List.range l.toArray.size=List.range' 0 l.length by simp [List.range_eq_range'],hr]
  refine Zfp lp n hout l a w (fun o ho c hc=> ?_) h
  unfold Zdh at hnd
  rw [Array.all_eq_true'] at hnd
  have:=hnd o (by simpa using ho)
  rw [hc] at this
  cases this)
end
def IterKp (P:Program) {σ:Type} (gf:Nat) (lb:Array Value) (Base:σ->World->Prop) (Given:σ->World->World->Value->Prop) (rel:σ->σ->Prop) (End:σ->Prop) (s0:σ):Prop:=
 ∀(l:Nat) (J:σ->World->Prop) (Jx:World->Prop) (W:World),(∀s A B,J s A->Ext A B->J s B)->(∀s A,J s A->Base s A)->(∀s A,J s A->l<A.heap.size)->
  (∀s A B x,J s A->Ext A B->Given s A B x->YieldAt Fence.wide 0 P l #[x] B fun e W'=>(e= .returned (.bool true)/\Keep [l-1,l] B W'/\∃s',J s' W'/\rel s s')\/(e= .returned (.bool false)/\Jx W'))->
  J s0 W->Calls P gf (#[.func (.yield l) #[] #[]]++lb) W fun e W'=>(∃v,e= .returned v)/\((∃s',J s' W'/\End s')\/Jx W')
def kpPost {σ:Type} (D:Nat) (B:World) (I:σ->World->Prop) (Ix:Code->World->Prop) (rel:σ->Prop):Exit->Act->World->Prop
 | .normal,_,W'=>Keep [D,D+1] B W'/\(W'.heap[D]? =B.heap[D]? /\W'.heap[D+1]? =B.heap[D+1]?)/\∃s',I s' W'/\rel s'
 | .ret,_,W'=>(W'.heap[D]? =B.heap[D]? /\W'.heap[D+1]? =B.heap[D+1]?)/\Ix .ret W'
 | .exit id,_,W'=>(W'.heap[D]? =B.heap[D]? /\W'.heap[D+1]? =B.heap[D+1]?)/\Ix (.exit id) W'
 | .goto t,_,W'=>(W'.heap[D]? =B.heap[D]? /\W'.heap[D+1]? =B.heap[D+1]?)/\Ix (.goto t) W'
 | .panic _,_,_=>False
 | .outgrown,_,_=>False
set_option maxHeartbeats 400000 in
theorem Zes {σ:Type} {g:Operand} {ps:Array Tmp} {assign body:Code} {Q:Exit->Act->World->Prop} {a:Act} {w:World} {gf:Nat} {lb:Array Value}
 (hg:a.eval g= .func (.func gf) #[] lb) (eg:∀args w,(callFunc gf args).run P w= .ok (.enter gf args) w) (hps:ps.size=1)
 {Base:σ->World->Prop} {Given:σ->World->World->Value->Prop} {rel:σ->σ->Prop} {End:σ->Prop} {s0:σ} (hit:IterKp P gf lb Base Given rel End s0)
 (I:σ->World->Prop) (Ix:Code->World->Prop)
 (hI:∀s A B,I s A->Keep [w.heap.size,w.heap.size+1] A B->I s B) (hIx:∀c A B,Ix c A->Keep [w.heap.size,w.heap.size+1] A B->Ix c B) (hB:∀s A,I s A->Base s A)
 (hG:∀s A B B' x,Given s A B x->w.heap.size+2<=A.heap.size->Keep [w.heap.size,w.heap.size+1] B B'->Given s A B' x)
 (h0:I s0 w) (Asg:Value->Act->World->Prop) (hA:∀x a W W',Asg x a W->Keep [w.heap.size,w.heap.size+1] W W'->Asg x a W')
 (hassign:∀(l:Nat) (s:σ) (A:World) (x:Value) (W:World) (K:Act->World->Prop),Given s A W x->w.heap.size+2<=W.heap.size->(∀aX W',Ext W W'->Asg x aX W'->K aX W')->
   assign.wpIn (Fence.wide.inRound l) 0 P (Exit.then K (fun _ _ _=>False)) { tmps:=(ps.zip #[x]).foldl (fun t (p,v)=>t.setIfInBounds p v) a.tmps,defers:=[] } W)
 (hbody:∀(s:σ) (A B:World) (x:Value) (aX:Act),I s A->Keep [w.heap.size,w.heap.size+1] A B->Given s A B x->w.heap.size+2<=A.heap.size->Asg x aX B->
   body.wpIn (Fence.wide.inRound (w.heap.size+1)) 0 P (kpPost w.heap.size B I Ix (rel s)) aX B)
 (hdone:∀(s:σ) (W:World),End s->I s W->W.heap[w.heap.size]? =some (.deferred (some []))->Q .normal { a with defers:={ target:= .collected w.heap.size,args:=#[] }::a.defers } W)
 (hstop:∀(c:Code) (W:World),Ix c W->W.heap[w.heap.size]? =some (.deferred (some []))->c.wpIn Fence.wide 0 P Q { a with defers:={ target:= .collected w.heap.size,args:=#[] }::a.defers } W):
 (Code.rangeFunc g ps assign body).wpIn Fence.wide 0 P Q a w:=by
 refine wpIn_rangeFunc ?_
 intro fn hfn
 rw [show Fence.wide.round=none from rfl]
 -- the loop's record,by its state and its pending jump
 obtain ⟨rec,hrec⟩:∃rec:LoopState->Option Code->Loop,rec=fun st pe=>{ state:=st,pending:=pe,fn,tmps:=a.tmps,params:=ps,assign,body,defers:=w.heap.size }:=⟨_,rfl⟩
 obtain ⟨W1,hW1⟩:∃W1,(w.alloc (.deferred (some []))).alloc (.loop (rec .ready none))=W1:=⟨_,rfl⟩
 have e1:Ext w W1:=by rw [<-hW1];exact Xt (Zc _ _) (Zc _ _)
 have hs1:W1.heap.size=w.heap.size+2:=by rw [<-hW1];simp [World.size_alloc]
 have hl1:W1.heap[w.heap.size+1]? =some (.loop (rec .ready none)):=by
  rw [<-hW1];have:=Zb (w.alloc (.deferred (some []))) (.loop (rec .ready none));rwa [size_alloc] at this
 have hd1:W1.heap[w.heap.size]? =some (.deferred (some [])):=by
  rw [<-hW1];exact (Zc _ _).at (Zb w _)
 -- what is kept between two rounds
 obtain ⟨J,hJ⟩:∃J:σ->World->Prop,∀s W,J s W↔I s W/\W.heap[w.heap.size+1]? =some (.loop (rec .ready none))/\W.heap[w.heap.size]? =some (.deferred (some []))/\w.heap.size+2<=W.heap.size:=⟨_,fun _ _=>Iff.rfl⟩
 obtain ⟨Jx,hJx⟩:∃Jx:World->Prop,∀W,Jx W↔∃c,Ix c W/\W.heap[w.heap.size+1]? =some (.loop (rec .done (some c)))/\W.heap[w.heap.size]? =some (.deferred (some [])):=⟨_,fun _=>Iff.rfl⟩
 have hround:∀s A B x,J s A->Ext A B->Given s A B x->YieldAt Fence.wide 0 P (w.heap.size+1) #[x] B fun e W'=>(e= .returned (.bool true)/\Keep [w.heap.size+1-1,w.heap.size+1] B W'/\∃s',J s' W'/\rel s s')\/(e= .returned (.bool false)/\Jx W'):=by
  intro s A B x h k hx
  obtain ⟨hIs,hl,hd,hsz⟩:=(hJ _ _).1 h
  have hlB:=k.at hl
  have hdB:=k.at hd
  have hltB:w.heap.size+1<B.heap.size:=Zg hlB
  have hy:=run_yield (P:=P) (args:=#[x]) hlB (by rw [hrec];simp [hps])
  rw [hrec] at hy
  refine ⟨fn,_,assign,body,hy,roundIn_of_wpIn hfn (hassign _ s A x B _ hx (by omega) fun aX B' kX hAX=>⟨_,run_beginRound (kX.at hlB) (by rw [hrec]),?_⟩)⟩
  have hlB':=kX.at hlB
  have hdB':=kX.at hdB
  have hltB':=Zg hlB'
  have kB:Keep [w.heap.size,w.heap.size+1] B' (B'.putObj (w.heap.size+1) (.loop { rec .ready none with state:= .busy })):=Xs _ (by simp)
  have hl2:(B'.putObj (w.heap.size+1) (.loop { rec .ready none with state:= .busy })).heap[w.heap.size+1]? =some (.loop { rec .ready none with state:= .busy }):=World.putObj_heap_same hltB'
  have hd2:(B'.putObj (w.heap.size+1) (.loop { rec .ready none with state:= .busy })).heap[w.heap.size]? =some (.deferred (some [])):=(World.putObj_heap_other (by omega)).trans hdB'
  generalize hB2:B'.putObj (w.heap.size+1) (.loop { rec .ready none with state:= .busy })=B2 at *
  refine wpIn_mono (hbody s A B2 x aX hIs (((Kx k).trans (Kx kX)).trans kB) (hG s A B B2 x hx hsz ((Kx kX).trans kB)) hsz (hA _ _ _ _ hAX kB)) ?_
  have fin:∀(jump:Option Code) (W3:World),W3.heap[w.heap.size]? =B2.heap[w.heap.size]? /\W3.heap[w.heap.size+1]? =B2.heap[w.heap.size+1]? ->
   ∃W4,(Instr.endRound (w.heap.size+1) jump).run P W3= .ok (.bool jump.isNone) W4/\Keep [w.heap.size,w.heap.size+1] W3 W4/\
   W4.heap[w.heap.size+1]? =some (.loop (rec (if jump.isNone then .ready else .done) jump))/\W4.heap[w.heap.size]? =some (.deferred (some [])):=fun jump W3 hk=>by
   have hl3:W3.heap[w.heap.size+1]? =some (.loop { rec .ready none with state:= .busy }):=hk.2.trans hl2
   have hr:=run_endRound (P:=P) jump hl3
   refine ⟨_,hr,Xs _ (by simp),?_,(World.putObj_heap_other (by omega)).trans (hk.1.trans hd2)⟩
   have:=World.putObj_heap_same (w:=W3) (o:= .loop { { rec .ready none with state:= .busy } with state:=if jump.isNone then .ready else .done,pending:=jump }) (Zg hl3)
   rw [this,hrec]
  have szk:∀{W4:World},W4.heap[w.heap.size+1]? =some (.loop (rec .ready none))->w.heap.size+2<=W4.heap.size:=fun h=>Zg h
  rintro e a3 W3 hp
  cases e with
  | normal=>
    obtain ⟨hkp,hk,s',hI',hr'⟩:=hp
    obtain ⟨W4,hr4,k4,h4,h5⟩:=fin none W3 hk
    exact ⟨_,W4,hr4,.inl ⟨rfl,(((Kx kX).trans kB).trans hkp).trans k4,s',(hJ _ _).2 ⟨hI s' W3 W4 hI' k4,h4,h5,szk h4⟩,hr'⟩⟩
  | ret=>
    obtain ⟨W4,hr4,k4,h4,h5⟩:=fin (some .ret) W3 hp.1
    exact ⟨_,W4,hr4,.inr ⟨rfl,(hJx _).2 ⟨.ret,hIx _ W3 W4 hp.2 k4,h4,h5⟩⟩⟩
  | exit id=>
    obtain ⟨W4,hr4,k4,h4,h5⟩:=fin (some (.exit id)) W3 hp.1
    exact ⟨_,W4,hr4,.inr ⟨rfl,(hJx _).2 ⟨.exit id,hIx _ W3 W4 hp.2 k4,h4,h5⟩⟩⟩
  | goto t=>
    obtain ⟨W4,hr4,k4,h4,h5⟩:=fin (some (.goto t)) W3 hp.1
    exact ⟨_,W4,hr4,.inr ⟨rfl,(hJx _).2 ⟨.goto t,hIx _ W3 W4 hp.2 k4,h4,h5⟩⟩⟩
  | panic ch=>exact hp.elim
  | outgrown=>exact hp.elim
 have hcall:=hit (w.heap.size+1) J Jx W1
  (fun s A B h k=>by
    have h:=(hJ _ _).1 h
    exact (hJ _ _).2 ⟨hI s A B h.1 (Kx k),k.at h.2.1,k.at h.2.2.1,Nat.le_trans h.2.2.2 k.size⟩) (fun s A h=>hB s A ((hJ _ _).1 h).1) (fun s A h=>((hJ _ _).1 h).2.2.2)
  hround ((hJ _ _).2 ⟨hI s0 w W1 h0 (Kx e1),hl1,hd1,by omega⟩)
 refine ⟨w.heap.size+1,[{ target:= .collected w.heap.size,args:=#[] }],W1,{ target:= .fn (.func gf) lb,args:=#[.func (.yield (w.heap.size+1)) #[] #[]] },W1,gf,
  #[.func (.yield (w.heap.size+1)) #[] #[]]++lb,W1,?_,?_,?_,?_,?_,?_⟩
 ·rw [<-hW1,hrec];exact run_enterLoop_outer _ _ _ _ _
 ·simp only [resolve,hg]
  simp [go_sem]
 ·intro f' _;trivial
 ·simp [invoke,go_sem,eg]
 ·intro hd;simp [Fence.wide] at hd
 refine CallsIn.mono (callsIn_wide.2 hcall) ?_
 rintro e W2 ⟨⟨v,rfl⟩,(⟨s',hj,hE⟩ | hj)⟩
 ·obtain ⟨hI',hl,hd,_⟩:=(hJ _ _).1 hj
  have hr:=run_endLoop (P:=P) hl (by rw [hrec];simp)
  have hp:(rec .ready none).pending=none:=by rw [hrec]
  rw [hp] at hr
  exact ⟨none,_,hr,hdone s' _ hE (hI s' W2 _ hI' (Xs _ (by simp))) ((World.putObj_heap_other (by omega)).trans hd)⟩
 obtain ⟨c,hc,hl,hd⟩:=(hJx _).1 hj
 have hr:=run_endLoop (P:=P) hl (by rw [hrec];simp)
 have hp:(rec .done (some c)).pending=some c:=by rw [hrec]
 rw [hp] at hr
 exact ⟨some c,_,hr,hstop c _ (hIx c W2 _ hc (Xs _ (by simp))) ((World.putObj_heap_other (by omega)).trans hd)⟩
end Go.Rg
