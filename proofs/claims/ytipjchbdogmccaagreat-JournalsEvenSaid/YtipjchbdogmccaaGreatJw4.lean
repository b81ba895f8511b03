/- Journals: slices of entries: Clip, Clone, Collect; walked. A region that draws its order, in an iterator: the quiet ones first, the rest in order, a round among them. Program independent. The accounts there may be, in order. Journals: accounts that are other ones, in order: the iterator, walked. Journals: an account's entries, in order: the iterator, walked. -/
import Derived.Test.YtipjchbdogmccaaGreatIterK
import Derived.Test.YtipjchbdogmccaaGreatAll
import Derived.Test.YtipjchbdogmccaaGreatBase
import Derived.Test.YtipjchbdogmccaaGreatLed6
import Derived.Test.YtipjchbdogmccaaGreatRoute
import Derived.Test.YtipjchbdogmccaaGreatBest2
set_option maxHeartbeats 3200000
set_option maxRecDepth 100000
namespace Go.Rg
open Go.RowKit
variable {P:Program} {ops:Array Oper} {md:Region.Mode} {Q:Exit->Act->World->Prop}
theorem Zcp {F:Fence} {n:Nat}:∀(l:List Oper) (k:Nat) (listed:Array Bool) (a:Act) (w:World),(∀j,l[j]? =ops[k+j]?)->
 Region.seqB md ops l.length k listed=true->wpListIn F n P ops Q l a w->wpAnyIn F n P md ops Q l.length listed a w
 | [],_,_,_,_,_,hB,h=>⟨by simpa [Region.seqB] using hB,h⟩
 | o::l,k,listed,a,w,hl,hB,h=>by
   have h0:ops[k]? =some o:=by simpa using (hl 0).symm
   simp only [List.length_cons,Region.seqB,Bool.and_eq_true,decide_eq_true_eq] at hB
   refine ⟨fun h1=>(by rw [hB.1] at h1;cases h1),fun i hi=> ?_⟩
   rw [hB.1] at hi
   have hik:i=k:=by simpa using hi
   subst hik
   have hw:wpOpIn F n P ops Q i (wpListIn F n P ops Q l) a w:=by unfold wpOpIn;simp only [h0];exact h
   exact wpOpIn_mono (fun a' w' h'=>Zcp l (i+1) _ a' w' (fun j=>by have:=hl (j+1);simpa [Nat.add_assoc,Nat.add_comm 1 j] using this) hB.2 h') hw
theorem upon_wide (n:Nat) (o:Oper) (a:Act) (next:Act->World->Prop) (r:Result Next) (h:o.upon P a next Q r):o.uponIn Fence.wide n P a next Q r:=by
 cases r with
 | ok x w'=>
   cases x with
   | value v=>exact h
   | skip=>exact h
   | defer d=>exact h
   | enter f args=>exact ⟨fun hd=>by simp [Fence.wide] at hd,callsIn_wide.2 h⟩
   | row row args=>
     refine ⟨fun hd=>by simp [Fence.wide] at hd,fun c cs _=> ?_⟩
     obtain ⟨v,w'',hv,hs⟩:=h c cs
     exact ⟨v,w'',hv,stepsIn_wide.2 hs⟩
   | round l f tmps assign body=>exact h.elim
   | _=>exact h.elim
 | halt x w'=>cases x<;>exact h
theorem wpOp_wide (n:Nat) (hnd:J6 ops=true) {Q':Exit->Act->World->Prop} (hout:¬LetsOut Q') (hq:∀e a w,Q' e a w->Q e a w) {K:Act->World->Prop} {i:Nat} {a:Act} {w:World} (h:wpOp P ops Q' i K a w):wpOpIn Fence.wide n P ops Q i K a w:=by
 unfold wpOp at h
 unfold wpOpIn
 cases ho:ops[i]? with
 | none=>simpa [ho] using h
 | some o=>
   simp only [ho] at h ⊢
   split
   ·rename_i hw
    simp only [hw,if_true] at h
    rcases h with h | ⟨_,h⟩
    ·refine ⟨fun _ _=>trivial,?_⟩
     have hd:∀c,o.op≠ .defer c:=fun c hc=>by
      unfold J6 at hnd
      rw [Array.all_eq_true'] at hnd
      have:=hnd o (Array.mem_of_getElem? ho)
      rw [hc] at this
      cases this
     rw [Oper.semAt_eq _ _ _ hd]
     have h2:=upon_wide (Q:=Q') n o a _ _ h
     generalize (execOp a.eval o).run P w=r at h2
     cases r with
     | ok x w'=>
       cases x<;>simp only [Oper.uponIn] at h2 ⊢<;>
        first
         | exact h2
         | exact ⟨h2.1,CallsIn.mono h2.2 (fun e w'' he=>by cases e<;>first | exact he | exact hq _ _ _ he | exact absurd he hout)⟩
         | exact ⟨h2.1,RoundIn.mono h2.2 (fun e w'' he=>by cases e<;>first | exact he | exact hq _ _ _ he | exact absurd he hout)⟩
     | halt x w'=>cases x<;>simp only [Oper.uponIn] at h2 ⊢<;>first | exact h2 | exact hq _ _ _ h2
    exact absurd h hout
   rename_i hw
   simp only [hw] at h
   exact ⟨fun _ _=>trivial,h⟩
theorem Zco {w0:World} {n g m:Nat} {L:Array Bool->Act->World->Prop} (hnd:J6 ops=true) (hL:∀listed a w,L listed a w->wpAnyIn Fence.wide m P md ops Q g listed a w):
 ∀(f:Nat) (listed:Array Bool) (a:Act) (w:World),Ext w0 w->wpX P md ops w0 n L f listed a w->wpAnyIn Fence.wide m P md ops Q (f+g) listed a w
 | 0,listed,a,w,h0,h=>by rw [Nat.zero_add];exact hL _ _ _ (h w h0 (Ext.refl _))
 | f+1,listed,a,w,h0,h=>by
   rw [show f+1+g=(f+g)+1 by omega]
   exact ⟨fun e=>absurd e h.1,fun i hi=>wpOpIn_mono (fun a' w' ⟨h1,h2⟩=>Zco hnd hL f _ a' w' h1 h2)
    (wpOp_wide m hnd (Q':=fun _ _ _=>False) (fun ⟨_,_,h⟩=>h) (fun _ _ _ h=>h.elim) (Uy (Uk (K':=fun a' w'=>Ext w0 w'/\wpX P md ops w0 n L f (listed.setIfInBounds i true) a' w') h0 (fun _ _ h1 h2=>⟨h1,h2⟩) ((h.2 i hi).2 w h0 (Ext.refl _)))))⟩
def Ztf (P:Program) (ops:Array Oper) (Q:Exit->Act->World->Prop) (n m:Nat) (listed:Array Bool) (a:Act) (w:World):Prop:=
 Region.seqB .any ops (ops.size-n) n listed=true/\wpListIn Fence.wide m P ops Q (ops.toList.drop n) a w
theorem Zbl (W:Y0 P) {id m:Nat} {a:Act} {w:World} {l:List Oper} (n:Nat) (es:List Nat) (hm:P.follows .mixedOrders=true) (hnd:J6 l.toArray=true) (hB:Ze4 l.toArray n es=true)
 (h:∀w1,Ext w w1->wpQuiet P l.toArray (Cls w1) (fun a'=>wpX P .any l.toArray w n (Ztf P l.toArray Q n m) es.length (Zz es n 0 (Array.replicate l.toArray.size false)) a' w1) (Zj es 0 (l.take n)) a):
 (Code.region id l.toArray true).wpIn Fence.wide m P Q a w:=by
 refine wpIn_region_any hm ?_
 simp only [Ze4,Bool.and_eq_true,decide_eq_true_eq] at hB
 obtain ⟨⟨⟨⟨⟨hsel,hn⟩,hs⟩,hc⟩,hlex⟩,hnum⟩:=hB
 have hn':n<l.length:=by simpa using hn
 have htl:(l.take n).length=n:=by simp;omega
 have inv0:HeadInv .any l.toArray n (Array.replicate l.toArray.size false):=
  ⟨by simp,fun j oj _ hl=>(by rw [getD_replicate_false] at hl;cases hl),fun t _ ht=>getD_in (by simpa using ht) (getD_replicate_false _ _)⟩
 have H:=Xc (md:= .any) W (w0:=w) (L:=Ztf P l.toArray Q n m) (e:=es.length) (es:=es) hsel hs hc hn (fun listed a w hL=>seqB_ready hL.1) (l.take n) 0 (Array.replicate l.toArray.size false) a
  { w with drawn:=w.drawn+1 } (fun j hj=>by
    have hj':j<n:=by rw [htl] at hj;exact hj
    simp [hj']) (by simpa using htl) inv0 ((Ext.refl w).drew) (by rw [htl];exact hlex) (by rw [htl];exact h)
 rw [htl,hnum] at H
 have H2:=Zco (Q:=Q) (g:=l.toArray.size-n) (m:=m) hnd (fun listed a' w' hL=>by
  have:=Zcp (md:= .any) (ops:=l.toArray) (Q:=Q) (F:=Fence.wide) (n:=m) (l.drop n) n listed a' w' (fun j=>by simp [List.getElem?_drop]) (by rw [show (l.drop n).length=l.toArray.size-n by simp];exact hL.1) (by simpa using hL.2)
  rwa [show (l.drop n).length=l.toArray.size-n by simp] at this) _ _ _ _ ((Ext.refl w).drew) H
 rw [show n+(l.toArray.size-n)=l.toArray.size by omega] at H2
 exact H2
theorem Ziu {n m:Nat} {listed:Array Bool} {l:List Oper} {a:Act} {w0 w:World} (hB:Region.seqB .any l.toArray (l.toArray.size-n) n listed=true)
 (h:∀w',Ext w0 w'->Ext w w'->wpListIn Fence.wide m P l.toArray Q (l.drop n) a w'):wpX P .any l.toArray w0 n (Ztf P l.toArray Q n m) 0 listed a w:=
 fun w' h0 hw'=>⟨hB,by simpa using h w' h0 hw'⟩
def Zth (P:Program) {σ:Type} (gf:Nat) (lb:Array Value) (Base:σ->World->Prop) (Given:σ->World->World->Value->Prop) (rel:σ->σ->Prop) (End:σ->Prop) (s0:σ):Prop:=
 ∀(l:Nat) (J:σ->World->Prop) (Jx:World->Prop) (W:World),(∀s A B,J s A->Ext A B->J s B)->(∀s A,J s A->Base s A)->(∀s A,J s A->l<A.heap.size)->
  (∀s A B x,J s A->Ext A B->Given s A B x->YieldAt Fence.wide 0 P l #[x] B fun e W'=>(e= .returned (.bool true)/\∃s',J s' W'/\rel s s')\/(e= .returned (.bool false)/\Jx W'))->
  J s0 W->Calls P gf (#[.func (.yield l) #[] #[]]++lb) W fun e W'=>(∃v,e= .returned v)/\((∃s',J s' W'/\End s')\/Jx W')
theorem U6 {σ:Type} {g:Operand} {ps:Array Tmp} {assign body:Code} {Q:Exit->Act->World->Prop} {a:Act} {w:World} {gf:Nat} {lb:Array Value}
 (hg:a.eval g= .func (.func gf) #[] lb) (eg:∀args w,(callFunc gf args).run P w= .ok (.enter gf args) w) (hps:ps.size=1)
 {Base:σ->World->Prop} {Given:σ->World->World->Value->Prop} {rel:σ->σ->Prop} {End:σ->Prop} {s0:σ} (hit:Zth P gf lb Base Given rel End s0)
 (I:σ->World->Prop) (Ix:Code->World->Prop)
 (hI:∀s A B,I s A->Keep [w.heap.size,w.heap.size+1] A B->I s B) (hIx:∀c A B,Ix c A->Keep [w.heap.size,w.heap.size+1] A B->Ix c B) (hB:∀s A,I s A->Base s A)
 (hG:∀s A B B' x,Given s A B x->w.heap.size+2<=A.heap.size->Keep [w.heap.size,w.heap.size+1] B B'->Given s A B' x)
 (h0:I s0 w) (Asg:Value->Act->World->Prop) (hA:∀x a W W',Asg x a W->Keep [w.heap.size,w.heap.size+1] W W'->Asg x a W')
 (hassign:∀(l:Nat) (s:σ) (A:World) (x:Value) (W:World) (K:Act->World->Prop),Given s A W x->w.heap.size+2<=W.heap.size->(∀aX W',Ext W W'->Asg x aX W'->K aX W')->
   assign.wpIn (Fence.wide.inRound l) 0 P (Exit.then K (fun _ _ _=>False)) { tmps:=(ps.zip #[x]).foldl (fun t (p,v)=>t.setIfInBounds p v) a.tmps,defers:=[] } W)
 (hbody:∀(s:σ) (A B:World) (x:Value) (aX:Act),I s A->Keep [w.heap.size,w.heap.size+1] A B->Given s A B x->w.heap.size+2<=A.heap.size->Asg x aX B->
   body.wpIn (Fence.wide.inRound (w.heap.size+1)) 0 P (stPost w.heap.size B I Ix (rel s)) aX B)
 (hdone:∀(s:σ) (W:World),End s->I s W->W.heap[w.heap.size]? =some (.deferred (some []))->Q .normal { a with defers:={ target:= .collected w.heap.size,args:=#[] }::a.defers } W)
 (hstop:∀(c:Code) (W:World),Ix c W->W.heap[w.heap.size]? =some (.deferred (some []))->c.wpIn Fence.wide 0 P Q { a with defers:={ target:= .collected w.heap.size,args:=#[] }::a.defers } W):
 (Code.rangeFunc g ps assign body).wpIn Fence.wide 0 P Q a w:=by
 refine wpIn_rangeFunc ?_
 intro fn hfn
 rw [show Fence.wide.round=none from rfl]
 -- the loop's record,by its state and its pending jump
 obtain ⟨rec,hrec⟩:∃rec:LoopState->Option Code->Loop,rec=fun st pe=>{ state:=st,pending:=pe,fn,tmps:=a.tmps,params:=ps,assign,body,defers:=w.heap.size }:=⟨_,rfl⟩
 obtain ⟨W1,hW1⟩:∃W1,(w.alloc (.deferred (some []))).alloc (.loop (rec .ready none))=W1:=⟨_,rfl⟩
 have e1:Ext w W1:=by rw [<-hW1];exact Xt (Zc _ _) (Zc _ _)
 have hs1:W1.heap.size=w.heap.size+2:=by rw [<-hW1];simp [World.size_alloc]
 have hl1:W1.heap[w.heap.size+1]? =some (.loop (rec .ready none)):=by
  rw [<-hW1];have:=Zb (w.alloc (.deferred (some []))) (.loop (rec .ready none));rwa [size_alloc] at this
 have hd1:W1.heap[w.heap.size]? =some (.deferred (some [])):=by
  rw [<-hW1];exact (Zc _ _).at (Zb w _)
 -- what is kept between two rounds
 obtain ⟨J,hJ⟩:∃J:σ->World->Prop,∀s W,J s W↔I s W/\W.heap[w.heap.size+1]? =some (.loop (rec .ready none))/\W.heap[w.heap.size]? =some (.deferred (some []))/\w.heap.size+2<=W.heap.size:=⟨_,fun _ _=>Iff.rfl⟩
 obtain ⟨Jx,hJx⟩:∃Jx:World->Prop,∀W,Jx W↔∃c,Ix c W/\W.heap[w.heap.size+1]? =some (.loop (rec .done (some c)))/\W.heap[w.heap.size]? =some (.deferred (some [])):=⟨_,fun _=>Iff.rfl⟩
 have hround:∀s A B x,J s A->Ext A B->Given s A B x->YieldAt Fence.wide 0 P (w.heap.size+1) #[x] B fun e W'=>(e= .returned (.bool true)/\∃s',J s' W'/\rel s s')\/(e= .returned (.bool false)/\Jx W'):=by
  intro s A B x h k hx
  obtain ⟨hIs,hl,hd,hsz⟩:=(hJ _ _).1 h
  have hlB:=k.at hl
  have hdB:=k.at hd
  have hltB:w.heap.size+1<B.heap.size:=Ze hlB
  have hy:=run_yield (P:=P) (args:=#[x]) hlB (by rw [hrec];simp [hps])
  rw [hrec] at hy
  refine ⟨fn,_,assign,body,hy,roundIn_of_wpIn hfn (hassign _ s A x B _ hx (by omega) fun aX B' kX hAX=>⟨_,run_beginRound (kX.at hlB) (by rw [hrec]),?_⟩)⟩
  have hlB':=kX.at hlB
  have hdB':=kX.at hdB
  have hltB':=Ze hlB'
  have kB:Keep [w.heap.size,w.heap.size+1] B' (B'.putObj (w.heap.size+1) (.loop { rec .ready none with state:= .busy })):=Yg _ (by simp)
  have hl2:(B'.putObj (w.heap.size+1) (.loop { rec .ready none with state:= .busy })).heap[w.heap.size+1]? =some (.loop { rec .ready none with state:= .busy }):=World.putObj_heap_same hltB'
  have hd2:(B'.putObj (w.heap.size+1) (.loop { rec .ready none with state:= .busy })).heap[w.heap.size]? =some (.deferred (some [])):=(World.putObj_heap_other (by omega)).trans hdB'
  generalize hB2:B'.putObj (w.heap.size+1) (.loop { rec .ready none with state:= .busy })=B2 at *
  refine wpIn_mono (hbody s A B2 x aX hIs (((Kx k).trans (Kx kX)).trans kB) (hG s A B B2 x hx hsz ((Kx kX).trans kB)) hsz (hA _ _ _ _ hAX kB)) ?_
  have fin:∀(jump:Option Code) (W3:World),W3.heap[w.heap.size]? =B2.heap[w.heap.size]? /\W3.heap[w.heap.size+1]? =B2.heap[w.heap.size+1]? ->
   ∃W4,(Instr.endRound (w.heap.size+1) jump).run P W3= .ok (.bool jump.isNone) W4/\Keep [w.heap.size,w.heap.size+1] W3 W4/\
   W4.heap[w.heap.size+1]? =some (.loop (rec (if jump.isNone then .ready else .done) jump))/\W4.heap[w.heap.size]? =some (.deferred (some [])):=fun jump W3 hk=>by
   have hl3:W3.heap[w.heap.size+1]? =some (.loop { rec .ready none with state:= .busy }):=hk.2.trans hl2
   have hr:=run_endRound (P:=P) jump hl3
   refine ⟨_,hr,Yg _ (by simp),?_,(World.putObj_heap_other (by omega)).trans (hk.1.trans hd2)⟩
   have:=World.putObj_heap_same (w:=W3) (o:= .loop { { rec .ready none with state:= .busy } with state:=if jump.isNone then .ready else .done,pending:=jump }) (Ze hl3)
   rw [this,hrec]
  have szk:∀{W4:World},W4.heap[w.heap.size+1]? =some (.loop (rec .ready none))->w.heap.size+2<=W4.heap.size:=fun h=>Ze h
  rintro e a3 W3 hp
  cases e with
  | normal=>
    obtain ⟨hk,s',hI',hr'⟩:=hp
    obtain ⟨W4,hr4,k4,h4,h5⟩:=fin none W3 hk
    exact ⟨_,W4,hr4,.inl ⟨rfl,s',(hJ _ _).2 ⟨hI s' W3 W4 hI' k4,h4,h5,szk h4⟩,hr'⟩⟩
  | ret=>
    obtain ⟨W4,hr4,k4,h4,h5⟩:=fin (some .ret) W3 hp.1
    exact ⟨_,W4,hr4,.inr ⟨rfl,(hJx _).2 ⟨.ret,hIx _ W3 W4 hp.2 k4,h4,h5⟩⟩⟩
  | exit id=>
    obtain ⟨W4,hr4,k4,h4,h5⟩:=fin (some (.exit id)) W3 hp.1
    exact ⟨_,W4,hr4,.inr ⟨rfl,(hJx _).2 ⟨.exit id,hIx _ W3 W4 hp.2 k4,h4,h5⟩⟩⟩
  | goto t=>
    obtain ⟨W4,hr4,k4,h4,h5⟩:=fin (some (.goto t)) W3 hp.1
    exact ⟨_,W4,hr4,.inr ⟨rfl,(hJx _).2 ⟨.goto t,hIx _ W3 W4 hp.2 k4,h4,h5⟩⟩⟩
  | panic ch=>exact hp.elim
  | outgrown=>exact hp.elim
 have hcall:=hit (w.heap.size+1) J Jx W1
  (fun s A B h k=>by
    have h:=(hJ _ _).1 h
    exact (hJ _ _).2 ⟨hI s A B h.1 (Kx k),k.at h.2.1,k.at h.2.2.1,Nat.le_trans h.2.2.2 k.size⟩) (fun s A h=>hB s A ((hJ _ _).1 h).1) (fun s A h=>((hJ _ _).1 h).2.2.2)
  hround ((hJ _ _).2 ⟨hI s0 w W1 h0 (Kx e1),hl1,hd1,by omega⟩)
 refine ⟨w.heap.size+1,[{ target:= .collected w.heap.size,args:=#[] }],W1,{ target:= .fn (.func gf) lb,args:=#[.func (.yield (w.heap.size+1)) #[] #[]] },W1,gf,
  #[.func (.yield (w.heap.size+1)) #[] #[]]++lb,W1,?_,?_,?_,?_,?_,?_⟩
 ·rw [<-hW1,hrec];exact run_enterLoop_outer _ _ _ _ _
 ·simp only [resolve,hg]
  simp [go_sem]
 ·intro f' _;trivial
 ·simp [invoke,go_sem,eg]
 ·intro hd;simp [Fence.wide] at hd
 refine CallsIn.mono (callsIn_wide.2 hcall) ?_
 rintro e W2 ⟨⟨v,rfl⟩,(⟨s',hj,hE⟩ | hj)⟩
 ·obtain ⟨hI',hl,hd,_⟩:=(hJ _ _).1 hj
  have hr:=run_endLoop (P:=P) hl (by rw [hrec];simp)
  have hp:(rec .ready none).pending=none:=by rw [hrec]
  rw [hp] at hr
  exact ⟨none,_,hr,hdone s' _ hE (hI s' W2 _ hI' (Yg _ (by simp))) ((World.putObj_heap_other (by omega)).trans hd)⟩
 obtain ⟨c,hc,hl,hd⟩:=(hJx _).1 hj
 have hr:=run_endLoop (P:=P) hl (by rw [hrec];simp)
 have hp:(rec .done (some c)).pending=some c:=by rw [hrec]
 rw [hp] at hr
 exact ⟨some c,_,hr,hstop c _ (hIx c W2 _ hc (Yg _ (by simp))) ((World.putObj_heap_other (by omega)).trans hd)⟩
end Go.Rg
namespace Go.Proofs.YtipjchbdogmccaaGreat
def Zbj:List (Int×Int):=(List.range 17).flatMap fun (p:Nat)=>(List.range 9).map fun (c:Nat)=>((p:Int),(c:Int))
theorem Zo9 {a:Int×Int}:a∈Zbj↔0<=a.1/\a.1<=16/\0<=a.2/\a.2<=8:=by
 obtain ⟨p,c⟩:=a
 unfold Zbj
 simp only [List.mem_flatMap,List.mem_map,List.mem_range,Prod.mk.injEq]
 constructor
 ·rintro ⟨i,hi,j,hj,rfl,rfl⟩
  omega
 rintro ⟨h1,h2,h3,h4⟩
 exact ⟨p.toNat,by omega,c.toNat,by omega,by omega,by omega⟩
theorem Za1:Zbj.length=153:=by decide+kernel
theorem accs_at (k:Nat) (h:k<Zbj.length):Zbj[k]'h=(((k / 9:Nat):Int),((k%9:Nat):Int)):=by
 have h2:=Za1
 have h3:∀k:Fin 153,Zbj[k.1]? =some (((k.1 / 9:Nat):Int),((k.1%9:Nat):Int)):=by decide+kernel
 have h4:=h3 ⟨k,by omega⟩
 rw [List.getElem?_eq_getElem h] at h4
 injection h4
theorem accs_up:Zbj.Pairwise fun a b=>a.1<b.1\/(a.1=b.1/\a.2<b.2):=by decide+kernel
def Zbh (f g:Int->Int->Int):List (Int×Int):=Zbj.filter fun a=>f a.1 a.2 !=g a.1 a.2
def Zas (f g:Int->Int->Int) (i:Nat):Nat:=((Zbj.take i).filter fun a=>f a.1 a.2 !=g a.1 a.2).length
theorem jmoved_at (f g:Int->Int->Int) (p c:Nat) (hp:p<17) (hc:c<9):
 (f (p:Int) (c:Int)≠g (p:Int) (c:Int)->(Zbh f g)[Zas f g (p*9+c)]? =some ((p:Int),(c:Int))/\Zas f g (p*9+c+1)=Zas f g (p*9+c)+1)/\
 (f (p:Int) (c:Int)=g (p:Int) (c:Int)->Zas f g (p*9+c+1)=Zas f g (p*9+c)):=by
 have hk:p*9+c<Zbj.length:=by rw [Za1];omega
 have ha:=accs_at _ hk
 rw [show (p*9+c) / 9=p by omega,show (p*9+c)%9=c by omega] at ha
 generalize p*9+c=i at *
 unfold Zas Zbh
 rw [List.take_succ_eq_append_getElem hk,ha,List.filter_append,List.length_append]
 constructor
 ·intro hne
  rw [List.filter_cons_of_pos (by simpa using hne)]
  refine ⟨?_,rfl⟩
  have h1:Zbj.filter (fun a=>f a.1 a.2 !=g a.1 a.2)=(Zbj.take i).filter (fun a=>f a.1 a.2 !=g a.1 a.2)++((p:Int),(c:Int))::(Zbj.drop (i+1)).filter (fun a=>f a.1 a.2 !=g a.1 a.2):=by
   conv=>lhs;rw [<-List.take_append_drop i Zbj,List.filter_append,List.drop_eq_getElem_cons hk,ha,List.filter_cons_of_pos (by simpa using hne)]
  rw [h1,List.getElem?_append_right (Nat.le_refl _),Nat.sub_self]
  rfl
 intro he
 rw [List.filter_cons_of_neg (by simpa using he)]
 rfl
theorem Zsb (f g:Int->Int->Int) (i:Nat) (h:153<=i):Zas f g i=(Zbh f g).length:=by
 unfold Zas Zbh
 rw [List.take_of_length_le (by rw [Za1];exact h)]
structure En where
 no:Int
 st:Int
 kd:Int
 pa:Int
 cu:Int
 n:Int
 sm:Int
def Zam (es:List En) (p c:Int):List En:=es.filter fun e=>e.pa==p&&e.cu==c
theorem Zkz (l l':List En) (p c:Int):Zam (l++l') p c=Zam l p c++Zam l' p c:=List.filter_append ..
def En.cells (e:En):List Value:=[.int .i64 e.no,.int .i64 e.st,.int .u8 e.kd,.int .u8 e.pa,.int .u8 e.cu,.int .i64 e.n,.int .i64 e.sm]
def En.agg (e:En):Value:= .agg #[.int .i64 e.no,.int .i64 e.st,.int .u8 e.kd,.int .u8 e.pa,.int .u8 e.cu,.int .i64 e.n,.int .i64 e.sm]
def Yf (l:List En):List Value:=l.flatMap En.cells
def ofN (es:List En) (p c:Int) (k:Nat):Nat:=(Zam (es.take k) p c).length
theorem jof_at (es:List En) (p c:Int) (k:Nat) (hk:k<es.length):
 ((es[k]'hk).pa=p/\(es[k]'hk).cu=c->(Zam es p c)[ofN es p c k]? =some (es[k]'hk)/\ofN es p c (k+1)=ofN es p c k+1)/\
 (¬((es[k]'hk).pa=p/\(es[k]'hk).cu=c)->ofN es p c (k+1)=ofN es p c k):=by
 unfold ofN
 rw [List.take_succ_eq_append_getElem hk,Zkz,List.length_append]
 generalize he:es[k]'hk=e
 constructor
 ·intro h
  have h1:Zam [e] p c=[e]:=by unfold Zam;rw [List.filter_cons_of_pos (by simp [h.1,h.2])];rfl
  rw [h1]
  refine ⟨?_,rfl⟩
  have h2:Zam es p c=Zam (es.take k) p c++e::Zam (es.drop (k+1)) p c:=by
   conv=>lhs;rw [<-List.take_append_drop k es,Zkz,List.drop_eq_getElem_cons hk,he]
   rw [show e::es.drop (k+1)=[e]++es.drop (k+1) from rfl,Zkz,h1]
   rfl
  rw [h2,List.getElem?_append_right (Nat.le_refl _),Nat.sub_self]
  rfl
 intro h
 have h1:Zam [e] p c=[]:=by unfold Zam;rw [List.filter_cons_of_neg (by simpa using h)];rfl
 rw [h1]
 rfl
theorem jof_end (es:List En) (p c:Int):ofN es p c es.length=(Zam es p c).length:=by unfold ofN;rw [List.take_length]
open Go.RowKit Go.Rg Go.BigFrame
def Zqx (a:Int×Int):Value:= .agg #[.int .u8 a.1,.int .u8 a.2]
def mvBox (b1 b2:Nat):Array Value:=#[.pointer (some ⟨b1,0,none⟩),.pointer (some ⟨b2,0,none⟩)]
theorem Zsc (x y:Option Addr) (w:World):Calls Tryz.prog 76 #[.pointer x,.pointer y] w
 (fun e w'=>e= .returned (.func (.func 121) #[] (mvBox w.heap.size (w.heap.size+1)))/\Ext w w'/\w'.heap[w.heap.size]? =some (.cells #[.pointer x] 183 (0,0))/\w'.heap[w.heap.size+1]? =some (.cells #[.pointer y] 183 (0,0))):=by
 have e0:=Zc w (.cells #[.pointer x] 183)
 have h0:=Zb w (.cells #[.pointer x] 183)
 have s0:=size_alloc w (.cells #[.pointer x] 183)
 have e1:=Zc (w.alloc (.cells #[.pointer x] 183)) (.cells #[.pointer y] 183)
 have h1:=Zb (w.alloc (.cells #[.pointer x] 183)) (.cells #[.pointer y] 183)
 rw [s0] at h1
 go_enter Tryz.func76,Tryz.ntmps76
 go_wp2
 go_ret
 exact ⟨rfl,Xt e0 e1,e1.at h0,h1⟩
structure MvB (x1 x2 b1 o1 b2 o2:Nat) (f g:Int->Int->Int) (W:World):Prop where
 k1:W.heap[x1]? =some (.cells #[.pointer (some ⟨b1,o1,none⟩)] 183 (0,0))
 k2:W.heap[x2]? =some (.cells #[.pointer (some ⟨b2,o2,none⟩)] 183 (0,0))
 c1:∀p c:Nat,p<17->c<9->W.cell? ⟨b1,o1+p*9+c,none⟩=some (.int .i64 (f (p:Int) (c:Int)))
 c2:∀p c:Nat,p<17->c<9->W.cell? ⟨b2,o2+p*9+c,none⟩=some (.int .i64 (g (p:Int) (c:Int)))
theorem Zpt (x1 x2 b1 o1 b2 o2:Nat) (f g:Int->Int->Int):
 Zth Tryz.prog 121 (mvBox x1 x2) (fun (_:Nat) W=>MvB x1 x2 b1 o1 b2 o2 f g W)
  (fun s _ _ x=>∃a,(Zbh f g)[s]? =some a/\x=Zqx a) (fun s s'=>s'=s+1) (fun s=>s=(Zbh f g).length) 0:=by
 intro l J Jx W hE hBs hJl hR h0
 refine (callsIn_wide (n:=0)).1 ?_
 show CallsIn Fence.wide 0 Tryz.prog 121 #[.func (.yield l) #[] #[],.pointer (some ⟨x1,0,none⟩),.pointer (some ⟨x2,0,none⟩)] W _
 refine callsIn_of_wp Tryz.func121 rfl trivial ?_ rfl
 simp only [Tryz.ntmps121,List.size_toArray,List.length_cons,List.length_nil,Nat.reduceAdd,Nat.reduceSub,Array.replicate_succ,Array.replicate_zero,List.push_toArray,List.append_toArray,List.nil_append,List.cons_append]
 gi_wp2
 gi_loopw [4,5,6,7,8,9,10,11,12,13,14,15,16,17,18,19,20,21,22,23,24,25,26,27,28,29,30,31,32,33,34,35,36,37,38] (fun _ _ i _ _ _ _ _ _ _ _ _ _ _ _ _ _ _ _ _ _ _ _ _ _ _ _ _ _ _ _ _ _ _ _ wr=>∃p:Nat,p<=17/\i= .int .i64 p/\J (Zas f g (p*9)) wr) (fun _ _ i _ _ _ _ _ _ _ _ _ _ _ _ _ _ _ _ _ _ _ _ _ _ _ _ _ _ _ _ _ _ _ _ _=>17-(intOf i).toNat)
 case atStart=>exact ⟨0,Nat.zero_le _,rfl,by unfold Zas;simpa using h0⟩
 obtain ⟨p,hp,rfl,hJ⟩:=hrel
 by_cases hp17:p<17
 ·have hp':decide ((p:Int)<17)=true:=by rw [decide_eq_true_eq];omega
  gi_wp2
  gi_loopw [5,9,10,11,12,13,14,15,16,17,18,19,20,21,22,23,24,25,26,27,28,29,30,31,32,33,34,35,36,37] (fun _ i _ _ _ _ _ _ _ _ _ _ _ _ _ _ _ _ _ _ _ _ _ _ _ _ _ _ _ _ wr=>∃c:Nat,c<=9/\i= .int .i64 c/\J (Zas f g (p*9+c)) wr) (fun _ i _ _ _ _ _ _ _ _ _ _ _ _ _ _ _ _ _ _ _ _ _ _ _ _ _ _ _ _ _=>9-(intOf i).toNat)
  case atStart=>exact ⟨0,Nat.zero_le _,rfl,hJ⟩
  clear hJ
  obtain ⟨c,hc,rfl,hJ⟩:=hrel
  by_cases hc9:c<9
  ·have hc':decide ((c:Int)<9)=true:=by rw [decide_eq_true_eq];omega
   have hm:=jmoved_at f g p c hp17 hc9
   have hB:=hBs _ _ hJ
   have q1:=hB.c1 p c hp17 hc9
   have q2:=hB.c2 p c hp17 hc9
   have k1:=Za (j:=0) hB.k1 rfl
   have k2:=Za (j:=0) hB.k2 rfl
   have hB1:=fun s A (h:J s A)=>(hBs s A h).c1 p c hp17 hc9
   have hB2:=fun s A (h:J s A)=>(hBs s A h).c2 p c hp17 hc9
   generalize f (p:Int) (c:Int)=fv at *
   generalize g (p:Int) (c:Int)=gv at *
   cases hd:(fv !=gv) with
   | true=>
     obtain ⟨hm1,hm2⟩:=hm.1 (by simpa using hd)
     have hJ2:=fun B k=>hR _ wr B _ hJ k ⟨_,hm1,rfl⟩
     simp only [Zqx] at hJ2
     rw [<-hm2] at hJ2
     have HJ2:=Lib.hid hJ2
     clear hm hm1 hm2 hJ2
     gi_wp2
     refine Zbl Zk 22 [] (by kernel_rfl) (by kernel_rfl) (by kernel_rfl) ?_
     intro w1 hw1
     have q1u:∀u:ExtOf w1,u.to.cell? ⟨b1,o1+p*9+c,none⟩=_:=fun u=>hB1 _ _ (hE _ _ _ hJ (Xt hw1 u.h))
     have q2u:∀u:ExtOf w1,u.to.cell? ⟨b2,o2+p*9+c,none⟩=_:=fun u=>hB2 _ _ (hE _ _ _ hJ (Xt hw1 u.h))
     have k1u:=fun u:ExtOf w1=>Za (j:=0) ((hBs _ _ (hE _ _ _ hJ (Xt hw1 u.h))).k1) rfl
     have k2u:=fun u:ExtOf w1=>Za (j:=0) ((hBs _ _ (hE _ _ _ hJ (Xt hw1 u.h))).k2) rfl
     simp only [Zj,Rg.hsB,Nat.reduceAdd,↓reduceIte]
     repeat (go_big_quiet_step ((fail)))
     refine wpQuiet_nil ?_
     refine Ziu (by kernel_rfl) ?_
     intro w6 e6 e6'
     simp only [Rg.puB]
     clear q1u q2u k1u k2u
     obtain ⟨fn,tmps,assign,body,hy,hRd⟩:=HJ2.out _ e6
     gi_wp2
     refine ⟨rfl,RoundIn.mono hRd ?_⟩
     rintro e W3 (⟨rfl,s',hJ',rfl⟩ | ⟨rfl,hJx⟩)
     ·gi_wp2
      exact ⟨⟨c+1,by omega,by go_num,hJ'⟩,by simp [intOf];omega⟩
     gi_wp2
     refine bodyPost_ret (results_none rfl _ _ _) rfl ?_
     exact ⟨⟨_,rfl⟩,.inr hJx⟩
   | false=>
     have hm2:=hm.2 (by simpa using hd)
     clear hm
     gi_wp2
     refine Zbl Zk 22 [] (by kernel_rfl) (by kernel_rfl) (by kernel_rfl) ?_
     intro w1 hw1
     have q1u:∀u:ExtOf w1,u.to.cell? ⟨b1,o1+p*9+c,none⟩=_:=fun u=>hB1 _ _ (hE _ _ _ hJ (Xt hw1 u.h))
     have q2u:∀u:ExtOf w1,u.to.cell? ⟨b2,o2+p*9+c,none⟩=_:=fun u=>hB2 _ _ (hE _ _ _ hJ (Xt hw1 u.h))
     have k1u:=fun u:ExtOf w1=>Za (j:=0) ((hBs _ _ (hE _ _ _ hJ (Xt hw1 u.h))).k1) rfl
     have k2u:=fun u:ExtOf w1=>Za (j:=0) ((hBs _ _ (hE _ _ _ hJ (Xt hw1 u.h))).k2) rfl
     simp only [Zj,Rg.hsB,Nat.reduceAdd,↓reduceIte]
     repeat (go_big_quiet_step ((fail)))
     refine wpQuiet_nil ?_
     refine Ziu (by kernel_rfl) ?_
     intro w6 e6 e6'
     simp only [Rg.puB]
     clear q1u q2u k1u k2u
     gi_wp2
     refine ⟨fun _ _=>trivial,?_⟩
     gi_wp2
     exact ⟨⟨c+1,by omega,by go_num,by rw [show p*9+(c+1)=p*9+c+1 by omega,hm2];exact hE _ _ _ hJ e6⟩,by simp [intOf];omega⟩
  have hc':c=9:=by omega
  subst hc'
  gi_wp2
  exact ⟨⟨p+1,by omega,by go_num,by rw [show (p+1)*9=p*9+9 by omega];exact hJ⟩,by simp [intOf];omega⟩
 have hp':p=17:=by omega
 subst hp'
 gi_wp2
 go_end0
 exact ⟨⟨_,rfl⟩,.inl ⟨_,hJ,Zsb f g _ (by omega)⟩⟩
open Go.RowKit Go.Rg Go.BigFrame
def Zb1 (p c:Int):Array Value:=#[.int .u8 p,.int .u8 c]
def Zjt (b1 b2:Nat):Array Value:=#[.pointer (some ⟨b1,0,none⟩),.pointer (some ⟨b2,0,none⟩)]
theorem jof_any (x:Option Addr) (p c:Int) (w:World):Calls Tryz.prog 72 #[.pointer x,.agg (Zb1 p c)] w
 (fun e w'=>e= .returned (.func (.func 120) #[] (Zjt w.heap.size (w.heap.size+1)))/\Ext w w'/\w'.heap[w.heap.size]? =some (.cells #[.pointer x] 77 (0,0))/\w'.heap[w.heap.size+1]? =some (.cells (Zb1 p c) 177 (0,0))):=by
 have e0:=Zc w (.cells #[.pointer x] 77)
 have h0:=Zb w (.cells #[.pointer x] 77)
 have s0:=size_alloc w (.cells #[.pointer x] 77)
 have e1:=Zc (w.alloc (.cells #[.pointer x] 77)) (.cells (Zb1 p c) 177)
 have h1:=Zb (w.alloc (.cells #[.pointer x] 77)) (.cells (Zb1 p c) 177)
 rw [s0] at h1
 unfold Zb1 at *
 go_enter Tryz.func72,Tryz.ntmps72
 go_wp2
 go_ret
 exact ⟨rfl,Xt e0 e1,e1.at h0,h1⟩
structure OfB (x1 x2 jb:Nat) (ev:Value) (es:List En) (p c:Int) (W:World):Prop where
 k1:W.heap[x1]? =some (.cells #[.pointer (some ⟨jb,0,none⟩)] 77 (0,0))
 k2:W.heap[x2]? =some (.cells (Zb1 p c) 177 (0,0))
 ec:W.cell? ⟨jb,308,none⟩=some ev
 arg:Vv W 7 ev es.length (Yf es)
theorem X2 (l:List En) (k j:Nat) (hk:k<l.length) (hj:j<7):(Yf l)[k*7+j]? =((l[k]'hk).cells)[j]? :=by
 unfold Yf
 induction l generalizing k with
 | nil=>simp at hk
 | cons o l ih=>
   cases k with
   | zero=>
     simp only [List.flatMap_cons,Nat.zero_mul,Nat.zero_add,List.getElem_cons_zero]
     rw [List.getElem?_append_left (show j<o.cells.length from hj)]
   | succ k=>
     simp only [List.flatMap_cons,List.getElem_cons_succ]
     rw [List.getElem?_append_right (show o.cells.length<=(k+1)*7+j by show 7<=_;omega),show (k+1)*7+j-o.cells.length=k*7+j by show (k+1)*7+j-7=_;omega]
     exact ih k (by simpa using hk)
theorem Zhr (l:List En):(Yf l).length=l.length*7:=by
 unfold Yf
 induction l with
 | nil=>simp
 | cons o l ih=>rw [List.flatMap_cons,List.length_append,ih,List.length_cons];show 7+_=_;omega
theorem Zpr (x1 x2 jb:Nat) (ev:Value) (es:List En) (p c:Int):
 Zth Tryz.prog 120 (Zjt x1 x2) (fun (_:Nat) W=>OfB x1 x2 jb ev es p c W)
  (fun s _ _ x=>∃e,(Zam es p c)[s]? =some e/\x=e.agg) (fun s s'=>s'=s+1) (fun s=>s=(Zam es p c).length) 0:=by
 intro l J Jx W hE hBs hJl hR h0
 refine (callsIn_wide (n:=0)).1 ?_
 show CallsIn Fence.wide 0 Tryz.prog 120 #[.func (.yield l) #[] #[],.pointer (some ⟨x1,0,none⟩),.pointer (some ⟨x2,0,none⟩)] W _
 refine callsIn_of_wp Tryz.func120 rfl trivial ?_ rfl
 simp only [Tryz.ntmps120,List.size_toArray,List.length_cons,List.length_nil,Nat.reduceAdd,Nat.reduceSub,Array.replicate_succ,Array.replicate_zero,List.push_toArray,List.append_toArray,List.nil_append,List.cons_append]
 have hB0:=hBs _ _ h0
 have k1:=Za (j:=0) hB0.k1 rfl
 have ec:=hB0.ec
 obtain ⟨A,cap,rfl,q1,q2,q3,q4⟩:=hB0.arg
 have hn63:(es.length:Int)<=9223372036854775807:=by unfold maxLen at q2;omega
 clear hB0 q4
 gi_wp2
 gi_loopw [5,11,12,13,14,15,16,17,18,19,20,21,22,23,24,25,26,27,28] (fun _ i _ _ _ _ _ _ _ _ _ _ _ _ _ _ _ _ _ wr=>∃k:Nat,k<=es.length/\i= .int .i64 k/\J (ofN es p c k) wr) (fun _ i _ _ _ _ _ _ _ _ _ _ _ _ _ _ _ _ _ _=>es.length-(intOf i).toNat)
 case atStart=>exact ⟨0,Nat.zero_le _,rfl,by unfold ofN;simpa [Zam] using h0⟩
 clear k1 ec h0
 obtain ⟨k,hk,rfl,hJ⟩:=hrel
 by_cases hkn:k<es.length
 ·have hm:=jof_at es p c k hkn
  have hB:=hBs _ _ hJ
  obtain ⟨A',cap',hv,_,_,_,q4⟩:=hB.arg
  injection hv with hv1 _ hv2
  subst hv1 hv2
  rcases q4 with q4 | ⟨gs,off,rfl,hlt,hcs⟩
  ·omega
  have hg:∀(j:Nat) (hj:j<7) u,(es[k]'hkn).cells[j]? =some u->wr.cell? ⟨gs,off+(k*7+j),none⟩=some u:=fun j hj u hu=>hcs _ _ ((X2 es k j hkn hj).trans hu)
  have hR2:=fun B k2 he=>hR (ofN es p c k) wr B _ hJ k2 ⟨(es[k]'hkn),he,rfl⟩
  generalize (es[k]'hkn)=e at *
  obtain ⟨no,st,kd,pa,cu,n,sm⟩:=e
  have g0:wr.cell? ⟨gs,off+k*7,none⟩=some (.int .i64 no):=hg 0 (by decide) _ rfl
  have g1:wr.cell? ⟨gs,off+k*7+1,none⟩=some (.int .i64 st):=by rw [Nat.add_assoc];exact hg 1 (by decide) _ rfl
  have g2:wr.cell? ⟨gs,off+k*7+2,none⟩=some (.int .u8 kd):=by rw [Nat.add_assoc];exact hg 2 (by decide) _ rfl
  have g3:wr.cell? ⟨gs,off+k*7+3,none⟩=some (.int .u8 pa):=by rw [Nat.add_assoc];exact hg 3 (by decide) _ rfl
  have g4:wr.cell? ⟨gs,off+k*7+4,none⟩=some (.int .u8 cu):=by rw [Nat.add_assoc];exact hg 4 (by decide) _ rfl
  have g5:wr.cell? ⟨gs,off+k*7+5,none⟩=some (.int .i64 n):=by rw [Nat.add_assoc];exact hg 5 (by decide) _ rfl
  have g6:wr.cell? ⟨gs,off+k*7+6,none⟩=some (.int .i64 sm):=by rw [Nat.add_assoc];exact hg 6 (by decide) _ rfl
  clear hg
  have d2:wr.cell? ⟨x2,0,none⟩=some (.int .u8 p):=Za (j:=0) hB.k2 rfl
  have d3:wr.cell? ⟨x2,1,none⟩=some (.int .u8 c):=Za (j:=1) hB.k2 rfl
  have hlt2:=Ze hB.k2
  simp only [En.agg] at hR2 hm
  by_cases hd:pa=p/\cu=c
  ·obtain ⟨hm1,hm2⟩:=hm.1 hd
   obtain ⟨rfl,rfl⟩:=hd
   have hE2:=Zc wr (.cells #[.int .i64 no,.int .i64 st,.int .u8 kd,.int .u8 pa,.int .u8 cu,.int .i64 n,.int .i64 sm] 84)
   obtain ⟨fn,tmps,assign,body,hy,hRd⟩:=hR2 _ hE2 hm1
   rw [<-hm2] at hRd
   clear hR2 hm hE2 hm1 hm2
   gi_wp2
   refine ⟨rfl,RoundIn.mono hRd ?_⟩
   rintro e W3 (⟨rfl,s',hJ',rfl⟩ | ⟨rfl,hJx⟩)
   ·gi_wp2
    exact ⟨⟨k+1,by omega,by go_num,hJ'⟩,by simp [intOf];omega⟩
   gi_wp2
   refine bodyPost_ret (results_none rfl _ _ _) rfl ?_
   exact ⟨⟨_,rfl⟩,.inr hJx⟩
  have hm2:=hm.2 hd
  have hE2:=Zc wr (.cells #[.int .i64 no,.int .i64 st,.int .u8 kd,.int .u8 pa,.int .u8 cu,.int .i64 n,.int .i64 sm] 84)
  have hJ':=hE _ _ _ hJ hE2
  rw [<-hm2] at hJ'
  clear hR2 hm hm2 hE2
  by_cases hd1:pa=p
  focus
   have hd2:(cu==c)=false:=by rw [beq_eq_false_iff_ne];exact fun e=>hd ⟨hd1,e⟩
   have hd3:¬cu=c:=fun e=>hd ⟨hd1,e⟩
   clear hd
   subst hd1
  rotate_left
  focus
   have hd2:(pa==p)=false:=by rw [beq_eq_false_iff_ne];exact hd1
   clear hd
  all_goals
   gi_wp2
   refine ⟨fun _ _=>trivial,?_⟩
   gi_wp2
   exact ⟨⟨k+1,by omega,by go_num,hJ'⟩,by simp [intOf];omega⟩
 have hk':k=es.length:=by omega
 subst hk'
 gi_wp2
 go_end0
 exact ⟨⟨_,rfl⟩,.inl ⟨_,hJ,jof_end es p c⟩⟩
open Go.RowKit Go.Rg Go.BigFrame
theorem Znu:(Tryz.prog.info? 84).map (fun i=>(i.zero,i.size,i.bytes))=some (some (.agg #[.int .i64 0,.int .i64 0,.int .u8 0,.int .u8 0,.int .u8 0,.int .i64 0,.int .i64 0]),7,40):=by kernel_rfl
theorem Zqd (l:List En):∀u∈Yf l,u.oneCell'=true:=by
 intro u hu
 unfold Yf at hu
 obtain ⟨e,_,he⟩:=List.mem_flatMap.1 hu
 simp [En.cells] at he
 rcases he with rfl | rfl | rfl | rfl | rfl | rfl | rfl<;>rfl
theorem Zhs (l l':List En):Yf (l++l')=Yf l++Yf l':=by unfold Yf;rw [List.flatMap_append]
theorem Zmt (base n:Nat) (v:Value) (xs:List Value) (w:World) (h:Zt w base 7 v n xs):Calls Tryz.prog 69 #[v] w (fun e w'=>∃v',e= .returned v'/\w'=w/\Zt w' base 7 v' n xs):=by
 obtain ⟨A,cap,rfl,h1,h2,h3,h4⟩:=h
 rcases h4 with rfl | ⟨g,rfl,hb,hlt,hc⟩
 ·cases A
  rotate_left
  focus rename_i a
  all_goals
   go_enter Tryz.func69,Tryz.ntmps69
   go_wp2
   go_ret
   exact ⟨_,rfl,rfl,_,_,rfl,Nat.le_refl _,by unfold maxLen;omega,h3,.inl rfl⟩
 have hn63:(n:Int)<=9223372036854775807:=by unfold maxLen at h2;omega
 go_enter Tryz.func69,Tryz.ntmps69
 go_wp2
 go_ret
 exact ⟨_,rfl,rfl,_,_,rfl,Nat.le_refl _,Nat.le_trans h1 h2,h3,.inr ⟨g,rfl,hb,hlt,hc⟩⟩
def Ztg (l:List En) (w:World) (e:Ending) (w':World):Prop:=∃v,e= .returned v/\Ext w w'/\w'.ownsRow w.heap.size 84 7 v l.length (Yf l)
def RetEnl (l:List En) (w:World) (e:Ending) (w':World):Prop:=∃v,e= .returned v/\Ext w w'/\Zt w' w.heap.size 7 v l.length (Yf l)
theorem Zs4 (v:Value) (l:List En) (w:World) (h:Vv w 7 v l.length (Yf l)) (hl:l.length<=1000000):Calls Tryz.prog 70 #[v] w (Ztg l w):=by
 obtain ⟨A,cap,rfl,h1,h2,h3,h4⟩:=h
 obtain ⟨i0,hi,hz0,hz1,hz2⟩:=info_parts Znu
 have hq:=fun w=>Lib.run_eql_slice_nil (P:=Tryz.prog) w 80 _ A l.length cap 0 0 Tryz.underlying80
 cases A with
 | none=>
   have h0:l.length=0:=by
    rcases h4 with h4 | ⟨g,off,hg,_⟩
    ·exact h4
    simp at hg
   have:l=[]:=List.eq_nil_of_length_eq_zero h0
   subst this
   simp only [List.length_nil] at hq
   go_enter Tryz.func70,Tryz.ntmps70
   go_wp2
   go_ret
   exact ⟨_,rfl,Ext.refl _,World.ownsRow_nil _ _ _ _⟩
 | some ad=>
   have hnews:∀j u,(Yf l)[j]? =some u->w.cell? (ad.add j)=some u:=by
    intro j u hu
    rcases h4 with h4 | ⟨g,off,hg,hlt,hc⟩
    ·have:l=[]:=List.eq_nil_of_length_eq_zero h4
     subst this
     simp [Yf] at hu
    simp only [Option.some.injEq] at hg
    subst hg
    have hadd:(⟨g,off,none⟩:Addr).add j=⟨g,off+j,none⟩:=by unfold Addr.add;split<;>simp_all
    rw [hadd];exact hc j u hu
   have hlt:0<l.length->ad.block<w.heap.size:=fun hp=>by
    rcases h4 with h4 | ⟨g,off,hg,hlt,hc⟩
    ·omega
    simp only [Option.some.injEq] at hg;subst hg;exact hlt
   have hW:=World.ownsRow_lit (base:=w.heap.size) (e:=84) (size:=7) w #[] 0 (Nat.le_refl _) (by unfold maxLen;omega) rfl
   have e0:=Zc w (.cells #[] 84)
   have hn2:∀j u,(Yf l)[j]? =some u->(w.alloc (.cells #[] 84)).cell? (ad.add j)=some u:=by
    intro j u hu
    have hj:=(List.getElem?_eq_some_iff.1 hu).1
    rw [Zhr] at hj
    have hb:(ad.add j).block=ad.block:=by unfold Addr.add;split<;>rfl
    have hk:(w.alloc (.cells #[] 84)).heap[(ad.add j).block]? =w.heap[(ad.add j).block]? :=by rw [hb];exact e0.block (hlt (by omega))
    exact (Zd hk).trans (hnews j u hu)
   have hl3:=Zhr l
   have h1c:=Zqd l
   generalize hcs:Yf l=news at *
   go_enter Tryz.func70,Tryz.ntmps70
   go_wp2_with (first
    | (at_builtin;refine wpList_append_own _ rfl _ _ 80 rfl w.heap.size 84 i0 (.agg #[.int .i64 0,.int .i64 0,.int .u8 0,.int .u8 0,.int .u8 0,.int .i64 0,.int .i64 0]) 7 40 Tryz.underlying80 hi hz0 hz1 hz2 rfl (by decide) _ _ _ rfl hW ad l.length cap news rfl hl3 hn2 h1c (by unfold maxLen;omega) (by omega) (by simp) ?_;intro v' w3 hown' hgrow3 hnil3))
   go_ret
   rw [Nat.zero_add,List.nil_append] at hown'
   have e3:Ext w w3:=by
    have:=(Below.refl w.heap.size w).alloc (Nat.le_refl _) (.cells #[] 84)
    exact this.grown hgrow3 (by simp) (fun q hq=>by have:=hW.lt q hq;omega)
   exact ⟨v',rfl,e3,hcs▸hown'⟩
theorem OfB.ext {x1 x2 jb:Nat} {ev:Value} {es:List En} {p c:Int} {W W':World} (h:OfB x1 x2 jb ev es p c W) (hj:jb<W.heap.size) (k:Ext W W'):OfB x1 x2 jb ev es p c W':=
 ⟨k.at h.k1,k.at h.k2,(Zd (a:=⟨jb,308,none⟩) (k.block hj)).trans h.ec,h.arg.ext k⟩
theorem Zow (tmps:Array Value) (w:World):(results Tryz.f119 tmps).run Tryz.prog w= .ok (tmps.getD 4 undef) w:=by
 have hr:Tryz.f119.results=#[.tmp 4]:=rfl
 simp only [results,hr]
 simp
structure CoI (w:World) (l:List En) (s:Nat) (W:World):Prop where
 be:Ext w W
 bx:∃v,W.heap[w.heap.size]? =some (.cells #[v] 80 (0,0))/\W.ownsRow (w.heap.size+3) 84 7 v s (Yf (l.take s))
 le:s<=l.length
theorem CoI.keep {w:World} {l:List En} {s:Nat} {W W':World} (h:CoI w l s W) (k:Keep [w.heap.size+1,w.heap.size+1+1] W W'):CoI w l s W':=by
 obtain ⟨v,h1,h2⟩:=h.bx
 refine ⟨(Keep.trans_fresh (S:=[]) (Kx h.be) k (fun x hx=>by simp at hx;right;omega)).ext,⟨v,k.at h1 (by simp;omega),J9 h2 k (by simp)⟩,h.le⟩
theorem Ztb (x1 x2 jb:Nat) (ev:Value) (es:List En) (p c:Int) (w:World) (h:OfB x1 x2 jb ev es p c w) (hj:jb<w.heap.size) (hl:es.length<=1000000):
 Calls Tryz.prog 119 #[.slice none 0 0,.func (.func 120) #[] (Zjt x1 x2)] w (Ztg (Zam es p c) w):=by
 have e0:=Zc w (.cells #[.slice none 0 0] 80)
 have s0:=size_alloc w (.cells #[.slice none 0 0] 80)
 have h0:=Zb w (.cells #[.slice none 0 0] 80)
 have hlen:(Zam es p c).length<=1000000:=Nat.le_trans (List.length_filter_le _ _) hl
 refine (callsIn_wide (n:=0)).1 ?_
 refine callsIn_of_wp_marks Tryz.func119 rfl trivial ?_ rfl
 simp only [Tryz.ntmps119,List.size_toArray,List.length_cons,List.length_nil,Nat.reduceAdd,Nat.reduceSub,Array.replicate_succ,Array.replicate_zero,List.push_toArray,List.append_toArray,List.nil_append,List.cons_append]
 gi_wp2
 obtain ⟨w1,hw1⟩:∃w1,w.alloc (.cells #[.slice none 0 0] 80)=w1:=⟨_,rfl⟩
 rw [hw1] at e0 s0 h0 ⊢
 clear hw1
 have hit:=Zpr x1 x2 jb ev es p c
 generalize hacc:Zam es p c=l at *
 refine U6 rfl (enters_of Tryz.func120 (by kernel_rfl) rfl) rfl hit
  (CoI w l) (fun _ _=>False)
  (fun s A B hs hk=>hs.keep (by rw [s0] at hk;exact hk)) (fun cd A B hs hk=>hs) (fun s A hs=>h.ext hj hs.be)
  (fun s A B B' x hx _ _=>hx) ⟨e0,⟨_,h0,World.ownsRow_nil _ _ _ _⟩,Nat.zero_le _⟩ ?asg ?asgk ?assign ?body ?done ?stop
 case asg=>exact fun x a W=>∃e:En,∃eb:Nat,x=e.agg/\W.heap[eb]? =some (.cells e.cells.toArray 84 (0,0))/\w1.heap.size+2<=eb/\a={ tmps:=#[.slice none 0 0,.func (.func 120) #[] (Zjt x1 x2),.pointer (some ⟨w.heap.size,0,none⟩),undef,.slice none 0 0,.pointer (some ⟨eb,0,none⟩),.func (.func 120) #[] (Zjt x1 x2),x,undef,undef,undef,undef,undef],defers:=[] }
 case asgk=>
  rintro x a W W' ⟨y,eb,h1,h2,h3,h4⟩ hk
  exact ⟨y,eb,h1,hk.at h2 (by simp;omega),h3,h4⟩
 case assign=>
  rintro lp s A x W K ⟨y,_,rfl⟩ hsz hK
  have ea:=Zc W (.cells y.cells.toArray 84)
  have ha:=Zb W (.cells y.cells.toArray 84)
  have hKa:=hK _ _ ea ⟨y,W.heap.size,rfl,ha,by omega,rfl⟩
  unfold En.cells at hKa
  unfold En.agg at hKa ⊢
  clear hK ea ha
  refine Vc (by kernel_rfl) (by rintro ⟨_,_,hh⟩;exact hh) ?_
  go_wp2
  exact hKa
 case body=>
  rintro s A W x aX hIA hk ⟨y,hy,rfl⟩ hsz ⟨y',eb,hxy',heb,hle,rfl⟩
  have hyy:y'=y:=by
   cases y
   cases y'
   simp [En.agg] at hxy'
   simp [hxy']
  subst hyy
  have hI:=hIA.keep (by rw [s0] at hk;exact hk)
  obtain ⟨v,hbx,hown⟩:=hI.bx
  have hbe:=hI.be
  have hs:s<l.length:=(List.getElem?_eq_some_iff.1 hy).1
  have htk:Yf (l.take (s+1))=Yf (l.take s)++y'.cells:=by
   rw [List.take_succ_eq_append_getElem hs,Zhs]
   have:=List.getElem?_eq_getElem hs
   rw [hy] at this
   injection this with this
   rw [<-this]
   simp [Yf]
  have HTK:=Lib.hid htk
  obtain ⟨i0,hi,hz0,hz1,hz2⟩:=info_parts Znu
  obtain ⟨no,st,kd,pa,cu,n,sm⟩:=y'
  simp only [En.cells,En.agg] at *
  have hld:=run_loadVar_row (P:=Tryz.prog) W eb _ 84 _ _ _ heb Tryz.underlying84 rfl (by kernel_rfl)
  obtain ⟨A0,cap0,rfl⟩:=Ye hown
  have c0:W.cell? ⟨w.heap.size,0,none⟩=_:=Za (j:=0) hbx rfl
  have hWs:=hbe.size
  have hltb:=Ze hbx
  have hbw:w.heap.size+3<=W.heap.size:=by have:=hk.size;omega
  clear hxy' htk hIA hk hy hI hit h
  refine wpIn_block ?_
  refine Vc (by kernel_rfl) (by rintro ⟨_,_,hh⟩;exact hh) ?_
  go_wp2_with (first
   | (refine Zf rfl 84 _ _ _ rfl rfl hld ?_)
   | (at_builtin;refine wpList_append_own_at _ rfl _ _ 80 rfl (w.heap.size+3) 84 i0 (.agg #[.int .i64 0,.int .i64 0,.int .u8 0,.int .u8 0,.int .u8 0,.int .i64 0,.int .i64 0]) 7 40 Tryz.underlying80 hi hz0 hz1 hz2 rfl (by decide) (.slice A0 s cap0) s _ rfl (hown.alloc _) ⟨W.heap.size,0,none⟩ 1 1 [.int .i64 no,.int .i64 st,.int .u8 kd,.int .u8 pa,.int .u8 cu,.int .i64 n,.int .i64 sm] rfl rfl (Zfk W [.int .i64 no,.int .i64 st,.int .u8 kd,.int .u8 pa,.int .u8 cu,.int .i64 n,.int .i64 sm] _) (fun x hx=>by simp only [List.mem_cons,List.not_mem_nil,or_false] at hx;rcases hx with rfl | rfl | rfl | rfl | rfl | rfl | rfl<;>rfl) (by unfold maxLen;omega) (by omega) (by simp;omega) ?_
      intro v' w3 hown' hgrow3 hnil3 hwh3
      obtain ⟨g3,cap3,rfl⟩:=ownsRow_succ hown'
      have e2:=Zc W (.cells #[.int .i64 no,.int .i64 st,.int .u8 kd,.int .u8 pa,.int .u8 cu,.int .i64 n,.int .i64 sm] 84)
      have hbx3:=(hgrow3.block _ (Ze (e2.at hbx)) (fun e=>by have:=(hown.lt _ e.symm).1;omega)).trans (e2.at hbx)
      have c3:w3.cell? ⟨w.heap.size,0,none⟩=_:=Za (j:=0) hbx3 rfl
      have f3:=frozen_of_row _ _ 0 _ _ hbx3))
  have kb:Keep [w.heap.size] w3 (w3.setCell ⟨w.heap.size,0,none⟩ (.slice (some ⟨g3,0,none⟩) (s+1) cap3)):=(Keep.refl _ _).setCell (Or.inl (by simp)) _
  have hlow:∀q,(Value.slice A0 s cap0).ownBlock=some q->w.heap.size+3<=q:=fun q hq=>(hown.lt q hq).1
  have hW2:W.heap.size<=(W.alloc (.cells #[.int .i64 no,.int .i64 st,.int .u8 kd,.int .u8 pa,.int .u8 cu,.int .i64 n,.int .i64 sm] 84)).heap.size:=e2.size
  have hD:∀D,D<W.heap.size->D<w.heap.size+3->D≠w.heap.size->(w3.setCell ⟨w.heap.size,0,none⟩ (.slice (some ⟨g3,0,none⟩) (s+1) cap3)).heap[D]? =W.heap[D]? :=fun D h1 h2 h3=>
   (kb.block D (by have:=hgrow3.size;omega) (by simpa using h3)).trans ((hgrow3.block D (by omega) (fun e=>by have:=hlow _ e.symm;omega)).trans (e2.block h1))
  have kk:Keep [] w (w3.setCell ⟨w.heap.size,0,none⟩ (.slice (some ⟨g3,0,none⟩) (s+1) cap3)):=(Uu (S:=[]) (Kx (Xt hbe e2)) hgrow3 (fun q hq=>.inr (by have:=hlow q hq;omega))).setCell (Or.inr (Nat.le_refl _)) _
  have hg3:w.heap.size+3<=g3:=(hown'.lt g3 rfl).1
  refine ⟨⟨hD _ (by omega) (by omega) (by omega),hD _ (by omega) (by omega) (by omega)⟩,s+1,⟨kk.ext,⟨_,heap_setCell_same _ _ 0 _ _ _ hbx3,?_⟩,hs⟩,rfl⟩
  rw [HTK.out]
  exact J9 hown' kb (by simp)
 case done=>
  intro s W hend hI hD
  obtain ⟨v,h1,h2⟩:=hI.bx
  have hbe:=hI.be
  subst hend
  rw [List.take_length] at h2
  have c0:W.cell? ⟨w.heap.size,0,none⟩=_:=Za (j:=0) h1 rfl
  obtain ⟨A0,cap0,rfl⟩:=Ye h2
  clear hI h1 hit
  gi_wp2
  have kf:Keep [w1.heap.size] W (W.putObj w1.heap.size (.deferred none)):=Yg _ (by simp)
  refine ⟨by simp,.inl ⟨_,_,rfl,run_takeDeferred hD,?_⟩⟩
  refine ⟨_,Zow _ _,_,rfl,(Keep.trans_fresh (S:=[]) (Kx hbe) kf (fun x hx=>by simp at hx;right;omega)).ext,?_⟩
  have h3:=J9 h2 kf (by simp;omega)
  refine ⟨h3.1,?_⟩
  rcases h3.2 with h4 | ⟨g,cap,cur,hv,hb,rest⟩
  ·exact .inl h4
  exact .inr ⟨g,cap,cur,hv,by omega,rest⟩
 case stop=>
  rintro cd W hF hD
  exact hF.elim
theorem Zql (x1 x2 jb:Nat) (ev:Value) (es:List En) (p c:Int) (w:World) (h:OfB x1 x2 jb ev es p c w) (hj:jb<w.heap.size) (hl:es.length<=1000000):
 Calls Tryz.prog 71 #[.func (.func 120) #[] (Zjt x1 x2)] w (Ztg (Zam es p c) w):=by
 have ha:=Ztb x1 x2 jb ev es p c w h hj hl
 go_enter Tryz.func71,Tryz.ntmps71
 go_wp2_with fail
 refine ha.mono ?_
 rintro e w1 ⟨v,rfl,e1,hown⟩
 obtain ⟨A0,cap0,rfl⟩:=Ye hown
 go_wp2
 go_ret
 exact ⟨_,rfl,e1,hown⟩
end Go.Proofs.YtipjchbdogmccaaGreat
