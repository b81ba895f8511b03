/- The walk of Route. Flows: ways, an iterator over the shortest ways of a graph that its rounds turn. Routes in plain Lean: what a part of a round has pushed; what a round comes to. -/
import Derived.Test.YtipjchbdogmccaaGreatHop3
import Derived.Test.YtipjchbdogmccaaGreatGen
import Derived.Shelf.Abstract
import Derived.Shelf.RegionOpen
set_option maxHeartbeats 3200000
set_option maxRecDepth 100000
namespace Go.Proofs.YtipjchbdogmccaaGreat
open Go.RowKit Go.Rg Go.BigFrame
attribute [local go_sem] Oper.semAt_some
structure Boxes (w:World) (B p:Nat) (a t:Int):Prop where
 b0:w.heap[B]? =some (.cells #[.pointer (some ⟨p,0,none⟩)] 282 (0,0))
 b1:w.heap[B+1]? =some (.cells #[.int .u8 a] 24 (0,0))
 b2:w.heap[B+2]? =some (.cells #[.int .u8 t] 24 (0,0))
theorem Boxes.keep {S:List Nat} {w w':World} {B p:Nat} {a t:Int} (h:Boxes w B p a t) (k:Keep S w w') (h0:B∉S) (h1:B+1∉S) (h2:B+2∉S):Boxes w' B p a t:=⟨k.at h.b0 h0,k.at h.b1 h1,k.at h.b2 h2⟩
theorem Boxes.ext {w w':World} {B p:Nat} {a t:Int} (h:Boxes w B p a t) (k:Ext w w'):Boxes w' B p a t:=⟨k.at h.b0,k.at h.b1,k.at h.b2⟩
def Zr7 (w:World) (p:Nat):List Int:=match w.heap[p]? with
 | some (.cells a _ _)=>(a.toList.take 289).map intOf
 | _=>[]
theorem IsG.caps {w:World} {p:Nat} {c:List Int} (h:IsG w p c):Zr7 w p=c:=by
 unfold Zr7
 rw [h.row]
 unfold Uh
 have hl:=h.len
 simp only [List.take_append_of_le_length (show 289<=(c.map (Value.int IntKind.i64)).length by simp [hl]),List.take_of_length_le (show (c.map (Value.int IntKind.i64)).length<=289 by simp [hl]),List.map_map]
 have:(intOf∘Value.int IntKind.i64)=id:=by funext x;rfl
 rw [this,List.map_id]
def wBoxes (B:Nat):Array Value:=#[.pointer (some ⟨B,0,none⟩),.pointer (some ⟨B+1,0,none⟩),.pointer (some ⟨B+2,0,none⟩)]
theorem ways_any (p:Nat) (a t:Int) (w:World):Calls Tryz.prog 217 #[.pointer (some ⟨p,0,none⟩),.int .u8 a,.int .u8 t] w
 (fun e w'=>e= .returned (.func (.func 256) #[] (wBoxes w.heap.size))/\Ext w w'/\Boxes w' w.heap.size p a t/\w'.heap.size=w.heap.size+3):=by
 go_enter Tryz.func217,Tryz.ntmps217
 go_wp2
 go_ret
 have e0:=Zc w (.cells #[.pointer (some ⟨p,0,none⟩)] 282)
 have s0:=size_alloc w (.cells #[.pointer (some ⟨p,0,none⟩)] 282)
 have h0:=Zb w (.cells #[.pointer (some ⟨p,0,none⟩)] 282)
 generalize w.alloc (.cells #[.pointer (some ⟨p,0,none⟩)] 282)=w1 at *
 have e1:=Zc w1 (.cells #[.int .u8 a] 24)
 have s1:=size_alloc w1 (.cells #[.int .u8 a] 24)
 have h1:=Zb w1 (.cells #[.int .u8 a] 24)
 generalize w1.alloc (.cells #[.int .u8 a] 24)=w2 at *
 have e2:=Zc w2 (.cells #[.int .u8 t] 24)
 have s2:=size_alloc w2 (.cells #[.int .u8 t] 24)
 have h2:=Zb w2 (.cells #[.int .u8 t] 24)
 rw [s1,s0] at h2
 rw [s0] at h1
 exact ⟨rfl,Xt e0 (Xt e1 e2),⟨e2.at (e1.at h0),e2.at h1,h2⟩,by omega⟩
theorem ways_iter {σ:Type} (cf:σ->List Int) (p B:Nat) (a t:Int):
 IterSt Tryz.prog 256 (wBoxes B) (fun (s:σ) W=>IsG W p (cf s)/\Boxes W B p a t)
  (fun s A B x=>Zq (cf s) a t≠[]/\Zn B A.heap.size 1 x (Zq (cf s) a t).length ((Zq (cf s) a t).map (.int .u8)))
  (fun s s'=>Zd9 (cf s') t.toNat<Zd9 (cf s) t.toNat) (fun s=>Zq (cf s) a t=[]):=by
 intro l J Jx s0 W hE hBs hR h0
 refine (callsIn_wide (n:=0)).1 ?_
 show CallsIn Fence.wide 0 Tryz.prog 256 #[.func (.yield l) #[] #[],.pointer (some ⟨B,0,none⟩),.pointer (some ⟨B+1,0,none⟩),.pointer (some ⟨B+2,0,none⟩)] W _
 refine callsIn_of_wp Tryz.func256 rfl trivial ?_ rfl
 simp only [Tryz.ntmps256,List.size_toArray,List.length_cons,List.length_nil,Nat.reduceAdd,Nat.reduceSub,Array.replicate_succ,Array.replicate_zero,List.push_toArray,List.append_toArray,List.nil_append,List.cons_append]
 gi_wp2
 gi_loopw [5] (fun _ wr=>∃s,J s wr) (fun _ wr=>Zd9 (Zr7 wr p) t.toNat)
 case atStart=>exact ⟨s0,h0⟩
 obtain ⟨s,hJ⟩:=hrel
 obtain ⟨hG,hBx⟩:=hBs s wr hJ
 have c0:=Za (j:=0) hBx.b0 rfl
 have c1:=Za (j:=0) hBx.b1 rfl
 have c2:=Za (j:=0) hBx.b2 rfl
 have hsh:=short_any p (cf s) a t
 gi_wp2
 refine ⟨trivial,rfl,CallsIn.mono (callsIn_wide.2 (hsh wr hG)) ?_⟩
 rintro e w2 ⟨v,rfl,e2,hsl⟩
 by_cases hne:Zq (cf s) a t=[]
 ·obtain ⟨A,cap,rfl,hrest⟩:=hsl
  rw [hne]
  have hl0:((([]:List Int).length:Nat):Int)=0:=rfl
  gi_wp2
  refine ⟨fun _ _=>trivial,?_⟩
  gi_wp2
  refine bodyPost_ret (results_none rfl _ _ _) rfl ?_
  exact ⟨⟨_,rfl⟩,.inl ⟨s,hE s _ _ hJ e2,hne⟩⟩
 have hr:=hR s wr w2 v hJ e2 ⟨hne,hsl⟩
 obtain ⟨A,cap,rfl,hrest⟩:=hsl
 obtain ⟨fn,tmps,assign,body,hy,hRd⟩:=hr
 obtain ⟨n,hn⟩:∃n,n=(Zq (cf s) a t).length:=⟨_,rfl⟩
 rw [<-hn] at hy ⊢
 have hn1:((n:Int)==0)=false:=by
  rw [beq_eq_false_iff_ne]
  intro h0
  exact hne (List.eq_nil_of_length_eq_zero (by omega))
 clear hn hrest
 gi_wp2
 refine ⟨rfl,RoundIn.mono hRd ?_⟩
 rintro e W3 (⟨rfl,s',hJ',hrel⟩ | ⟨rfl,hJx⟩)
 ·have hc3:=(hBs s' W3 hJ').1.caps
  have hc0:=hG.caps
  gi_wp2
  go_roundw
  case rel=>exact ⟨s',hJ'⟩
  case measure=>rw [hc3,hc0];exact hrel
 gi_wp2
 refine bodyPost_ret (results_none rfl _ _ _) rfl ?_
 exact ⟨⟨_,rfl⟩,.inr hJx⟩
theorem Zi1 (n:Int):∀(l:List Int) (c:List Int) (k:Nat) (hk:k+1<l.length),Xg (l.take (k+2)) c n=(Vn (Xg (l.take (k+1)) c n) (l[k]'(by omega)) (l[k+1]'hk) n).2
 | [],_,_,hk=>by simp at hk
 | [_],_,_,hk=>by simp at hk
 | a::b::r,c,0,_=>by simp [Xg]
 | a::b::r,c,k+1,hk=>by
   have ih:=Zi1 n (b::r) (Vn c a b n).2 k (by simpa using hk)
   have e1:Xg ((a::b::r).take (k+1+2)) c n=Xg ((b::r).take (k+2)) (Vn c a b n).2 n:=by simp [Xg]
   have e2:Xg ((a::b::r).take (k+1+1)) c n=Xg ((b::r).take (k+1)) (Vn c a b n).2 n:=by simp [Xg]
   rw [e1,e2,ih]
   simp
theorem Ze8 (n:Int):∀(l:List Int) (k:Nat) (hk:k+1<l.length),Yb (l.take (k+2)) n=Yb (l.take (k+1)) n++[(l[k]'(by omega),l[k+1]'hk,n)]
 | [],_,hk=>by simp at hk
 | [_],_,hk=>by simp at hk
 | a::b::r,0,_=>by simp [Yb]
 | a::b::r,k+1,hk=>by
   have ih:=Ze8 n (b::r) k (by simpa using hk)
   have e1:Yb ((a::b::r).take (k+1+2)) n=(a,b,n)::Yb ((b::r).take (k+2)) n:=by simp [Yb]
   have e2:Yb ((a::b::r).take (k+1+1)) n=(a,b,n)::Yb ((b::r).take (k+1)) n:=by simp [Yb]
   rw [e1,e2,ih]
   simp
theorem Um.ne {c d:List Int}:∀(l:List Int) (k:Nat) (hk:k+1<l.length),Um c d l->l[k]'(by omega)≠l[k+1]'hk
 | [],_,hk,_=>by simp at hk
 | [_],_,hk,_=>by simp at hk
 | a::b::r,0,_,h=>by
   unfold Um at h
   obtain ⟨⟨x,y,rfl,rfl,_,_,_,hd⟩,_⟩:=h
   simp only [List.getElem_cons_zero,List.getElem_cons_succ,ne_eq]
   intro e
   have:x=y:=by omega
   subst this
   omega
 | a::b::r,k+1,hk,h=>by
   unfold Um at h
   have:=Um.ne (b::r) k (by simpa using hk) h.2
   simpa using this
def Yq (l:Flows):List Value:=l.flatMap fun x=>[.int .u8 x.1,.int .u8 x.2.1,.int .i64 x.2.2]
theorem Zjs (l:Flows) (x:Int×Int×Int):Yq (l++[x])=Yq l++[.int .u8 x.1,.int .u8 x.2.1,.int .i64 x.2.2]:=by simp [Yq]
structure RS where
 c:List Int
 got:Int
 acc:Flows
structure RtOk (c:List Int) (a t want:Int) (s:RS):Prop where
 wf:WFG s.c
 lo:0<=s.got
 hi:s.got<want
 few:s.acc.length+16*Zd9 s.c t.toNat<=1391824
 eq:∃f,Zd9 s.c t.toNat<f/\Y9 c a t want=Xw a t want f s.c s.got s.acc
theorem RtOk.start {c:List Int} {a t want:Int} (hw:WFG c) (h:0<want):RtOk c a t want ⟨c,0,[]⟩:=by
 have:=wayM_le c t.toNat
 refine ⟨hw,Int.le_refl _,h,by simp only [List.length_nil];omega,90000,by simp only;omega,?_⟩
 unfold Y9
 rw [if_neg (by omega)]
theorem RtOk.ended {c:List Int} {a t want:Int} {s:RS} (h:RtOk c a t want s) (he:Zq s.c a t=[]):Y9 c a t want=(s.acc,s.got):=by
 obtain ⟨f,hf,e⟩:=h.eq
 obtain ⟨f,rfl⟩:∃f',f=f'+1:=⟨f-1,by omega⟩
 rw [e]
 unfold Xw
 rw [if_pos he]
theorem RtOk.met {c:List Int} {a t want:Int} {s:RS} (h:RtOk c a t want s) (hn:Zq s.c a t≠[]) (he:s.got+Z5 s.c (Zq s.c a t) (want-s.got)=want):
 Y9 c a t want=(s.acc++Yb (Zq s.c a t) (Z5 s.c (Zq s.c a t) (want-s.got)),want):=by
 obtain ⟨f,hf,e⟩:=h.eq
 obtain ⟨f,rfl⟩:∃f',f=f'+1:=⟨f-1,by omega⟩
 rw [e]
 unfold Xw
 rw [if_neg hn,if_pos he]
theorem RtOk.on {c:List Int} {a t want:Int} {s:RS} (h:RtOk c a t want s) (hn:Zq s.c a t≠[]) (he:s.got+Z5 s.c (Zq s.c a t) (want-s.got)≠want):
 RtOk c a t want ⟨Xg (Zq s.c a t) s.c (Z5 s.c (Zq s.c a t) (want-s.got)),s.got+Z5 s.c (Zq s.c a t) (want-s.got),s.acc++Yb (Zq s.c a t) (Z5 s.c (Zq s.c a t) (want-s.got))⟩/\
  Zd9 (Xg (Zq s.c a t) s.c (Z5 s.c (Zq s.c a t) (want-s.got))) t.toNat<Zd9 s.c t.toNat:=by
 have hhi:=h.hi
 obtain ⟨p1,p2,p3,p4⟩:=Jg h.wf hn (want-s.got) (by omega)
 have hm:=p4 (by omega)
 obtain ⟨f,hf,e⟩:=h.eq
 obtain ⟨f,rfl⟩:∃f',f=f'+1:=⟨f-1,by omega⟩
 have hlo:=h.lo
 have hfew:=h.few
 obtain ⟨_,_,_,_,_,_,_,_,_,hl2,hl17⟩:=Zbg hn
 refine ⟨⟨p3,by simp only;omega,by simp only;omega,?_,f,by simp only;omega,?_⟩,hm⟩
 ·simp only [List.length_append,Zc0];omega
 rw [e]
 conv=>lhs;unfold Xw
 rw [if_neg hn,if_neg he]
attribute [local go_sem] Oper.semAt_some
theorem flow_info:(Tryz.prog.info? 285).map (fun i=>(i.zero,i.size,i.bytes))=some (some (.agg #[.int .u8 0,.int .u8 0,.int .i64 0]),3,16):=by kernel_rfl
def Zpz (r:Flows×Int) (w:World) (e:Ending) (w':World):Prop:=∃v,e= .returned (.tuple #[v,.int .i64 r.2])/\Ext w w'/\Zn w' w.heap.size 3 v r.1.length (Yq r.1)
theorem Zos (w:World) (B:Nat) (v:Value) (fr:Nat×Nat) (h:w.heap[B]? =some (.cells #[v] 279 fr)):(loadVar 279 ⟨B,0,none⟩).run Tryz.prog w= .ok v w:=by
 have c:=Za (j:=0) h rfl
 unfold loadVar
 go_simp
theorem load_got (w:World) (B:Nat) (v:Value) (fr:Nat×Nat) (h:w.heap[B]? =some (.cells #[v] 2 fr)):(loadVar 2 ⟨B,0,none⟩).run Tryz.prog w= .ok v w:=by
 have c:=Za (j:=0) h rfl
 unfold loadVar
 go_simp
theorem Zdy (tmps:Array Value) (w:World) (B1 B2:Nat) (v u:Value) (h1:tmps.getD 8 undef= .pointer (some ⟨B1,0,none⟩)) (h2:tmps.getD 9 undef= .pointer (some ⟨B2,0,none⟩))
 (b1:w.heap[B1]? =some (.cells #[v] 279 (0,0))) (b2:w.heap[B2]? =some (.cells #[u] 2 (0,0))):(results Tryz.f168 tmps).run Tryz.prog w= .ok (.tuple #[v,u]) w:=by
 have hr:Tryz.f168.results=#[.cell 8 279,.cell 9 2]:=rfl
 have l1:=Zos w B1 v _ b1
 have l2:=load_got w B2 u _ b2
 simp only [Array.getD_eq_getD_getElem?] at h1 h2
 simp only [results,hr]
 simp [Sem.run_bind,Result.andThen,h1,h2,asAddr,l1,l2]
structure RI (w:World) (q B N:Nat) (a t want:Int) (c0:List Int) (s:RS) (W:World):Prop where
 ok:RtOk c0 a t want s
 g:IsG W q s.c
 bx:Boxes W B q a t
 k0:W.heap[w.heap.size]? =some (.cells #[.pointer (some ⟨q,0,none⟩)] 282 (0,0))
 k1:W.heap[w.heap.size+1]? =some (.cells #[.int .i64 want] 2 (0,0))
 k2:∃v,W.heap[w.heap.size+1+1]? =some (.cells #[v] 279 (0,0))/\W.ownsRow N 285 3 v s.acc.length (Yq s.acc)
 k3:W.heap[w.heap.size+1+1+1]? =some (.cells #[.int .i64 s.got] 2 (0,0))
 be:Ext w W
theorem Zco {S:List Nat} {w w':World} {base size n:Nat} {e:TypeId} {v:Value} {xs:List Value} (h:w.ownsRow base e size v n xs) (k:Keep S w w') (hS:∀x∈S,x<base):w'.ownsRow base e size v n xs:=by
 refine ⟨h.1,?_⟩
 rcases h.2 with h4 | ⟨b,cap,cur,rfl,hb,hh,rest⟩
 ·exact .inl h4
 exact .inr ⟨b,cap,cur,rfl,hb,k.at hh (fun hx=>by have:=hS b hx;omega),rest⟩
theorem RI.keep {w:World} {q B N D:Nat} {a t want:Int} {c0:List Int} {s:RS} {W W':World} (h:RI w q B N a t want c0 s W) (k:Keep [D,D+1] W W') (hq:q<D) (hB:B+2<D) (hN:D+2<=N) (hw:w.heap.size+3<D):RI w q B N a t want c0 s W':=by
 obtain ⟨v,h2,h3⟩:=h.k2
 exact ⟨h.ok,h.g.keep k (by simp;omega),h.bx.keep k (by simp;omega) (by simp;omega) (by simp;omega),k.at h.k0 (by simp;omega),k.at h.k1 (by simp;omega),
  ⟨v,k.at h2 (by simp;omega),Zco h3 k (by simp;omega)⟩,k.at h.k3 (by simp;omega),(Keep.trans_fresh (S:=[]) (Kx h.be) k (fun x hx=>by simp at hx;right;omega)).ext⟩
def RF (w:World) (N:Nat) (r:Flows×Int) (W:World):Prop:=
 ∃v,W.heap[w.heap.size+1+1]? =some (.cells #[v] 279 (0,0))/\W.ownsRow N 285 3 v r.1.length (Yq r.1)/\
  W.heap[w.heap.size+1+1+1]? =some (.cells #[.int .i64 r.2] 2 (0,0))/\Ext w W
theorem RF.keep {w:World} {N D:Nat} {r:Flows×Int} {W W':World} (h:RF w N r W) (k:Keep [D,D+1] W W') (hN:D+2<=N) (hw:w.heap.size+3<D):RF w N r W':=by
 obtain ⟨v,h1,h2,h3,h4⟩:=h
 exact ⟨v,k.at h1 (by simp;omega),Zco h2 k (by simp;omega),k.at h3 (by simp;omega),(Keep.trans_fresh (S:=[]) (Kx h4) k (fun x hx=>by simp at hx;right;omega)).ext⟩
structure LI (SS:List Nat) (w8:World) (q b N:Nat) (c:List Int) (n:Int) (way:List Int) (acc:Flows) (k:Nat) (wr:World):Prop where
 kp:Keep SS w8 wr
 g:IsG wr q (Xg (way.take (k+1)) c n)
 wf:WFG (Xg (way.take (k+1)) c n)
 row:∃v,wr.heap[b]? =some (.cells #[v] 279 (0,0))/\wr.ownsRow N 285 3 v (acc++Yb (way.take (k+1)) n).length (Yq (acc++Yb (way.take (k+1)) n))/\(∀r,v.ownBlock=some r->r∈SS\/w8.heap.size<=r)
theorem Zqd {c:List Int} {a t:Int} (hn:Zq c a t≠[]):∃d,Um c d (Zq c a t)/\2<=(Zq c a t).length/\(Zq c a t).length<=17:=by
 obtain ⟨_,j,_,_,_,_,_,_,h1,h2,h3⟩:=Zbg hn
 exact ⟨_,h1,h2,h3⟩
theorem LI.start {SS:List Nat} {w8:World} {q b N:Nat} {c:List Int} {n:Int} {way:List Int} {acc:Flows} {v:Value} (hl:2<=way.length) (hg:IsG w8 q c) (hw:WFG c) (hv:w8.heap[b]? =some (.cells #[v] 279 (0,0)))
 (ho:w8.ownsRow N 285 3 v acc.length (Yq acc)) (hr:∀r,v.ownBlock=some r->r∈SS):LI SS w8 q b N c n way acc 0 w8:=by
 match way,hl with
 | y::l,_=>
   have e1:Xg ((y::l).take (0+1)) c n=c:=by simp [Xg]
   have e2:Yb ((y::l).take (0+1)) n=[]:=by simp [Yb]
   refine ⟨Keep.refl _ _,by rw [e1];exact hg,by rw [e1];exact hw,v,hv,?_,fun r h=>.inl (hr r h)⟩
   rw [e2,List.append_nil]
   exact ho
theorem Ziv (w W:World) (D:Nat) (r:Flows×Int) (v v2:Value) (tmps:Array Value) (h1:tmps.getD 8 undef= .pointer (some ⟨w.heap.size+1+1,0,none⟩)) (h9:tmps.getD 9 undef= .pointer (some ⟨w.heap.size+1+1+1,0,none⟩))
 (h5:Ext w W) (h2:W.heap[w.heap.size+1+1]? =some (.cells #[v] 279 (0,0))) (h4:W.heap[w.heap.size+1+1+1]? =some (.cells #[.int .i64 r.2] 2 (0,0)))
 (hD:W.heap[D]? =some (.deferred (some []))) (hb:w.heap.size+3<D) (hs2:Zn W.drew (D+2) 3 v2 r.1.length (Yq r.1)):
 LeavesInM Fence.wide 0 Tryz.prog Tryz.f168 tmps (Zpz r w) [{ target:= .collected D,args:=#[] }] .returning
  ((W.setCell ⟨w.heap.size+1+1,0,none⟩ v2).setCell ⟨w.heap.size+1+1+1,0,none⟩ (.int .i64 r.2)).drew:=by
 have k1:Keep [w.heap.size+1+1,w.heap.size+1+1+1] W (W.setCell ⟨w.heap.size+1+1,0,none⟩ v2):=(Keep.refl _ _).setCell (Or.inl (by simp)) _
 have k2:Keep [w.heap.size+1+1,w.heap.size+1+1+1] W ((W.setCell ⟨w.heap.size+1+1,0,none⟩ v2).setCell ⟨w.heap.size+1+1+1,0,none⟩ (.int .i64 r.2)):=k1.setCell (Or.inl (by simp)) _
 have r2:=heap_setCell_same W _ 0 _ _ v2 h2
 have r3':(W.setCell ⟨w.heap.size+1+1,0,none⟩ v2).heap[w.heap.size+1+1+1]? =some (.cells #[.int .i64 r.2] 2 (0,0)):=((Keep.refl [w.heap.size+1+1] W).setCell (p:=⟨w.heap.size+1+1,0,none⟩) (Or.inl (by simp)) v2).at h4 (by simp)
 have r2':=((Keep.refl [w.heap.size+1+1+1] (W.setCell ⟨w.heap.size+1+1,0,none⟩ v2)).setCell (p:=⟨w.heap.size+1+1+1,0,none⟩) (Or.inl (by simp)) (.int .i64 r.2)).at r2 (by simp)
 have r3:=heap_setCell_same _ _ 0 _ _ (.int .i64 r.2) r3'
 have hD2:=k2.at hD (by simp;omega)
 generalize (W.setCell ⟨w.heap.size+1+1,0,none⟩ v2).setCell ⟨w.heap.size+1+1+1,0,none⟩ (.int .i64 r.2)=Wf at *
 have hDf:Wf.drew.heap[D]? =some (.deferred (some [])):=hD2
 have kf:Keep [D] Wf.drew (Wf.drew.putObj D (.deferred none)):=Xs _ (by simp)
 have ed:Ext Wf Wf.drew:=(Ext.refl Wf).drew
 have q2:=kf.at (ed.at r2') (by simp;omega)
 have q3:=kf.at (ed.at r3) (by simp;omega)
 refine ⟨by simp,.inl ⟨_,_,rfl,run_takeDeferred hDf,?_⟩⟩
 have kk:Keep [w.heap.size+1+1,w.heap.size+1+1+1,D] W (Wf.drew.putObj D (.deferred none)):=((k2.mono (fun x hx=>by simp at hx ⊢;omega)).trans (Kx ed)).trans (kf.mono (fun x hx=>by simp at hx ⊢;omega))
 have kk2:Keep [w.heap.size+1+1,w.heap.size+1+1+1,D] W.drew (Wf.drew.putObj D (.deferred none)):=⟨kk.os,kk.tape,kk.output,kk.size,kk.block⟩
 have hx:Ext w (Wf.drew.putObj D (.deferred none)):=(Keep.trans_fresh (S:=[]) (Kx h5) kk (fun x hx=>by simp at hx;right;omega)).ext
 have hs3:=hs2.keep kk2 (by simp;omega)
 refine ⟨_,Zdy _ _ _ _ _ _ h1 h9 q2 q3,_,rfl,hx,?_⟩
 obtain ⟨A,cap,hv,g1,g2,g3,g4⟩:=hs3
 refine ⟨A,cap,hv,g1,g2,g3,?_⟩
 rcases g4 with g4 | ⟨g,g4,g5,g6⟩
 ·exact .inl g4
 exact .inr ⟨g,g4,by omega,g6⟩
theorem Zfy (p:Nat) (c:List Int) (a t want:Int) (w:World) (h:IsG w p c) (hwf:WFG c) (hw2:want<=9223372036854775807):
 Calls Tryz.prog 168 #[.pointer (some ⟨p,0,none⟩),.int .u8 a,.int .u8 t,.int .i64 want] w (Zpz (Y9 c a t want) w):=by
 have e0:=Zc w (.cells #[.pointer (some ⟨p,0,none⟩)] 282)
 have s0:=size_alloc w (.cells #[.pointer (some ⟨p,0,none⟩)] 282)
 have h0:=Zb w (.cells #[.pointer (some ⟨p,0,none⟩)] 282)
 generalize hW1:w.alloc (.cells #[.pointer (some ⟨p,0,none⟩)] 282)=w1 at *
 have e1:=Zc w1 (.cells #[.int .i64 want] 2)
 have s1:=size_alloc w1 (.cells #[.int .i64 want] 2)
 have h1:=Zb w1 (.cells #[.int .i64 want] 2)
 generalize hW2:w1.alloc (.cells #[.int .i64 want] 2)=w2 at *
 have e2:=Zc w2 (.cells #[.slice none 0 0] 279)
 have s2:=size_alloc w2 (.cells #[.slice none 0 0] 279)
 have h2:=Zb w2 (.cells #[.slice none 0 0] 279)
 generalize hW3:w2.alloc (.cells #[.slice none 0 0] 279)=w3 at *
 have e3:=Zc w3 (.cells #[.int .i64 0] 2)
 have s3:=size_alloc w3 (.cells #[.int .i64 0] 2)
 have h3:=Zb w3 (.cells #[.int .i64 0] 2)
 generalize hW4:w3.alloc (.cells #[.int .i64 0] 2)=w4 at *
 rw [s0] at h1
 rw [s1,s0] at h2
 rw [s2,s1,s0] at h3
 have b3:=h3
 have b2:=e3.at h2
 have b1:=e3.at (e2.at h1)
 have b0:=e3.at (e2.at (e1.at h0))
 have E4:Ext w w4:=Xt e0 (Xt e1 (Xt e2 e3))
 have s4:w4.heap.size=w.heap.size+4:=by omega
 subst hW1
 subst hW2
 subst hW3
 clear h0 h1 h2 h3 e0 e1 e2 e3 s0 s1 s2 s3
 have HW:=Lib.hid hW4
 clear hW4
 have hG4:=h.ext E4
 have c1:=Za (j:=0) b1 rfl
 have HE:=HW.out
 by_cases hw0:want<=0
 ·have hr:Y9 c a t want=([],0):=by unfold Y9;rw [if_pos hw0]
  rw [hr]
  have hw0':decide (want<=0)=true:=by simpa using hw0
  subst HE
  clear HW
  refine (callsIn_wide (n:=0)).1 ?_
  refine callsIn_of_wp_marks Tryz.func168 rfl trivial ?_ rfl
  simp only [Tryz.ntmps168,List.size_toArray,List.length_cons,List.length_nil,Nat.reduceAdd,Nat.reduceSub,Array.replicate_succ,Array.replicate_zero,List.push_toArray,List.append_toArray,List.nil_append,List.cons_append]
  gi_wp2
  exact ⟨_,Zdy _ _ _ _ _ _ rfl rfl b2 b3,_,rfl,E4,Zn.nil _ _ _⟩
 ·have hw0':decide (want<=0)=false:=by simpa using hw0
  have hcp:=gcopy_any p c w4 hG4
  subst HE
  clear HW
  refine (callsIn_wide (n:=0)).1 ?_
  refine callsIn_of_wp_marks Tryz.func168 rfl trivial ?_ rfl
  simp only [Tryz.ntmps168,List.size_toArray,List.length_cons,List.length_nil,Nat.reduceAdd,Nat.reduceSub,Array.replicate_succ,Array.replicate_zero,List.push_toArray,List.append_toArray,List.nil_append,List.cons_append]
  gi_wp2
  refine ⟨trivial,rfl,CallsIn.mono (callsIn_wide.2 hcp) ?_⟩
  rintro e w5 ⟨q,rfl,e5,hG5,hq5⟩
  have g0:=e5.at b0
  have c0:=Za (j:=0) g0 rfl
  have f0:=frozen_of_row _ _ 0 _ _ g0
  have g06:=heap_setCell_same _ _ 0 _ _ (.pointer (some ⟨q,0,none⟩)) g0
  have c06:=Za (j:=0) g06 rfl
  have k56:Keep [w.heap.size] w5 (w5.setCell ⟨w.heap.size,0,none⟩ (.pointer (some ⟨q,0,none⟩))):=(Keep.refl _ _).setCell (Or.inl (by simp)) _
  have hG6:=hG5.keep k56 (by simp;omega)
  have b16:=k56.at (e5.at b1) (by simp)
  have b26:=k56.at (e5.at b2) (by simp;omega)
  have b36:=k56.at (e5.at b3) (by simp;omega)
  have E5:Ext w w5:=Xt E4 e5
  have E6:Ext w (w5.setCell ⟨w.heap.size,0,none⟩ (.pointer (some ⟨q,0,none⟩))):=(Keep.trans_fresh (S:=[]) (Kx E5) k56 (fun x hx=>by simp at hx;right;omega)).ext
  gi_wp2
  refine ⟨trivial,rfl,CallsIn.mono (callsIn_wide.2 (ways_any q a t _)) ?_⟩
  rintro e w7 ⟨rfl,e7,hbx,s7⟩
  have hG7:=hG6.ext e7
  have E7:Ext w w7:=Xt E6 e7
  have b07:=e7.at g06
  have b17:=e7.at b16
  have b27:=e7.at b26
  have b37:=e7.at b36
  clear g0 c0 f0 c06 k56 hG6 b16 b26 b36 E5
  gi_wp2
  have hB7:(w5.setCell ⟨w.heap.size,0,none⟩ (.pointer (some ⟨q,0,none⟩))).heap.size=w5.heap.size:=by simp [World.setCell]
  rw [hB7] at s7 hbx
  have hq7:q<w7.heap.size:=hG7.ltp
  have hq5:q<w5.heap.size:=hG5.ltp
  have hw5:w.heap.size+4<=w5.heap.size:=by have:=e5.size;omega
  refine Zer (a₁:= ?a1) rfl (enters_of Tryz.func256 (by kernel_rfl) rfl) rfl (ways_iter (σ:=RS) (fun s=>s.c) q w5.heap.size a t)
   (RI w q w5.heap.size (w7.heap.size+2) a t want c) (fun cd W=>cd= .exit 0/\RF w (w7.heap.size+2) (Y9 c a t want) W) ⟨c,0,[]⟩
   (fun s A B hs hk=>hs.keep hk hq7 (by omega) (Nat.le_refl _) (by omega)) (fun cd A B hs hk=>⟨hs.1,hs.2.keep hk (Nat.le_refl _) (by omega)⟩) (fun s A hs=>⟨hs.g,hs.bx⟩)
   (fun s A B B' x hx hsz hk=>⟨hx.1,hx.2.keep hk (by simp;omega)⟩)
   ⟨RtOk.start hwf (by omega),hG7,hbx,b07,b17,⟨_,b27,World.ownsRow_nil _ _ _ _⟩,b37,E7⟩ ?assign ?body ?done ?stop
  case assign=>
   intro l x W K hK
   gi_wp2
   exact hK
  case body=>
   intro s A W x hIA hk hgiv hsz
   obtain ⟨hne,hsl⟩:=hgiv
   have hI:=hIA.keep hk hq7 (by omega) (Nat.le_refl _) (by omega)
   have hle:=Zri A.heap.size q s.c (Zq s.c a t) x (want-s.got) W hI.g hsl
   have u0:=Za (j:=0) hI.k0 rfl
   have u1:=Za (j:=0) hI.k1 rfl
   have u3:=Za (j:=0) hI.k3 rfl
   have hlo:=hI.ok.lo
   have hhi:=hI.ok.hi
   have hdd:want-s.got<=9223372036854775807:=by omega
   gi_wp2
   refine ⟨trivial,rfl,CallsIn.mono (callsIn_wide.2 hle) ?_⟩
   rintro e w8 ⟨rfl,e8⟩
   obtain ⟨p1,p2,p3,_⟩:=Jg hI.ok.wf hne (want-s.got) (by omega)
   obtain ⟨_,hadm,hl2,hl17⟩:=Zqd hne
   have hmet:=hI.ok.met hne
   have hon:=hI.ok.on hne
   have hfew:=hI.ok.few
   have hwm:1<=Zd9 s.c t.toNat\/s.got+Z5 s.c (Zq s.c a t) (want-s.got)=want:=by
    by_cases hh:s.got+Z5 s.c (Zq s.c a t) (want-s.got)=want
    ·exact .inr hh
    exact .inl (by have:=(hon hh).2;omega)
   obtain ⟨Ao,cap,rfl,hget⟩:=hsl.get
   obtain ⟨v0,hv0,hown0⟩:=hI.k2
   obtain ⟨vA,hvA,hownA⟩:=hIA.k2
   have hvv:vA=v0:=by
    have h1:=hk.at hvA (by simp;omega)
    rw [hv0] at h1
    simpa using h1.symm
   subst hvv
   have hr0:∀r,vA.ownBlock=some r->w7.heap.size+2<=r/\r<A.heap.size:=fun r hr=>hownA.lt r hr
   have hgt:=hget
   generalize Z5 s.c (Zq s.c a t) (want-s.got)=n at *
   generalize Zq s.c a t=way at *
   have hn63:(way.length:Int)<=17:=by omega
   have hn2:2<=(way.length:Int):=by omega
   obtain ⟨SS,hSS⟩:∃SS:List Nat,SS=q::(w.heap.size+1+1)::vA.ownBlock.toList:=⟨_,rfl⟩
   have hwA:w7.heap.size+2<=A.heap.size:=hsz
   have hSm:∀x,x∈SS->x=q\/x=w.heap.size+1+1\/(w7.heap.size+2<=x/\x<A.heap.size):=by
    intro x hx
    rw [hSS] at hx
    simp only [List.mem_cons,Option.mem_toList] at hx
    rcases hx with rfl | rfl | hx
    ·exact .inl rfl
    ·exact .inr (.inl rfl)
    exact .inr (.inr (hr0 x hx))
   have hL0:LI SS w8 q (w.heap.size+1+1) (w7.heap.size+2) s.c n way s.acc 0 w8:=LI.start hl2 (hI.g.ext e8) hI.ok.wf (e8.at hv0) (Zo hown0 e8) (fun r hr=>by rw [hSS];simp [hr])
   gi_wp2
   gi_loopw [31] (fun i wr=>∃k:Nat,k+1<=way.length/\i= .int .i64 k/\LI SS w8 q (w.heap.size+1+1) (w7.heap.size+2) s.c n way s.acc k wr) (fun i _=>way.length-(intOf i).toNat)
   case atStart=>exact ⟨0,by omega,rfl,hL0⟩
   obtain ⟨k,hk1,rfl,hL⟩:=hrel
   by_cases hkn:k+1<way.length
   ·obtain ⟨g,rfl,hbg,hltg,y0,hy0,hcy0⟩:=hget k (by omega)
    obtain ⟨g',hg',_,_,y1,hy1,hcy1⟩:=hget (k+1) hkn
    simp only [Option.some.injEq,Addr.mk.injEq,and_true] at hg'
    subst hg'
    rw [List.getElem?_map,List.getElem?_eq_getElem (by omega)] at hy0 hy1
    simp only [Option.map_some,Option.some.injEq] at hy0 hy1
    subst hy0 hy1
    have hpt:=Zi1 n way s.c k hkn
    have hft:=Ze8 n way k hkn
    have hne01:=Um.ne way k hkn hadm
    generalize way[k]'(by omega)=x0 at *
    generalize way[k+1]'hkn=x1 at *
    have hgS:g∉SS:=fun hx=>by rcases hSm g hx with rfl | rfl | hh<;>omega
    have hbS:w.heap.size∉SS:=fun hx=>by rcases hSm _ hx with hh | hh | hh<;>omega
    have hltg8:g<w8.heap.size:=Nat.lt_of_lt_of_le hltg e8.size
    have d0:wr.cell? ⟨g,k,none⟩=some (.int .u8 x0):=(Zf (a:=⟨g,k,none⟩) ((hL.kp.block g hltg8 hgS).trans (e8.block hltg))).trans hcy0
    have d1:wr.cell? ⟨g,k+1,none⟩=some (.int .u8 x1):=(Zf (a:=⟨g,k+1,none⟩) ((hL.kp.block g hltg8 hgS).trans (e8.block hltg))).trans hcy1
    have m0:=hL.kp.at (e8.at hI.k0) hbS
    have d2:=Za (j:=0) m0 rfl
    have hltr:g<wr.heap.size:=Nat.lt_of_lt_of_le hltg8 hL.kp.size
    clear hget hgt hcy0 hcy1 u0 u1 u3
    gi_wp2
    have hpush:=gpush_any q (Xg (way.take (k+1)) s.c n) x0 x1 n
    have hrG:=hL.g
    have hrW:=hL.wf
    obtain ⟨vr,hvr,hownr,hblr⟩:=hL.row
    have hkpL:=hL.kp
    clear hL
    refine Uo (by kernel_rfl) (by kernel_rfl) (by rintro ⟨_,_,hh⟩;exact hh) (Ui Zl 11 [] (by kernel_rfl) ?_)
    intro w1 hw1
    have d0q:∀u:ExtOf w1,u.to.cell? ⟨g,k,none⟩=some (.int .u8 x0):=fun u=>(Zf ((Xt hw1 u.h).block hltr)).trans d0
    have d1q:∀u:ExtOf w1,u.to.cell? ⟨g,k+1,none⟩=some (.int .u8 x1):=fun u=>(Zf ((Xt hw1 u.h).block hltr)).trans d1
    have d2q:∀u:ExtOf w1,u.to.cell? ⟨w.heap.size,0,none⟩=some (.pointer (some ⟨q,0,none⟩)):=fun u=>(Zf ((Xt hw1 u.h).block (Zg m0))).trans d2
    have hk63:(k:Int)+1<=17:=by omega
    simp only [Zk,Rg.hsB,Nat.reduceAdd,↓reduceIte]
    repeat (go_big_quiet_step ((fail)))
    refine wpQuiet_nil ?_
    refine Zj (by kernel_rfl) ?_
    intro w9 e9 e9'
    simp only [Rg.puB]
    go_wp2_with fail
    refine (hpush w9 (hrG.ext e9) hrW).mono ?_
    rintro e w10 ⟨rfl,k10,hG10⟩
    have hqS:q∈SS:=by rw [hSS];simp
    have hb2S:w.heap.size+1+1∈SS:=by rw [hSS];simp
    have hgq:g≠q:=fun e=>hgS (e▸hqS)
    have hq9:q<w7.heap.size:=hq7
    have hsub:∀x∈[q],x∈SS:=by
     intro x hx
     have:x=q:=by simpa using hx
     rw [this];exact hqS
    have k8:Keep SS w8 w10:=(hkpL.trans (Kx e9)).trans (k10.mono hsub)
    have hv10:=k10.at (e9.at hvr) (by simp;omega)
    have ho10:=Zco (Zo hownr e9) k10 (by simp;omega)
    have blk9:=k10.block g (Nat.lt_of_lt_of_le hltr e9.size) (by simpa using hgq)
    have d0:w10.cell? ⟨g,k,none⟩=some (.int .u8 x0):=(Zf (a:=⟨g,k,none⟩) (blk9.trans (e9.block hltr))).trans d0
    have d1:w10.cell? ⟨g,k+1,none⟩=some (.int .u8 x1):=(Zf (a:=⟨g,k+1,none⟩) (blk9.trans (e9.block hltr))).trans d1
    have hltr10:g<w10.heap.size:=by have:=e9.size;have:=k10.size;omega
    have d2:=Za (j:=0) hv10 rfl
    clear m0 d0q d1q d2q hpush hvr hownr
    go_wp2
    gi_wp2
    refine Uo (by kernel_rfl) (by kernel_rfl) (by rintro ⟨_,_,hh⟩;exact hh) (Ui Zl 13 [12] (by kernel_rfl) ?_)
    intro w1 hw1
    have d0q:∀u:ExtOf w1,u.to.cell? ⟨g,k,none⟩=some (.int .u8 x0):=fun u=>(Zf ((Xt hw1 u.h).block hltr10)).trans d0
    have d1q:∀u:ExtOf w1,u.to.cell? ⟨g,k+1,none⟩=some (.int .u8 x1):=fun u=>(Zf ((Xt hw1 u.h).block hltr10)).trans d1
    have d2q:∀u:ExtOf w1,u.to.cell? ⟨w.heap.size+1+1,0,none⟩=some vr:=fun u=>(Zf ((Xt hw1 u.h).block (Zg hv10))).trans d2
    simp only [Zk,Rg.hsB,Nat.reduceBEq,Nat.reduceAdd,↓reduceIte]
    repeat (go_big_quiet_step ((fail)))
    refine wpQuiet_nil ?_
    refine Xb 12 _ (.cells #[.int .u8 x0,.int .u8 x1,.int .i64 n] 285) (fun p=>.slice (some ⟨p,0,none⟩) 1 1) (by intro w;go_simp) rfl (by kernel_rfl) (by decide) rfl ?_
    intro xb w11 h011 h11 hxb0 hxb hxbb
    refine Zj (by kernel_rfl) ?_
    intro w12 e12 e12'
    simp only [Act.put,Rg.puB]
    have hx12:w12.heap[xb]? =some (.cells #[.int .u8 x0,.int .u8 x1,.int .i64 n] 285 (0,0)):=e12'.at hxbb
    have ho12:=Zo ho10 e12
    obtain ⟨i0,hi,hz0,hz1,hz2⟩:=info_parts flow_info
    have hfl:(Yb (way.take (k+1)) n).length=k:=by rw [Zc0,List.length_take];omega
    have hlen:(s.acc++Yb (way.take (k+1)) n).length<=1391840:=by rw [List.length_append,hfl];omega
    have hnews:∀j u,[Value.int .u8 x0,.int .u8 x1,.int .i64 n][j]? =some u->w12.cell? ((⟨xb,0,none⟩:Addr).add j)=some u:=by
     intro j u hu
     have hadd:(⟨xb,0,none⟩:Addr).add j=⟨xb,j,none⟩:=by unfold Addr.add;split<;>simp_all
     rw [hadd]
     exact Za hx12 (by simpa using hu)
    have hone:∀u∈[Value.int .u8 x0,.int .u8 x1,.int .i64 n],u.oneCell'=true:=by
     intro u hu
     simp at hu
     rcases hu with rfl | rfl | rfl<;>rfl
    have hN12:w7.heap.size+2<=w12.heap.size:=by have:=e12.size;omega
    obtain ⟨v',w13,hrun,ho13,hgr,_⟩:=run_append_own (P:=Tryz.prog) w12 (w7.heap.size+2) 279 279 285 i0 _ 3 16 Tryz.underlying279 hi hz0 hz1 hz2 rfl (by decide) vr _ _ ho12 ⟨xb,0,none⟩ 1 1 _ rfl hnews hone (by unfold maxLen;omega) (by omega) hN12
    have hwhere:=Zfi (P:=Tryz.prog) w12 (w7.heap.size+2) 279 279 285 i0 _ 3 16 Tryz.underlying279 hi hz0 hz1 hz2 vr _ _ ho12 ⟨xb,0,none⟩ 1 1 _ rfl hnews hone (by unfold maxLen;omega) (by omega) v' w13 hrun
    obtain ⟨g3,cap3,hv3⟩:=ownsRow_succ ho13
    rw [List.length_append,hfl] at hv3
    have hobr:∀r,vr.ownBlock=some r->w7.heap.size+2<=r:=fun r hr=>(ho12.lt r hr).1
    have hv12:=e12.at hv10
    have hv13:=(hgr.block _ (Zg hv12) (fun e=>by have:=hobr _ e.symm;omega)).trans hv12
    have hG12:=hG10.ext e12
    have hG13:IsG w13 q _:=⟨(hgr.block _ hG12.ltp (fun e=>by have:=hobr _ e.symm;omega)).trans hG12.row,hG12.len⟩
    have f13:=Za (j:=0) hv13 rfl
    have f13':=frozen_of_row _ _ 0 _ _ hv13
    have kb:Keep [w.heap.size+1+1] w13 (w13.setCell ⟨w.heap.size+1+1,0,none⟩ v'):=(Keep.refl _ _).setCell (Or.inl (by simp)) _
    have k14:Keep SS w8 (w13.setCell ⟨w.heap.size+1+1,0,none⟩ v'):=(Y6 (k8.trans (Kx e12)) hgr hblr).setCell (Or.inl hb2S) v'
    have hL':LI SS w8 q (w.heap.size+1+1) (w7.heap.size+2) s.c n way s.acc (k+1) (w13.setCell ⟨w.heap.size+1+1,0,none⟩ v'):=by
     refine ⟨k14,by rw [hpt];exact hG13.keep kb (by simp;omega),by rw [hpt];exact gpushR_wf hrW x0 x1 n hne01,v',heap_setCell_same _ _ 0 _ _ v' hv13,?_,fun r hr=> ?_⟩
     ·rw [hft,<-List.append_assoc,List.length_append,Zjs]
      exact Zco ho13 kb (by simp;omega)
     rcases hwhere with hh | hh
     ·exact hblr r (hh▸hr)
     rw [hh] at hr
     have:w12.heap.size=r:=by simpa using hr
     have:=k8.size
     have:=e12.size
     right;omega
    subst hv3
    clear hwhere d0q d1q d2q
    go_wp2_with (refine Jd rfl _ _ 279 rfl _ _ _ w13 rfl rfl hrun ?_)
    gi_wp2
    first
     | exact ⟨⟨k+1,by omega,by go_num,hL'⟩,by simp [intOf];omega⟩
     | refine ⟨?_,by simp [intOf];omega⟩
       repeat (apply Exists.intro)
       refine ⟨?_,rfl⟩
       exact ⟨k+1,by omega,by go_num,hL'⟩
   have hkw:k+1=way.length:=by omega
   have hrG:=hL.g
   obtain ⟨vr,hvr,hownr,hblr⟩:=hL.row
   have hkp:=hL.kp
   have hrW:=hL.wf
   rw [hkw,List.take_length] at hrG hrW hownr
   clear hL
   have hb1S:w.heap.size+1∉SS:=fun hx=>by rcases hSm _ hx with hh | hh | hh<;>omega
   have hb0S:w.heap.size∉SS:=fun hx=>by rcases hSm _ hx with hh | hh | hh<;>omega
   have hb3S:w.heap.size+1+1+1∉SS:=fun hx=>by rcases hSm _ hx with hh | hh | hh<;>omega
   have hDS:w7.heap.size∉SS:=fun hx=>by rcases hSm _ hx with hh | hh | hh<;>omega
   have hDS1:w7.heap.size+1∉SS:=fun hx=>by rcases hSm _ hx with hh | hh | hh<;>omega
   have hB0:w5.heap.size∉SS:=fun hx=>by rcases hSm _ hx with hh | hh | hh<;>omega
   have hB1:w5.heap.size+1∉SS:=fun hx=>by rcases hSm _ hx with hh | hh | hh<;>omega
   have hB2:w5.heap.size+2∉SS:=fun hx=>by rcases hSm _ hx with hh | hh | hh<;>omega
   have m1:=hkp.at (e8.at hI.k1) hb1S
   have m3:=hkp.at (e8.at hI.k3) hb3S
   have c1:=Za (j:=0) m1 rfl
   have c3:=Za (j:=0) m3 rfl
   have f3:=frozen_of_row _ _ 0 _ _ m3
   have m3':=heap_setCell_same _ _ 0 _ _ (.int .i64 (s.got+n)) m3
   have c3':=Za (j:=0) m3' rfl
   have kb:Keep [w.heap.size+1+1+1] wr (wr.setCell ⟨w.heap.size+1+1+1,0,none⟩ (.int .i64 (s.got+n))):=(Keep.refl _ _).setCell (Or.inl (by simp)) _
   have hDw:w7.heap.size+1<W.heap.size:=by have:=hk.size;omega
   have hD0:(wr.setCell ⟨w.heap.size+1+1+1,0,none⟩ (.int .i64 (s.got+n))).heap[w7.heap.size]? =W.heap[w7.heap.size]? :=
    (kb.block _ (by have:=hkp.size;have:=e8.size;omega) (by simp;omega)).trans ((hkp.block _ (by have:=e8.size;omega) hDS).trans (e8.block (by omega)))
   have hD1:(wr.setCell ⟨w.heap.size+1+1+1,0,none⟩ (.int .i64 (s.got+n))).heap[w7.heap.size+1]? =W.heap[w7.heap.size+1]? :=
    (kb.block _ (by have:=hkp.size;have:=e8.size;omega) (by simp;omega)).trans ((hkp.block _ (by have:=e8.size;omega) hDS1).trans (e8.block (by omega)))
   have hbe:Ext w (wr.setCell ⟨w.heap.size+1+1+1,0,none⟩ (.int .i64 (s.got+n))):=by
    have a1:Ext w w8:=Xt hI.be e8
    have hfr:∀x∈SS,x∈([]:List Nat)\/w.heap.size<=x:=fun x hx=>by rcases hSm x hx with hh | hh | hh<;>right<;>omega
    have a2:=Keep.trans_fresh (S:=[]) (Kx a1) hkp hfr
    exact (Keep.trans_fresh (S:=[]) a2 kb (fun x hx=>by simp at hx;right;omega)).ext
   have hv2:=kb.at hvr (by simp)
   have ho2:=Zco hownr kb (by simp;omega)
   have hsum:s.got+n<=9223372036854775807:=by omega
   by_cases hmt:s.got+n=want
   ·have hr:=hmet hmt
    have hmt':(s.got+n==want)=true:=by simpa using hmt
    have hRF:RF w (w7.heap.size+2) (Y9 c a t want) (wr.setCell ⟨w.heap.size+1+1+1,0,none⟩ (.int .i64 (s.got+n))):=⟨vr,hv2,by rw [hr];exact ho2,by rw [hr];simp only;rw [<-hmt];exact m3',hbe⟩
    clear hr hmet hon hmt
    gi_wp2
    exact ⟨⟨hD0,hD1⟩,rfl,hRF⟩
   have hmt':(s.got+n==want)=false:=by simpa using hmt
   obtain ⟨hok,hms⟩:=hon hmt
   have hRI:RI w q w5.heap.size (w7.heap.size+2) a t want c ⟨Xg way s.c n,s.got+n,s.acc++Yb way n⟩ (wr.setCell ⟨w.heap.size+1+1+1,0,none⟩ (.int .i64 (s.got+n))):=
    ⟨hok,hrG.keep kb (by simp;omega),((hI.bx.ext e8).keep hkp hB0 hB1 hB2).keep kb (by simp;omega) (by simp;omega) (by simp;omega),kb.at (hkp.at (e8.at hI.k0) hb0S) (by simp;omega),kb.at m1 (by simp),⟨vr,hv2,ho2⟩,m3',hbe⟩
   clear hmet hon hmt
   gi_wp2
   exact ⟨⟨hD0,hD1⟩,_,hRI,hms⟩
  case done=>
   intro s W hend hIs hD
   have hr:=hIs.ok.ended hend
   obtain ⟨v,h2,h3⟩:=hIs.k2
   have hRF:RF w (w7.heap.size+2) (Y9 c a t want) W:=⟨v,h2,by rw [hr];exact h3,by rw [hr];exact hIs.k3,hIs.be⟩
   clear h2 h3 hIs hr
   generalize Y9 c a t want=r at *
   obtain ⟨v,h2,h3,h4,h5⟩:=hRF
   have q2:=Za (j:=0) h2 rfl
   have q3:=Za (j:=0) h4 rfl
   have p2:=frozen_of_row _ _ 0 _ _ h2
   have p3:=frozen_of_row _ _ 0 _ _ h4
   have hcl:=fun W0 (hs:Zn W0 (w7.heap.size+2) 3 v r.1.length (Yq r.1))=>Zme _ _ v _ W0 hs
   have hsv:Zn W.drew (w7.heap.size+2) 3 v r.1.length (Yq r.1):=(Zn.of_own h3).ext ((Ext.refl W).drew)
   gi_wp2
   refine wpIn_wide.2 ?_
   have hm:Tryz.prog.follows .mixedOrders=true:=by kernel_rfl
   go_region_with (go_at_call 220;refine (hcl _ hsv).mono ?_;rintro e W2 ⟨v2,rfl,rfl,hs2⟩;have hs3:=hs2;obtain ⟨A2,cap2,rfl,_⟩:=hs3)
   all_goals go_wp2
   all_goals gi_wp2
   all_goals (refine Ziv w W (w5.heap.size+3) r v _ _ ?_ ?_ h5 h2 h4 (by rw [<-s7];exact hD) (by omega) (by rw [<-s7];exact hs2)<;>rfl)
  case stop=>
   rintro cd W ⟨rfl,hRF⟩ hD
   generalize Y9 c a t want=r at *
   obtain ⟨v,h2,h3,h4,h5⟩:=hRF
   have q2:=Za (j:=0) h2 rfl
   have q3:=Za (j:=0) h4 rfl
   have p2:=frozen_of_row _ _ 0 _ _ h2
   have p3:=frozen_of_row _ _ 0 _ _ h4
   have hcl:=fun W0 (hs:Zn W0 (w7.heap.size+2) 3 v r.1.length (Yq r.1))=>Zme _ _ v _ W0 hs
   have hsv:Zn W.drew (w7.heap.size+2) 3 v r.1.length (Yq r.1):=(Zn.of_own h3).ext ((Ext.refl W).drew)
   gi_wp2
   refine wpIn_wide.2 ?_
   have hm:Tryz.prog.follows .mixedOrders=true:=by kernel_rfl
   go_region_with (go_at_call 220;refine (hcl _ hsv).mono ?_;rintro e W2 ⟨v2,rfl,rfl,hs2⟩;have hs3:=hs2;obtain ⟨A2,cap2,rfl,_⟩:=hs3)
   all_goals go_wp2
   all_goals gi_wp2
   all_goals (refine Ziv w W (w5.heap.size+3) r v _ _ ?_ ?_ h5 h2 h4 (by rw [<-s7];exact hD) (by omega) (by rw [<-s7];exact hs2)<;>rfl)
end Go.Proofs.YtipjchbdogmccaaGreat
