/- Flows: ways, an iterator over the shortest ways of a graph that its rounds turn. Routes in plain Lean: what a part of a round has pushed; what a round comes to. -/
import Derived.Test.YtipjchbdogmccaaGreatHop3
import Derived.Test.YtipjchbdogmccaaGreatGen
import Derived.Shelf.Abstract
import Derived.Shelf.RegionOpen
set_option maxHeartbeats 1600000
set_option maxRecDepth 100000
namespace Go.Proofs.YtipjchbdogmccaaGreat
open Go.RowKit Go.Rg Go.BigFrame
attribute [local go_sem] Oper.semAt_some
structure Boxes (w:World) (B p:Nat) (a t:Int):Prop where
 b0:w.heap[B]? =some (.cells #[.pointer (some ⟨p,0,none⟩)] 282 (0,0))
 b1:w.heap[B+1]? =some (.cells #[.int .u8 a] 24 (0,0))
 b2:w.heap[B+2]? =some (.cells #[.int .u8 t] 24 (0,0))
theorem Boxes.keep {S:List Nat} {w w':World} {B p:Nat} {a t:Int} (h:Boxes w B p a t) (k:Keep S w w') (h0:B∉S) (h1:B+1∉S) (h2:B+2∉S):Boxes w' B p a t:=⟨k.at h.b0 h0,k.at h.b1 h1,k.at h.b2 h2⟩
theorem Boxes.ext {w w':World} {B p:Nat} {a t:Int} (h:Boxes w B p a t) (k:Ext w w'):Boxes w' B p a t:=⟨k.at h.b0,k.at h.b1,k.at h.b2⟩
def Zq4 (w:World) (p:Nat):List Int:=match w.heap[p]? with
 | some (.cells a _ _)=>(a.toList.take 289).map intOf
 | _=>[]
theorem IsG.caps {w:World} {p:Nat} {c:List Int} (h:IsG w p c):Zq4 w p=c:=by
 unfold Zq4
 rw [h.row]
 unfold Uu
 have hl:=h.len
 simp only [List.take_append_of_le_length (show 289<=(c.map (Value.int IntKind.i64)).length by simp [hl]),List.take_of_length_le (show (c.map (Value.int IntKind.i64)).length<=289 by simp [hl]),List.map_map]
 have:(intOf∘Value.int IntKind.i64)=id:=by funext x;rfl
 rw [this,List.map_id]
def wBoxes (B:Nat):Array Value:=#[.pointer (some ⟨B,0,none⟩),.pointer (some ⟨B+1,0,none⟩),.pointer (some ⟨B+2,0,none⟩)]
theorem ways_any (p:Nat) (a t:Int) (w:World):Calls Tryz.prog 217 #[.pointer (some ⟨p,0,none⟩),.int .u8 a,.int .u8 t] w
 (fun e w'=>e= .returned (.func (.func 256) #[] (wBoxes w.heap.size))/\Ext w w'/\Boxes w' w.heap.size p a t/\w'.heap.size=w.heap.size+3):=by
 go_enter Tryz.func217,Tryz.ntmps217
 go_wp2
 go_ret
 have e0:=Zc w (.cells #[.pointer (some ⟨p,0,none⟩)] 282)
 have s0:=size_alloc w (.cells #[.pointer (some ⟨p,0,none⟩)] 282)
 have h0:=Zb w (.cells #[.pointer (some ⟨p,0,none⟩)] 282)
 generalize w.alloc (.cells #[.pointer (some ⟨p,0,none⟩)] 282)=w1 at *
 have e1:=Zc w1 (.cells #[.int .u8 a] 24)
 have s1:=size_alloc w1 (.cells #[.int .u8 a] 24)
 have h1:=Zb w1 (.cells #[.int .u8 a] 24)
 generalize w1.alloc (.cells #[.int .u8 a] 24)=w2 at *
 have e2:=Zc w2 (.cells #[.int .u8 t] 24)
 have s2:=size_alloc w2 (.cells #[.int .u8 t] 24)
 have h2:=Zb w2 (.cells #[.int .u8 t] 24)
 rw [s1,s0] at h2
 rw [s0] at h1
 exact ⟨rfl,Xt e0 (Xt e1 e2),⟨e2.at (e1.at h0),e2.at h1,h2⟩,by omega⟩
theorem ways_iter {σ:Type} (cf:σ->List Int) (p B:Nat) (a t:Int):
 IterSt Tryz.prog 256 (wBoxes B) (fun (s:σ) W=>IsG W p (cf s)/\Boxes W B p a t)
  (fun s A B x=>Zp (cf s) a t≠[]/\Zs B A.heap.size 1 x (Zp (cf s) a t).length ((Zp (cf s) a t).map (.int .u8)))
  (fun s s'=>Zd4 (cf s') t.toNat<Zd4 (cf s) t.toNat) (fun s=>Zp (cf s) a t=[]):=by
 intro l J Jx s0 W hE hBs hR h0
 refine (callsIn_wide (n:=0)).1 ?_
 show CallsIn Fence.wide 0 Tryz.prog 256 #[.func (.yield l) #[] #[],.pointer (some ⟨B,0,none⟩),.pointer (some ⟨B+1,0,none⟩),.pointer (some ⟨B+2,0,none⟩)] W _
 refine callsIn_of_wp Tryz.func256 rfl trivial ?_ rfl
 simp only [Tryz.ntmps256,List.size_toArray,List.length_cons,List.length_nil,Nat.reduceAdd,Nat.reduceSub,Array.replicate_succ,Array.replicate_zero,List.push_toArray,List.append_toArray,List.nil_append,List.cons_append]
 gi_wp2
 gi_loopw [5] (fun _ wr=>∃s,J s wr) (fun _ wr=>Zd4 (Zq4 wr p) t.toNat)
 case atStart=>exact ⟨s0,h0⟩
 obtain ⟨s,hJ⟩:=hrel
 obtain ⟨hG,hBx⟩:=hBs s wr hJ
 have c0:=Za (j:=0) hBx.b0 rfl
 have c1:=Za (j:=0) hBx.b1 rfl
 have c2:=Za (j:=0) hBx.b2 rfl
 have hsh:=short_any p (cf s) a t
 gi_wp2
 refine ⟨trivial,rfl,CallsIn.mono (callsIn_wide.2 (hsh wr hG)) ?_⟩
 rintro e w2 ⟨v,rfl,e2,hsl⟩
 by_cases hne:Zp (cf s) a t=[]
 ·obtain ⟨A,cap,rfl,hrest⟩:=hsl
  rw [hne]
  have hl0:((([]:List Int).length:Nat):Int)=0:=rfl
  gi_wp2
  refine ⟨fun _ _=>trivial,?_⟩
  gi_wp2
  refine bodyPost_ret (results_none rfl _ _ _) rfl ?_
  exact ⟨⟨_,rfl⟩,.inl ⟨s,hE s _ _ hJ e2,hne⟩⟩
 have hr:=hR s wr w2 v hJ e2 ⟨hne,hsl⟩
 obtain ⟨A,cap,rfl,hrest⟩:=hsl
 obtain ⟨fn,tmps,assign,body,hy,hRd⟩:=hr
 obtain ⟨n,hn⟩:∃n,n=(Zp (cf s) a t).length:=⟨_,rfl⟩
 rw [<-hn] at hy ⊢
 have hn1:((n:Int)==0)=false:=by
  rw [beq_eq_false_iff_ne]
  intro h0
  exact hne (List.eq_nil_of_length_eq_zero (by omega))
 clear hn hrest
 gi_wp2
 refine ⟨rfl,RoundIn.mono hRd ?_⟩
 rintro e W3 (⟨rfl,s',hJ',hrel⟩ | ⟨rfl,hJx⟩)
 ·have hc3:=(hBs s' W3 hJ').1.caps
  have hc0:=hG.caps
  gi_wp2
  go_roundw
  case rel=>exact ⟨s',hJ'⟩
  case measure=>rw [hc3,hc0];exact hrel
 gi_wp2
 refine bodyPost_ret (results_none rfl _ _ _) rfl ?_
 exact ⟨⟨_,rfl⟩,.inr hJx⟩
theorem Zil (n:Int):∀(l:List Int) (c:List Int) (k:Nat) (hk:k+1<l.length),Xi (l.take (k+2)) c n=(Vx (Xi (l.take (k+1)) c n) (l[k]'(by omega)) (l[k+1]'hk) n).2
 | [],_,_,hk=>by simp at hk
 | [_],_,_,hk=>by simp at hk
 | a::b::r,c,0,_=>by simp [Xi]
 | a::b::r,c,k+1,hk=>by
   have ih:=Zil n (b::r) (Vx c a b n).2 k (by simpa using hk)
   have e1:Xi ((a::b::r).take (k+1+2)) c n=Xi ((b::r).take (k+2)) (Vx c a b n).2 n:=by simp [Xi]
   have e2:Xi ((a::b::r).take (k+1+1)) c n=Xi ((b::r).take (k+1)) (Vx c a b n).2 n:=by simp [Xi]
   rw [e1,e2,ih]
   simp
theorem Zfb (n:Int):∀(l:List Int) (k:Nat) (hk:k+1<l.length),Ya (l.take (k+2)) n=Ya (l.take (k+1)) n++[(l[k]'(by omega),l[k+1]'hk,n)]
 | [],_,hk=>by simp at hk
 | [_],_,hk=>by simp at hk
 | a::b::r,0,_=>by simp [Ya]
 | a::b::r,k+1,hk=>by
   have ih:=Zfb n (b::r) k (by simpa using hk)
   have e1:Ya ((a::b::r).take (k+1+2)) n=(a,b,n)::Ya ((b::r).take (k+2)) n:=by simp [Ya]
   have e2:Ya ((a::b::r).take (k+1+1)) n=(a,b,n)::Ya ((b::r).take (k+1)) n:=by simp [Ya]
   rw [e1,e2,ih]
   simp
theorem U1.ne {c d:List Int}:∀(l:List Int) (k:Nat) (hk:k+1<l.length),U1 c d l->l[k]'(by omega)≠l[k+1]'hk
 | [],_,hk,_=>by simp at hk
 | [_],_,hk,_=>by simp at hk
 | a::b::r,0,_,h=>by
   unfold U1 at h
   obtain ⟨⟨x,y,rfl,rfl,_,_,_,hd⟩,_⟩:=h
   simp only [List.getElem_cons_zero,List.getElem_cons_succ,ne_eq]
   intro e
   have:x=y:=by omega
   subst this
   omega
 | a::b::r,k+1,hk,h=>by
   unfold U1 at h
   have:=U1.ne (b::r) k (by simpa using hk) h.2
   simpa using this
def Ym (l:Flows):List Value:=l.flatMap fun x=>[.int .u8 x.1,.int .u8 x.2.1,.int .i64 x.2.2]
theorem Zjf (l:Flows) (x:Int×Int×Int):Ym (l++[x])=Ym l++[.int .u8 x.1,.int .u8 x.2.1,.int .i64 x.2.2]:=by simp [Ym]
structure RS where
 c:List Int
 got:Int
 acc:Flows
structure RtOk (c:List Int) (a t want:Int) (s:RS):Prop where
 wf:WFG s.c
 lo:0<=s.got
 hi:s.got<want
 few:s.acc.length+16*Zd4 s.c t.toNat<=1391824
 eq:∃f,Zd4 s.c t.toNat<f/\Y7 c a t want=X4 a t want f s.c s.got s.acc
theorem RtOk.start {c:List Int} {a t want:Int} (hw:WFG c) (h:0<want):RtOk c a t want ⟨c,0,[]⟩:=by
 have:=wayM_le c t.toNat
 refine ⟨hw,Int.le_refl _,h,by simp only [List.length_nil];omega,90000,by simp only;omega,?_⟩
 unfold Y7
 rw [if_neg (by omega)]
theorem RtOk.ended {c:List Int} {a t want:Int} {s:RS} (h:RtOk c a t want s) (he:Zp s.c a t=[]):Y7 c a t want=(s.acc,s.got):=by
 obtain ⟨f,hf,e⟩:=h.eq
 obtain ⟨f,rfl⟩:∃f',f=f'+1:=⟨f-1,by omega⟩
 rw [e]
 unfold X4
 rw [if_pos he]
theorem RtOk.met {c:List Int} {a t want:Int} {s:RS} (h:RtOk c a t want s) (hn:Zp s.c a t≠[]) (he:s.got+Z4 s.c (Zp s.c a t) (want-s.got)=want):
 Y7 c a t want=(s.acc++Ya (Zp s.c a t) (Z4 s.c (Zp s.c a t) (want-s.got)),want):=by
 obtain ⟨f,hf,e⟩:=h.eq
 obtain ⟨f,rfl⟩:∃f',f=f'+1:=⟨f-1,by omega⟩
 rw [e]
 unfold X4
 rw [if_neg hn,if_pos he]
theorem RtOk.on {c:List Int} {a t want:Int} {s:RS} (h:RtOk c a t want s) (hn:Zp s.c a t≠[]) (he:s.got+Z4 s.c (Zp s.c a t) (want-s.got)≠want):
 RtOk c a t want ⟨Xi (Zp s.c a t) s.c (Z4 s.c (Zp s.c a t) (want-s.got)),s.got+Z4 s.c (Zp s.c a t) (want-s.got),s.acc++Ya (Zp s.c a t) (Z4 s.c (Zp s.c a t) (want-s.got))⟩/\
  Zd4 (Xi (Zp s.c a t) s.c (Z4 s.c (Zp s.c a t) (want-s.got))) t.toNat<Zd4 s.c t.toNat:=by
 have hhi:=h.hi
 obtain ⟨p1,p2,p3,p4⟩:=Jl h.wf hn (want-s.got) (by omega)
 have hm:=p4 (by omega)
 obtain ⟨f,hf,e⟩:=h.eq
 obtain ⟨f,rfl⟩:∃f',f=f'+1:=⟨f-1,by omega⟩
 have hlo:=h.lo
 have hfew:=h.few
 obtain ⟨_,_,_,_,_,_,_,_,_,hl2,hl17⟩:=Za4 hn
 refine ⟨⟨p3,by simp only;omega,by simp only;omega,?_,f,by simp only;omega,?_⟩,hm⟩
 ·simp only [List.length_append,Zco];omega
 rw [e]
 conv=>lhs;unfold X4
 rw [if_neg hn,if_neg he]
end Go.Proofs.YtipjchbdogmccaaGreat
