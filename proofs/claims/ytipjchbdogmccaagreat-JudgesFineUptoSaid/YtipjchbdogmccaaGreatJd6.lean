/- The judges' law: the guard, calls of one order, what ran; walked. The judges' map: of a call's name, where it stands first. Judges, plain: what is wrong first of a history; what is so of one that ran as an order says. The judges' small functions: names, steps and answers compared, calls looked for; walked. The judges' questions: is a call of the order wrong, an answer, does something stand in time; walked. The judges' questions of answers; walked. The replies of an order: a machine that does its calls one behind the other; walked. A range over an iterator of pairs that keeps nothing of its own between two rounds. Program independent. Judge: the iterator of an order from its end, and where names stand first; walked. -/
import Derived.Test.YtipjchbdogmccaaGreatBase
import Derived.Test.YtipjchbdogmccaaGreatBatch
import Derived.Test.YtipjchbdogmccaaGreatIterK
set_option maxHeartbeats 6400000
set_option maxRecDepth 100000
namespace Go.Proofs.YtipjchbdogmccaaGreat
open Go.RowKit Go.Rg Go.BigFrame
abbrev Nm:=Int×Int
abbrev NmL:=List (Nm×Int)
def nmV (k:Nm):Value:= .agg #[.int .u8 k.1,.int .u64 k.2]
def nmI (v:Int):Value:= .int .i64 v
def lkN (l:NmL) (k:Nm):Option Int:=(l.find? (fun e=>e.1==k)).map (·.2)
def Zhp:NmL->Nm->Int->NmL
 | [],k,v=>[(k,v)]
 | x::xs,k,v=>if x.1==k then (k,v)::xs else x::Zhp xs k v
theorem lkN_upd (k k':Nm) (v:Int):∀l:NmL,lkN (Zhp l k v) k'=if k==k' then some v else lkN l k'
 | []=>by
   unfold Zhp lkN
   by_cases h:(k==k')=true
   ·rw [List.find?_cons_of_pos (by simpa using h),if_pos h];rfl
   rw [List.find?_cons_of_neg (by simpa using h),if_neg h]
 | x::xs=>by
   have ih:=lkN_upd k k' v xs
   unfold Zhp
   by_cases hx:(x.1==k)=true
   ·rw [if_pos hx]
    have hx':x.1=k:=by simpa using hx
    unfold lkN
    by_cases h:(k==k')=true
    ·rw [List.find?_cons_of_pos (by simpa using h),if_pos h];rfl
    rw [List.find?_cons_of_neg (by simpa using h),if_neg h,List.find?_cons_of_neg (by rw [hx'];simpa using h)]
   rw [if_neg hx]
   unfold lkN at ih ⊢
   by_cases h2:(x.1==k')=true
   ·rw [List.find?_cons_of_pos (by simpa using h2),List.find?_cons_of_pos (by simpa using h2),if_neg]
    intro h
    have h3:x.1=k':=by simpa using h2
    have h4:k=k':=by simpa using h
    exact hx (by simp [h3,h4])
   rw [List.find?_cons_of_neg (by simpa using h2),List.find?_cons_of_neg (by simpa using h2)]
   exact ih
structure NmRep (es:Array MapEntry) (clock:Nat) (l:NmL):Prop where
 same:es.toList.map (fun e=>(e.key,e.val))=l.map (fun x=>(nmV x.1,nmI x.2))
def Zkd (w:World) (m:Nat) (l:NmL):Prop:=∃es clock,w.heap[m]? =some (.map es clock)/\NmRep es clock l
theorem Zkd.keep {S:List Nat} {w w':World} {m:Nat} {l:NmL} (h:Zkd w m l) (k:Keep S w w') (hn:m∉S):Zkd w' m l:=
 let ⟨es,c,h1,h2⟩:=h
 ⟨es,c,k.at h1 hn,h2⟩
theorem Zkd.ext {w w':World} {m:Nat} {l:NmL} (h:Zkd w m l) (k:Ext w w'):Zkd w' m l:=
 let ⟨es,c,h1,h2⟩:=h
 ⟨es,c,k.at h1,h2⟩
theorem eq_nm (k k':Nm) (w:World):(Op.equal 164 (nmV k) (nmV k')).run Tryz.prog w= .ok (k==k') w:=by
 have hS:Tryz.prog.underlying 164=some (.struct (Tryz.prog.fieldsOf 164)):=by kernel_rfl
 have hp:Tryz.prog.stoodInHeld 164=false:=by kernel_rfl
 unfold Op.equal Op.maxDepth nmV
 rw [show (10000:Nat)=9999+1 from rfl,run_equalIn_agg w 9999 164 _ _ hS hp]
 simp only [Program.fieldsOf,Tryz.underlying164]
 obtain ⟨a,b⟩:=k
 obtain ⟨a',b'⟩:=k'
 go_simp
 by_cases h1:a=a'<;>by_cases h2:b=b'<;>simp [h1,h2]
theorem eql_nm (k k':Nm) (w:World):(binOp .eql 164 (nmV k) (nmV k')).run Tryz.prog w= .ok (.bool (k==k')) w:=by
 have h:=eq_nm k k' w
 unfold Op.equal Op.maxDepth at h
 unfold nmV at h ⊢
 rw [run_eql_struct,h]
 rfl
theorem Zpr (n:Nat) (e:Bool) (k:Nm) (w:World):(Instr.checkKey e (n+1+1) 164 (nmV k)).run Tryz.prog w= .ok () w:=by
 unfold nmV
 simp only [Instr.checkKey]
 go_simp
theorem Zps (e:Bool) (k:Nm) (w:World):(Instr.checkKey e 10000 164 (nmV k)).run Tryz.prog w= .ok () w:=Zpr 9998 e k w
def Za0:NmL->Nm->Nat->Option (Nat×Int)
 | [],_,_=>none
 | x::xs,k,i=>if x.1==k then some (i,x.2) else Za0 xs k (i+1)
theorem findN_lk (l:NmL) (k:Nm) (i:Nat):(Za0 l k i).map (·.2)=lkN l k:=by
 induction l generalizing i with
 | nil=>rfl
 | cons x xs ih=>
   unfold Za0 lkN
   by_cases h:x.1==k
   ·simp [h]
   simp only [h,Bool.false_eq_true,if_false,ih]
   unfold lkN
   simp [h]
theorem beq_nm (a b:Nm):(a==b)=(b==a):=by
 rw [Bool.eq_iff_iff];simp only [beq_iff_eq];exact eq_comm
theorem Ziu (k:Nm) (w:World):∀(es:List MapEntry) (l:NmL) (i:Nat),es.map (fun e=>(e.key,e.val))=l.map (fun x=>(nmV x.1,nmI x.2))->
 (Instr.findAsking 164 (nmV k) es i).run Tryz.prog w= .ok ((Za0 l k i).map (fun r=>(r.1,nmI r.2))) w
 | [],[],_,_=>by simp [Instr.findAsking,Za0]
 | [],_::_,_,h=>by simp at h
 | _::_,[],_,h=>by simp at h
 | e::es,x::xs,i,h=>by
   simp only [List.map_cons,List.cons.injEq,Prod.mk.injEq] at h
   obtain ⟨⟨hk,hv⟩,ht⟩:=h
   have ih:=Ziu k w es xs (i+1) ht
   unfold Instr.findAsking Za0
   rw [Sem.run_bind,hk,eq_nm k x.1 w,Result.andThen_ok,beq_nm k x.1]
   by_cases hx:x.1==k
   ·simp [hx,hv]
   simp only [hx,Bool.false_eq_true,if_false]
   exact ih
theorem Zk4 (k:Nm) (w:World) (es:List MapEntry) (l:NmL) (h:es.map (fun e=>(e.key,e.val))=l.map (fun x=>(nmV x.1,nmI x.2))):
 (Instr.findKey 164 (nmV k) es).run Tryz.prog w= .ok ((Za0 l k 0).map (fun r=>(r.1,nmI r.2))) w:=by
 unfold Instr.findKey
 rw [Sem.run_bind,run_underlying Tryz.underlying164 w,Result.andThen_ok]
 cases es with
 | nil=>
   cases l with
   | nil=>simp [Instr.findNow,Za0]
   | cons x xs=>simp at h
 | cons e es=>
   have hn:Instr.sameNow (.struct (Tryz.prog.fieldsOf 164)) (nmV k) e.key=none:=by
    unfold Instr.sameNow
    rfl
   simp only [Program.fieldsOf,Tryz.underlying164] at hn
   simp only [Instr.findNow,hn]
   exact Ziu k w (e::es) l 0 h
theorem Zk3 (m:Nat) (l:NmL) (k:Nm) (ok:Bool) (w:World) (h:Zkd w m l):
 (Instr.lookup 157 (.map (some m)) (nmV k) ok).run Tryz.prog w= .ok (if ok then .tuple #[nmI ((lkN l k).getD 0),.bool (lkN l k).isSome] else nmI ((lkN l k).getD 0)) w:=by
 obtain ⟨es,clock,hm,hr⟩:=h
 have hf:=Zk4 k w es.toList l hr.same
 have hg:(getObj m).run Tryz.prog w= .ok (.map es clock) w:=by simp [getObj,Sem.run,hm]
 have hz:(zeroValue 3).run Tryz.prog w= .ok (nmI 0) w:=by simp [nmI,go_sem]
 unfold Instr.lookup
 simp only [Sem.run_bind,run_underlying Tryz.underlying157 w,Result.andThen_ok,hg,Sem.run_pure,Zps,hf]
 have hlk:=findN_lk l k 0
 cases hc:Za0 l k 0 with
 | none=>
   rw [hc] at hlk
   simp only [Option.map_none] at hlk
   simp only [Option.map_none,Sem.run_bind,hz,Result.andThen_ok,Sem.run_pure,<-hlk,Option.getD_none,Option.isSome_none]
 | some r=>
   rw [hc] at hlk
   simp only [Option.map_some] at hlk
   simp only [Option.map_some,Sem.run_pure,Sem.run_bind,Result.andThen_ok,<-hlk,Option.getD_some,Option.isSome_some]
theorem nm_bits (n:Nat) (k:Nm):Instr.sameBits (n+1) (nmV k) (nmV k)=true:=by
 unfold nmV
 simp [Instr.sameBits]
theorem nm_stays (k:Nm) (w:World):(Instr.keyThatStays (nmV k) (nmV k)).run Tryz.prog w= .ok (nmV k) w:=by
 unfold Instr.keyThatStays
 rw [show (10000:Nat)=9999+1 from rfl,nm_bits]
 rfl
abbrev nmE (x:Nm×Int):Value×Value:=(nmV x.1,nmI x.2)
theorem Zii (k:Nm) (v:Int):∀(l:NmL) (es:List MapEntry) (n i:Nat) (v0:Int),es.map kv=l.map nmE->Za0 l k n=some (i,v0)->
 n<=i/\(es[i-n]?.map (·.key))=some (nmV k)/\(es.modify (i-n) fun e=>{ e with key:=nmV k,val:=nmI v }).map kv=(Zhp l k v).map nmE
 | [],_,_,_,_,_,h=>by simp [Za0] at h
 | x::xs,[],_,_,_,he,_=>by simp at he
 | x::xs,e::es,n,i,v0,he,h=>by
   simp only [List.map_cons,List.cons.injEq,Prod.mk.injEq] at he
   obtain ⟨⟨hk,hv⟩,ht⟩:=he
   unfold Za0 at h
   by_cases hx:x.1==k
   ·simp only [hx,if_true,Option.some.injEq,Prod.mk.injEq] at h
    obtain ⟨rfl,_⟩:=h
    have hk':x.1=k:=by simpa using hx
    refine ⟨Nat.le_refl _,by simp [hk,hk'],?_⟩
    simp [Zhp,hk',ht]
   simp only [hx,Bool.false_eq_true,if_false] at h
   obtain ⟨h1,h2,h3⟩:=Zii k v xs es (n+1) i v0 ht h
   have hs:i-n=(i-(n+1))+1:=by omega
   refine ⟨by omega,by rw [hs];simpa using h2,?_⟩
   rw [hs]
   have hkv:kv e=nmE x:=by unfold kv nmE;rw [hk,hv]
   simp only [List.modify_succ_cons,List.map_cons,Zhp,hx,Bool.false_eq_true,if_false,h3,hkv]
theorem Zns (k:Nm) (v:Int) (b:Nat):∀(l:NmL) (es:List MapEntry) (n:Nat),es.map kv=l.map nmE->Za0 l k n=none->
 (es++[({ key:=nmV k,val:=nmI v,born:=b }:MapEntry)]).map kv=(Zhp l k v).map nmE
 | [],[],_,_,_=>by simp [Zhp]
 | [],_::_,_,he,_=>by simp at he
 | _::_,[],_,he,_=>by simp at he
 | x::xs,e::es,n,he,h=>by
   simp only [List.map_cons,List.cons.injEq,Prod.mk.injEq] at he
   obtain ⟨⟨hk,hv⟩,ht⟩:=he
   unfold Za0 at h
   by_cases hx:x.1==k
   ·simp [hx] at h
   simp only [hx,Bool.false_eq_true,if_false] at h
   have h1:=Zns k v b xs es (n+1) ht h
   have hkv:kv e=nmE x:=by unfold kv nmE;rw [hk,hv]
   simp only [List.cons_append,List.map_cons,Zhp,hx,Bool.false_eq_true,if_false,hkv]
   rw [h1]
theorem run_updN (m:Nat) (l:NmL) (k:Nm) (v:Int) (w:World) (h:Zkd w m l):
 ∃w',(Instr.mapUpdate 157 (.map (some m)) (nmV k) (nmI v)).run Tryz.prog w= .ok () w'/\Zkd w' m (Zhp l k v)/\Keep [m] w w'/\w'.heap.size=w.heap.size:=by
 obtain ⟨es,clock,hm,hr⟩:=h
 have hf:=Zk4 k w es.toList l hr.same
 have hg:(getObj m).run Tryz.prog w= .ok (.map es clock) w:=by simp [getObj,Sem.run,hm]
 have hset:∀ob',(setObj m ob').run Tryz.prog w= .ok () { w with heap:=w.heap.setIfInBounds m ob' }:=fun ob'=>by simp [setObj,Sem.run,hm]
 unfold Instr.mapUpdate
 simp only [Sem.run_bind,run_underlying Tryz.underlying157 w,Result.andThen_ok,hg,Zps,hf]
 cases hc:Za0 l k 0 with
 | none=>
   have h1:=Zns k v clock l es.toList 0 hr.same hc
   simp only [Option.map_none,hset]
   obtain ⟨k1,k2⟩:=Uc (ob':= .map (es.push { key:=nmV k,val:=nmI v,born:=clock }) (clock+1)) hm
   exact ⟨_,rfl,⟨_,_,k2,⟨by simpa using h1⟩⟩,k1,by simp⟩
 | some r=>
   obtain ⟨i,v0⟩:=r
   obtain ⟨_,h2,h3⟩:=Zii k v l es.toList 0 i v0 hr.same hc
   simp only [Nat.sub_zero] at h2 h3
   have hkey:((es[i]?).map (·.key)).getD (nmV k)=nmV k:=by
    rw [<-Array.getElem?_toList,h2];rfl
   simp only [Option.map_some,Sem.run_bind,hkey,nm_stays,Result.andThen_ok,hset]
   obtain ⟨k1,k2⟩:=Uc (ob':= .map (es.modify i fun e=>{ e with key:=nmV k,val:=nmI v }) clock) hm
   exact ⟨_,rfl,⟨_,_,k2,⟨by simpa using h3⟩⟩,k1,by simp⟩
structure Cl where
 cl:Int
 nu:Int
 v:Value
 st:List Stp
structure An where
 cl:Int
 nu:Int
 e:Int
 i:Int
 v:Value
 got:List Gt
 at_:Int
def Cl.nm (c:Cl):Int×Int:=(c.cl,c.nu)
def An.nm (a:An):Int×Int:=(a.cl,a.nu)
def Stp.tup (s:Stp):List Int:=[s.kd,s.pa,s.pb,s.ca,s.cb,s.am,s.mx,s.nu,s.de,s.sq]
theorem Stp.tup_inj {a b:Stp} (h:a.tup=b.tup):a=b:=by
 obtain ⟨a0,a1,a2,a3,a4,a5,a6,a7,a8,a9⟩:=a
 obtain ⟨b0,b1,b2,b3,b4,b5,b6,b7,b8,b9⟩:=b
 simp only [Stp.tup,List.cons.injEq,and_true] at h
 obtain ⟨h0,h1,h2,h3,h4,h5,h6,h7,h8,h9⟩:=h
 subst h0 h1 h2 h3 h4 h5 h6 h7 h8 h9
 rfl
def Um (a b:List Stp):Bool:=a.map Stp.tup==b.map Stp.tup
theorem stsEq_iff {a b:List Stp}:Um a b=true↔a=b:=by
 unfold Um
 rw [beq_iff_eq]
 exact ⟨fun h=>(List.map_inj_right (fun _ _ e=>Stp.tup_inj e)).1 h,fun h=>by rw [h]⟩
theorem Zim (a:List Stp):Um a a=true:=stsEq_iff.2 rfl
def Yc (o:List Cl) (n:Int×Int):Option Nat:=o.findIdx? fun c=>c.nm==n
abbrev Rep:=Int×Int×List Gt
def X0:List Cl->Led->Bk->List Rep
 | [],_,_=>[]
 | c::l,L,B=>(Xb c.st L B).1::X0 l (Xb c.st L B).2.1 (Xb c.st L B).2.2
theorem Uy:∀(o:List Cl) (L:Led) (B:Bk),(X0 o L B).length=o.length
 | [],_,_=>rfl
 | _::o,L,B=>by rw [X0,List.length_cons,List.length_cons,Uy o]
theorem Zi1:∀(o:List Cl) (L:Led) (B:Bk) (n:Nat),X0 (o.take n) L B=(X0 o L B).take n
 | [],_,_,n=>by simp [X0]
 | _::_,_,_,0=>rfl
 | _::o,L,B,n+1=>by rw [List.take_succ_cons,X0,X0,List.take_succ_cons,Zi1 o]
def Zki (calls:List (Cl×Int)) (o:List Cl) (c:Cl) (i:Nat):Int:=
 if calls.any (fun x=>x.1.nm==c.nm&&Um x.1.st c.st) then (if (Yc o c.nm).getD 0<i then 2 else 0) else 1
def Zev (o:List Cl) (reps:List Rep) (a:An):Int:=
 match Yc o a.nm with
 | none=>3
 | some p=>if (reps[p]?).getD (0,0,[])=(a.e,a.i,a.got) then 0 else 4
def Zji (o:List Cl) (a:An) (x:Cl×Int):Bool:=
 match Yc o x.1.nm with
 | none=>false
 | some p=>decide (a.at_<x.2)&&decide (p<(Yc o a.nm).getD 0)
def Zhq (calls:List (Cl×Int)) (o:List Cl) (a:An):Int:=if calls.any (Zji o a) then 5 else 0
def Xl:List Int->Nat->Option (Int×Nat)
 | [],_=>none
 | x::l,i=>if x=0 then Xl l (i+1) else some (x,i)
def Zcv (calls:List (Cl×Int)) (o:List Cl):List Int:=(List.range o.length).map fun i=>match o[i]? with
 | some c=>Zki calls o c i
 | none=>0
def Y6 (calls:List (Cl×Int)) (ans:List An) (o:List Cl):Int×Int:=
 match Xl (Zcv calls o) 0 with
 | some (x,i)=>(x,(i:Int))
 | none=>match Xl (ans.map (Zev o (X0 o V4 ⟨[],1⟩))) 0 with
   | some (x,i)=>(x,(i:Int))
   | none=>match Xl (ans.map (Zhq calls o)) 0 with
     | some (x,i)=>(x,(i:Int))
     | none=>(0,-1)
theorem Vp:∀{l:List Int} (i:Nat),(∀x∈l,x=0)->Xl l i=none
 | [],_,_=>rfl
 | x::l,i,h=>by rw [Xl,if_pos (h x (by simp))];exact Vp (i+1) fun y hy=>h y (by simp [hy])
theorem U2:∀{l:List Int} (i k:Nat) (hk:k<l.length),(∀j (hj:j<k),l[j]'(by omega)=0)->l[k]'hk≠0->Xl l i=some (l[k]'hk,i+k)
 | [],_,k,hk,_,_=>absurd hk (by simp)
 | x::l,i,0,_,_,hne=>by
   rw [Xl,if_neg (by simpa using hne)]
   rfl
 | x::l,i,k+1,hk,hz,hne=>by
   rw [Xl,if_pos (by have:=hz 0 (by omega);simpa using this)]
   rw [U2 (l:=l) (i+1) k (by simpa using hk) (fun j hj=>by have:=hz (j+1) (by omega);simpa using this) (by simpa using hne)]
   simp only [List.getElem_cons_succ]
   congr 2
   omega
theorem Uf {o:List Cl} (hn:(o.map Cl.nm).Nodup) (i:Nat) (hi:i<o.length):Yc o (o[i]'hi).nm=some i:=by
 unfold Yc
 rw [List.findIdx?_eq_some_iff_getElem]
 refine ⟨hi,by simp,fun j hj=> ?_⟩
 have h1:=List.pairwise_iff_getElem.1 hn j i (by rw [List.length_map];omega) (by rw [List.length_map];exact hi) hj
 simp only [List.getElem_map] at h1
 simpa using h1
theorem Zm3 {o:List Cl} {n:Int×Int} (h:∀c∈o,c.nm≠n):Yc o n=none:=by
 unfold Yc
 rw [List.findIdx?_eq_none_iff]
 intro c hc
 simpa using h c hc
theorem Zrq {o:List Cl} {n:Int×Int} {p:Nat} (h:Yc o n=some p):∃hp:p<o.length,(o[p]'hp).nm=n:=by
 unfold Yc at h
 rw [List.findIdx?_eq_some_iff_getElem] at h
 obtain ⟨hp,h1,_⟩:=h
 exact ⟨hp,by simpa using h1⟩
def Ya (o:List Cl):List (Cl×Int):=o.zipIdx.map fun x=>(x.1,10*(x.2:Int))
theorem Y7 {o:List Cl} {x:Cl×Int}:x∈Ya o↔∃(j:Nat) (hj:j<o.length),x=(o[j]'hj,10*(j:Int)):=by
 unfold Ya
 rw [List.mem_map]
 constructor
 ·rintro ⟨⟨c,j⟩,hm,rfl⟩
  obtain ⟨h1,h2⟩:=List.mem_zipIdx' hm
  exact ⟨j,h1,by rw [h2]⟩
 rintro ⟨j,hj,rfl⟩
 exact ⟨(o[j]'hj,j),by rw [List.mem_zipIdx_iff_getElem?];simp [hj],rfl⟩
def Znk (o:List Cl) (a:An) (p:Nat):Prop:=∃hp:p<o.length,a.nm=(o[p]'hp).nm/\(X0 o V4 ⟨[],1⟩)[p]? =some (a.e,a.i,a.got)/\10*(p:Int)<=a.at_
theorem Zqs {o:List Cl} (hn:(o.map Cl.nm).Nodup) (n:Nat):((o.take n).map Cl.nm).Nodup:=by
 rw [List.map_take]
 exact hn.sublist (List.take_sublist _ _)
theorem Jd {o:List Cl} (hn:(o.map Cl.nm).Nodup) (n i:Nat) (hi:i<o.length):Yc (o.take n) (o[i]'hi).nm=if i<n then some i else none:=by
 split
 ·rename_i h
  have h1:i<(o.take n).length:=by rw [List.length_take];omega
  have h2:=Uf (Zqs hn n) i h1
  rw [List.getElem_take] at h2
  exact h2
 rename_i h
 refine Zm3 fun c hc he=> ?_
 obtain ⟨j,hj,rfl⟩:=List.mem_iff_getElem.1 hc
 rw [List.length_take] at hj
 rw [List.getElem_take] at he
 have h1:=List.pairwise_iff_getElem.1 hn j i (by rw [List.length_map];omega) (by rw [List.length_map];exact hi) (by omega)
 simp only [List.getElem_map] at h1
 exact h1 he
theorem Zga {o:List Cl} (hn:(o.map Cl.nm).Nodup) (n:Nat):∀x∈Zcv (Ya o) (o.take n),x=0:=by
 intro x hx
 unfold Zcv at hx
 obtain ⟨i,hi,rfl⟩:=List.mem_map.1 hx
 rw [List.mem_range,List.length_take] at hi
 have hi2:i<o.length:=by omega
 rw [List.getElem?_take,if_pos (by omega),List.getElem?_eq_getElem hi2]
 simp only
 unfold Zki
 rw [if_pos,Jd hn n i hi2,if_pos (show i<n by omega)]
 ·simp
 rw [List.any_eq_true]
 exact ⟨_,Y7.2 ⟨i,hi2,rfl⟩,by simp [Zim]⟩
theorem Zgw {o:List Cl} (hn:(o.map Cl.nm).Nodup) (n:Nat) {a:An} {p:Nat} (h:Znk o a p) (hp:p<n):Zev (o.take n) (X0 (o.take n) V4 ⟨[],1⟩) a=0:=by
 obtain ⟨hp2,h1,h2,_⟩:=h
 unfold Zev
 rw [h1,Jd hn n p hp2,if_pos hp]
 simp only
 rw [Zi1,List.getElem?_take,if_pos hp,h2]
 simp
theorem timW_fine {o:List Cl} (hn:(o.map Cl.nm).Nodup) (n:Nat) {a:An} {p:Nat} (h:Znk o a p) (hp:p<n):Zhq (Ya o) (o.take n) a=0:=by
 obtain ⟨hp2,h1,_,h3⟩:=h
 unfold Zhq
 rw [if_neg]
 rw [Bool.not_eq_true,List.any_eq_false]
 rintro x hx
 obtain ⟨j,hj,rfl⟩:=Y7.1 hx
 unfold Zji
 simp only
 rw [Jd hn n j hj,h1,Jd hn n p hp2,if_pos hp]
 split
 ·simp
 rename_i q hq
 split at hq
 ·injection hq with hq
  subst hq
  simp only [Option.getD_some,Bool.and_eq_true,decide_eq_true_eq]
  omega
 cases hq
theorem Zrc {o:List Cl} (hn:(o.map Cl.nm).Nodup) (n:Nat) (ans:List An) (ha:∀a∈ans,∃p,p<n/\Znk o a p):Y6 (Ya o) ans (o.take n)=(0,-1):=by
 unfold Y6
 rw [Vp 0 (Zga hn n)]
 simp only
 rw [Vp 0 (by
  intro x hx
  obtain ⟨a,hm,rfl⟩:=List.mem_map.1 hx
  obtain ⟨p,hp,hok⟩:=ha a hm
  exact Zgw hn n hok hp)]
 simp only
 rw [Vp 0 (by
  intro x hx
  obtain ⟨a,hm,rfl⟩:=List.mem_map.1 hx
  obtain ⟨p,hp,hok⟩:=ha a hm
  exact timW_fine hn n hok hp)]
theorem nm_inj {o:List Cl} (hn:(o.map Cl.nm).Nodup) {i j:Nat} (hi:i<o.length) (hj:j<o.length) (h:(o[i]'hi).nm=(o[j]'hj).nm):i=j:=by
 have h1:=Uf hn i hi
 rw [h,Uf hn j hj] at h1
 injection h1 with h1
 exact h1.symm
theorem Ze7 {calls:List (Cl×Int)} {o:List Cl} {i:Nat} (hi:i<o.length):∃h:i<(Zcv calls o).length,(Zcv calls o)[i]'h=Zki calls o (o[i]'hi) i:=by
 refine ⟨by unfold Zcv;simpa using hi,?_⟩
 unfold Zcv
 simp only [List.getElem_map,List.getElem_range,List.getElem?_eq_getElem hi]
theorem Zcg {o:List Cl} {i:Nat} (hi:i<o.length):((Ya o).any fun x=>x.1.nm==(o[i]'hi).nm&&Um x.1.st (o[i]'hi).st)=true:=by
 rw [List.any_eq_true]
 exact ⟨_,Y7.2 ⟨i,hi,rfl⟩,by simp [Zim]⟩
theorem Zox {o:List Cl} (hn:(o.map Cl.nm).Nodup) (ans:List An) (i:Nat) (hi:i<o.length) (hl:ans.length=o.length) (ha:∀j (hj:j<ans.length),j<i->Znk o (ans[j]'hj) j)
 (hm:(ans[i]'(by omega)).nm=(o[i]'hi).nm) (hb:(X0 o V4 ⟨[],1⟩)[i]?≠some ((ans[i]'(by omega)).e,(ans[i]'(by omega)).i,(ans[i]'(by omega)).got)):Y6 (Ya o) ans o=(4,(i:Int)):=by
 have h0:=Zga hn o.length
 rw [List.take_length] at h0
 unfold Y6
 rw [Vp 0 h0]
 simp only
 have h2:(ans.map (Zev o (X0 o V4 ⟨[],1⟩)))[i]'(by rw [List.length_map];omega)=4:=by
  rw [List.getElem_map]
  unfold Zev
  rw [hm,Uf hn i hi]
  simp only
  have h3:i<(X0 o V4 ⟨[],1⟩).length:=by rw [Uy];exact hi
  rw [List.getElem?_eq_getElem h3] at hb ⊢
  rw [if_neg]
  intro he
  exact hb (by rw [<-he];rfl)
 rw [U2 0 i (by rw [List.length_map];omega) (fun j hj=> ?_) (by rw [h2];decide),h2]
 ·simp
 rw [List.getElem_map]
 have h4:=Zgw hn o.length (ha j (by omega) hj) (by omega)
 rw [List.take_length] at h4
 exact h4
theorem Zow {o:List Cl} (hn:(o.map Cl.nm).Nodup) (ans:List An) (i:Nat) (hi:i<o.length):Y6 (Ya o) ans (o++[o[i]'hi])=(2,(o.length:Int)):=by
 have hf:∀j (hj:j<o.length),Yc (o++[o[i]'hi]) (o[j]'hj).nm=some j:=fun j hj=>by
  unfold Yc
  have h:=Uf hn j hj
  unfold Yc at h
  rw [List.findIdx?_append,h]
  rfl
 have hlen:(o++[o[i]'hi]).length=o.length+1:=by simp
 unfold Y6
 obtain ⟨g1,g2⟩:=Ze7 (calls:=Ya o) (o:=o++[o[i]'hi]) (i:=o.length) (by omega)
 have h2:(Zcv (Ya o) (o++[o[i]'hi]))[o.length]'g1=2:=by
  rw [g2,List.getElem_append_right (Nat.le_refl _)]
  simp only [Nat.sub_self,List.getElem_cons_zero]
  unfold Zki
  rw [if_pos (Zcg hi),hf i hi,if_pos (by simpa using hi)]
 rw [U2 0 o.length g1 (fun j hj=> ?_) (by rw [h2];decide),h2]
 ·simp
 obtain ⟨_,g4⟩:=Ze7 (calls:=Ya o) (o:=o++[o[i]'hi]) (i:=j) (by omega)
 rw [g4,List.getElem_append_left hj]
 unfold Zki
 rw [if_pos (Zcg hj),hf j hj]
 simp
theorem Zjo {o:List Cl} (hn:(o.map Cl.nm).Nodup) (ans:List An) (i:Nat) (hi:i<o.length) (c:Cl) (hc:∀x∈o,x.nm≠c.nm):Y6 (Ya o) ans (o.set i c)=(1,(i:Int)):=by
 have hlen:(o.set i c).length=o.length:=List.length_set
 unfold Y6
 obtain ⟨g1,g2⟩:=Ze7 (calls:=Ya o) (o:=o.set i c) (i:=i) (by omega)
 have h2:(Zcv (Ya o) (o.set i c))[i]'g1=1:=by
  rw [g2,List.getElem_set_self]
  unfold Zki
  rw [if_neg]
  rw [Bool.not_eq_true,List.any_eq_false]
  intro x hx
  obtain ⟨j,hj,rfl⟩:=Y7.1 hx
  simp [hc _ (List.getElem_mem hj)]
 rw [U2 0 i g1 (fun j hj=> ?_) (by rw [h2];decide),h2]
 ·simp
 obtain ⟨_,g4⟩:=Ze7 (calls:=Ya o) (o:=o.set i c) (i:=j) (by omega)
 have hjo:j<o.length:=by omega
 rw [g4,List.getElem_set_ne (by omega)]
 unfold Zki
 rw [if_pos (Zcg hjo)]
 have hf:Yc (o.set i c) (o[j]'hjo).nm=some j:=by
  unfold Yc
  rw [List.findIdx?_eq_some_iff_getElem]
  refine ⟨by omega,by rw [List.getElem_set_ne (by omega)];simp,fun k hk=> ?_⟩
  rw [List.getElem_set_ne (by omega)]
  simp only [beq_iff_eq]
  intro he
  have:=nm_inj hn (by omega) hjo he
  omega
 rw [hf]
 simp
theorem Zrb {o:List Cl} (hn:(o.map Cl.nm).Nodup) (ans:List An) (hl:ans.length=o.length) (h0:0<o.length) (ha:∀j (hj:j<ans.length),Znk o (ans[j]'hj) j):Y6 (Ya o) ans (o.take (o.length-1))=(3,((o.length-1:Nat):Int)):=by
 unfold Y6
 rw [Vp 0 (Zga hn _)]
 simp only
 have h2:(ans.map (Zev (o.take (o.length-1)) (X0 (o.take (o.length-1)) V4 ⟨[],1⟩)))[o.length-1]'(by rw [List.length_map];omega)=3:=by
  rw [List.getElem_map]
  obtain ⟨hp,h3,_⟩:=ha (o.length-1) (by omega)
  unfold Zev
  rw [h3,Jd hn _ _ hp,if_neg (by omega)]
 rw [U2 0 (o.length-1) (by rw [List.length_map];omega) (fun j hj=> ?_) (by rw [h2];decide),h2]
 ·simp
 rw [List.getElem_map]
 exact Zgw hn _ (ha j (by omega)) (by omega)
def swp (a b j:Nat):Nat:=if j=a then b else if j=b then a else j
theorem Zmc (a b j:Nat):swp a b (swp a b j)=j:=by
 unfold swp
 repeat' split
 all_goals omega
theorem Zmd {a b j n:Nat} (ha:a<n) (hb:b<n) (hj:j<n):swp a b j<n:=by
 unfold swp
 repeat' split
 all_goals omega
structure Turned (o o':List Cl) (a b:Nat):Prop where
 len:o'.length=o.length
 a_:a<b
 b_:b<o.length
 at_:∀j (hj:j<o.length),o'[j]'(by omega)=o[swp a b j]'(Zmd (by omega) b_ hj)
theorem Turned.nodup {o o':List Cl} {a b:Nat} (h:Turned o o' a b) (hn:(o.map Cl.nm).Nodup):(o'.map Cl.nm).Nodup:=by
 unfold List.Nodup
 rw [List.pairwise_iff_getElem]
 intro i j hi hj hij
 rw [List.length_map,h.len] at hi hj
 simp only [List.getElem_map]
 rw [h.at_ i hi,h.at_ j hj]
 intro he
 have h1:=nm_inj hn _ _ he
 have h2:=congrArg (swp a b) h1
 rw [Zmc,Zmc] at h2
 omega
theorem Turned.first {o o':List Cl} {a b:Nat} (h:Turned o o' a b) (hn:(o.map Cl.nm).Nodup) (j:Nat) (hj:j<o.length):Yc o' (o[j]'hj).nm=some (swp a b j):=by
 have hl:=Zmd (Nat.lt_trans h.a_ h.b_) h.b_ hj
 have h1:=Uf (h.nodup hn) (swp a b j) (by rw [h.len];exact hl)
 rw [h.at_ _ hl] at h1
 simp only [Zmc] at h1
 exact h1
theorem Zmv {o o':List Cl} {a b:Nat} (h:Turned o o' a b) (hn:(o.map Cl.nm).Nodup) (ans:List An) (hl:ans.length=o.length)
 (ha:∀j (hj:j<ans.length),(ans[j]'hj).nm=(o[j]'(by omega)).nm/\(X0 o' V4 ⟨[],1⟩)[swp a b j]? =some ((ans[j]'hj).e,(ans[j]'hj).i,(ans[j]'hj).got)/\(ans[j]'hj).at_=10*(j:Int)):Y6 (Ya o) ans o'=(5,(a:Int)):=by
 have hab:=h.a_
 have hb:=h.b_
 unfold Y6
 rw [Vp 0 (fun x hx=> ?_)]
 ·simp only
  rw [Vp 0 (fun x hx=> ?_)]
  ·simp only
   have ht:∀j (hj:j<ans.length),(ans.map (Zhq (Ya o) o'))[j]'(by rw [List.length_map];exact hj)=if (Ya o).any (Zji o' (ans[j]'hj)) then 5 else 0:=fun j hj=>by rw [List.getElem_map];rfl
   have h2:(ans.map (Zhq (Ya o) o'))[a]'(by rw [List.length_map];omega)=5:=by
    rw [ht a (by omega),if_pos]
    rw [List.any_eq_true]
    refine ⟨_,Y7.2 ⟨b,hb,rfl⟩,?_⟩
    unfold Zji
    rw [h.first hn b hb,(ha a (by omega)).1,h.first hn a (by omega),(ha a (by omega)).2.2]
    simp only [Option.getD_some,Bool.and_eq_true,decide_eq_true_eq]
    unfold swp
    rw [if_pos rfl,if_neg (by omega),if_pos rfl]
    omega
   rw [U2 0 a (by rw [List.length_map];omega) (fun j hj=> ?_) (by rw [h2];decide),h2]
   ·simp
   ·rw [ht j (by omega),if_neg]
    rw [Bool.not_eq_true,List.any_eq_false]
    intro x hx
    obtain ⟨k,hk,rfl⟩:=Y7.1 hx
    unfold Zji
    rw [h.first hn k hk,(ha j (by omega)).1,h.first hn j (by omega),(ha j (by omega)).2.2]
    simp only [Option.getD_some,Bool.and_eq_true,decide_eq_true_eq]
    have e1:swp a b j=j:=by unfold swp;rw [if_neg (by omega),if_neg (by omega)]
    rw [e1]
    unfold swp
    repeat' split
    all_goals omega
  obtain ⟨an,hm,rfl⟩:=List.mem_map.1 hx
  obtain ⟨j,hj,rfl⟩:=List.mem_iff_getElem.1 hm
  obtain ⟨g1,g2,_⟩:=ha j hj
  unfold Zev
  rw [g1,h.first hn j (by omega)]
  simp only
  rw [g2]
  simp
 unfold Zcv at hx
 obtain ⟨i,hi,rfl⟩:=List.mem_map.1 hx
 rw [List.mem_range] at hi
 have hi2:i<o.length:=by rw [<-h.len];exact hi
 rw [List.getElem?_eq_getElem hi]
 simp only
 unfold Zki
 rw [Uf (h.nodup hn) i hi,h.at_ i hi2,if_pos (Zcg _)]
 simp
theorem Xe {w1 wq:World} (h:Cls w1 wq):Ext w1 wq:=by
 obtain ⟨u,rfl⟩:=h
 exact u.h
def Cl.cells (c:Cl):List Value:=[.int .u8 c.cl,.int .u64 c.nu,c.v]
def Jf (c:Cl):Value:= .agg #[.int .u8 c.cl,.int .u64 c.nu,c.v]
def Yr (x:Cl×Int):List Value:=[.int .u8 x.1.cl,.int .u64 x.1.nu,x.1.v,.int .u64 x.2]
def Zl4 (x:Cl×Int):Value:= .agg #[.int .u8 x.1.cl,.int .u64 x.1.nu,x.1.v,.int .u64 x.2]
def An.cells (a:An):List Value:=[.int .u8 a.cl,.int .u64 a.nu,.int .i64 a.e,.int .i64 a.i,a.v,.int .u64 a.at_]
def Zfu (a:An):Value:= .agg #[.int .u8 a.cl,.int .u64 a.nu,.int .i64 a.e,.int .i64 a.i,a.v,.int .u64 a.at_]
def J2 (w:World) (c:Cl):Prop:=Z4 w 10 c.v c.st.length (Zbd c.st)/\∀s∈c.st,s.In
def AnR (w:World) (a:An):Prop:=Z4 w 2 a.v a.got.length (gtC a.got)
theorem J2.ext {w w':World} {c:Cl} (h:J2 w c) (k:Ext w w'):J2 w' c:=⟨h.1.ext k,h.2⟩
theorem AnR.ext {w w':World} {a:An} (h:AnR w a) (k:Ext w w'):AnR w' a:=Z4.ext h k
theorem Zbz (c n:Int) (v:Value) (w:World):Calls Tryz.prog 63 #[.agg #[.int .u8 c,.int .u64 n,v]] w (Ret (nmV (c,n)) w):=by
 have e0:=Zc w (.cells #[.int .u8 c,.int .u64 n,v] 73)
 have h0:=Zb w (.cells #[.int .u8 c,.int .u64 n,v] 73)
 have s0:=size_alloc w (.cells #[.int .u8 c,.int .u64 n,v] 73)
 have e1:=Zc (w.alloc (.cells #[.int .u8 c,.int .u64 n,v] 73)) (.cells #[.int .u8 0,.int .u64 0] 164)
 have h1:=Zb (w.alloc (.cells #[.int .u8 c,.int .u64 n,v] 73)) (.cells #[.int .u8 0,.int .u64 0] 164)
 rw [s0] at h1
 have x0:=e1.at h0
 have E:=Xt e0 e1
 clear e0 e1 h0 s0
 have y0:=Za (j:=0) x0 rfl
 have y1:=Za (j:=1) x0 rfl
 go_enter Tryz.func63,Tryz.ntmps63
 go_wp2_with (refine Ze rfl rfl 164 _ _ rfl (w.heap.size+1) _ rfl rfl 164 _ h1 (by kernel_rfl) (by rfl) (by rfl) ?_;intro w3 hb3 _ h3)
 exact Xv (w.heap.size+1) 164 _ _ _ rfl rfl h3 Tryz.underlying164 rfl (by kernel_rfl) rfl ⟨rfl,hb3 _ _ (by omega) E⟩
theorem neq_st (a b:Stp) (w:World):(binOp .neq 30 a.agg b.agg).run Tryz.prog w= .ok (.bool (!(a.tup==b.tup))) w:=by
 have hS:Tryz.prog.underlying 30=some (.struct (Tryz.prog.fieldsOf 30)):=by kernel_rfl
 have hp:Tryz.prog.stoodInHeld 30=false:=by kernel_rfl
 have hS2:Tryz.prog.underlying 27=some (.struct (Tryz.prog.fieldsOf 27)):=by kernel_rfl
 have hp2:Tryz.prog.stoodInHeld 27=false:=by kernel_rfl
 obtain ⟨a0,a1,a2,a3,a4,a5,a6,a7,a8,a9⟩:=a
 obtain ⟨b0,b1,b2,b3,b4,b5,b6,b7,b8,b9⟩:=b
 have h2:∀w,(Op.equalIn 9999 27 (.agg #[.int .i64 a7,.int .i64 a8]) (.agg #[.int .i64 b7,.int .i64 b8])).run Tryz.prog w= .ok (a7==b7&&a8==b8) w:=fun w=>by
  rw [show (9999:Nat)=9998+1 from rfl,run_equalIn_agg w 9998 27 _ _ hS2 hp2]
  simp only [Program.fieldsOf,Tryz.underlying27]
  go_simp
  by_cases h1:a7=b7<;>by_cases h2:a8=b8<;>simp [h1,h2]
 have h:(Op.equalIn 10000 30 (Stp.agg ⟨a0,a1,a2,a3,a4,a5,a6,a7,a8,a9⟩) (Stp.agg ⟨b0,b1,b2,b3,b4,b5,b6,b7,b8,b9⟩)).run Tryz.prog w= .ok (Stp.tup ⟨a0,a1,a2,a3,a4,a5,a6,a7,a8,a9⟩==Stp.tup ⟨b0,b1,b2,b3,b4,b5,b6,b7,b8,b9⟩) w:=by
  unfold Stp.agg Stp.tup
  rw [show (10000:Nat)=9999+1 from rfl,run_equalIn_agg w 9999 30 _ _ hS hp]
  simp only [Program.fieldsOf,Tryz.underlying30]
  go_simp
  repeat' split
  all_goals simp_all
 unfold Stp.agg at h ⊢
 rw [run_neq_struct,h];rfl
theorem neq_got (a b:Gt) (w:World):(binOp .neq 55 (Zfj a) (Zfj b)).run Tryz.prog w= .ok (.bool (!(a==b))) w:=by
 have hS:Tryz.prog.underlying 55=some (.struct (Tryz.prog.fieldsOf 55)):=by kernel_rfl
 have hp:Tryz.prog.stoodInHeld 55=false:=by kernel_rfl
 obtain ⟨a,a'⟩:=a
 obtain ⟨b,b'⟩:=b
 have h:(Op.equalIn 10000 55 (Zfj (a,a')) (Zfj (b,b'))).run Tryz.prog w= .ok ((a,a')==(b,b')) w:=by
  unfold Zfj
  rw [show (10000:Nat)=9999+1 from rfl,run_equalIn_agg w 9999 55 _ _ hS hp]
  simp only [Program.fieldsOf,Tryz.underlying55]
  go_simp
  by_cases h1:a=b<;>by_cases h2:a'=b'<;>simp [h1,h2]
 unfold Zfj at h ⊢
 rw [run_neq_struct,h];rfl
theorem Zop (w:World) (g off k:Nat) (l:List Gt) (hk:k<l.length) (h:∀j u,(gtC l)[j]? =some u->w.cell? ⟨g,off+j,none⟩=some u):
 (loadVar 55 ⟨g,off+k*2,none⟩).run Tryz.prog w= .ok (Zfj (l[k]'hk)) w:=
 Zm w g (off+k*2) 55 (gtC1 (l[k]'hk)) _ (fun j u hu=>by
  have hj:j<2:=(List.getElem?_eq_some_iff.1 hu).1
  rw [Nat.add_assoc]
  exact h _ _ ((Zrh l k j hk hj).trans hu)) Tryz.underlying55 rfl (by kernel_rfl)
theorem Zhb {α β:Type} [BEq β] [LawfulBEq β] (f:α->β) {l l':List α} (h:l.length=l'.length) (k:Nat) (hk:k<l.length) (_he:(l.take k).map f=(l'.take k).map f):(l.map f==l'.map f)=((f (l[k]'hk)==f (l'[k]'(h▸hk)))&&((l.map f==l'.map f))):=by
 rw [Bool.eq_iff_iff,Bool.and_eq_true,beq_iff_eq,beq_iff_eq]
 refine ⟨fun e=>⟨?_,e⟩,fun e=>e.2⟩
 have:=congrArg (fun x=>x[k]?) e
 simp only [List.getElem?_map,List.getElem?_eq_getElem hk,List.getElem?_eq_getElem (h▸hk),Option.map_some,Option.some.injEq] at this
 exact this
theorem eqst_any (v v':Value) (l l':List Stp) (w:World) (ha:Z4 w 10 v l.length (Zbd l)) (hb:Z4 w 10 v' l'.length (Zbd l')):
 Calls Tryz.prog 114 #[v,v'] w (Ret (.bool (Um l l')) w):=by
 obtain ⟨A,cap,rfl,q1,q2,q3,q4⟩:=ha
 obtain ⟨A',cap',rfl,r1,r2,r3,r4⟩:=hb
 have hn63:(l.length:Int)<=9223372036854775807:=by unfold maxLen at q2;omega
 have hm63:(l'.length:Int)<=9223372036854775807:=by unfold maxLen at r2;omega
 clear q1 q2 q3 r1 r2 r3
 by_cases hlen:l.length=l'.length
 ·rw [<-hlen] at r4
  have hlI:((l.length:Int)!=(l'.length:Int))=false:=by simp [hlen]
  go_enter Tryz.func114,Tryz.ntmps114
  go_wp2_with fail
  go_loopw [5,13,14,15,16,17,18,19,20,21,22,23,24,25] (fun _ iv _ _ _ _ _ _ _ _ _ _ _ _ wr=>∃k:Nat,k<=l.length/\iv= .int .i64 k/\Ext w wr/\(l.take k).map Stp.tup=(l'.take k).map Stp.tup) (fun _ iv _ _ _ _ _ _ _ _ _ _ _ _ _=>l.length-(intOf iv).toNat)
  case atStart=>exact ⟨0,Nat.zero_le _,rfl,Ext.refl _,rfl⟩
  obtain ⟨k,hk,rfl,er,he⟩:=hrel
  by_cases hkn:k<l.length
  ·rcases q4 with q4 | ⟨g,off,rfl,hlt,hcell⟩
   ·omega
   rcases r4 with r4 | ⟨g',off',rfl,hlt',hcell'⟩
   ·omega
   have hkn':k<l'.length:=hlen▸hkn
   have hj1:(0:Int)<=(k:Int):=by omega
   have hj2:(k:Int)<(l.length:Int):=by omega
   have hj3:(k:Int)<(l'.length:Int):=by omega
   have ld1:=fun W (hW:Ext w W)=>Zmm W g off k l hkn (fun j u hu=>(Zh (hW.block hlt)).trans (hcell j u hu))
   have ld2:=fun W (hW:Ext w W)=>Zmm W g' off' k l' hkn' (fun j u hu=>(Zh (hW.block hlt')).trans (hcell' j u hu))
   have hst:=Zhb Stp.tup hlen k hkn he
   have hne:=neq_st (l[k]'hkn) (l'[k]'hkn')
   have hE:=Lib.hid (show Um l l'=(l.map Stp.tup==l'.map Stp.tup) from rfl)
   have he2:(l[k]'hkn).tup=(l'[k]'hkn').tup->(l.take (k+1)).map Stp.tup=(l'.take (k+1)).map Stp.tup:=fun e=>by
    rw [List.take_succ_eq_append_getElem hkn,List.take_succ_eq_append_getElem hkn',List.map_append,List.map_append,he,List.map_singleton,List.map_singleton,e]
   have HST:=Lib.hid hst
   have HE2:=Lib.hid he2
   generalize (l[k]'hkn)=a at *
   generalize (l'[k]'hkn')=b at *
   clear hcell hcell' he hst he2
   cases hq:(a.tup==b.tup) with
   | true=>
     rw [hq] at hne
     unfold Stp.agg at ld1 ld2 hne
     simp only [Bool.not_true] at hne
     go_wp2_with fail
     refine Z1 Zk [] (by kernel_rfl) (by kernel_rfl) ?_
     intro w1 hw1
     have l1:=fun wq (hq:Cls w1 wq)=>ld1 wq (Xt er (Xt hw1 (Xe hq)))
     have l2:=fun wq (hq:Cls w1 wq)=>ld2 wq (Xt er (Xt hw1 (Xe hq)))
     simp only [Zj,Rg.hsB,Nat.reduceAdd,↓reduceIte]
     repeat (first | go_big_quiet_step (fail) | (go_big_quiet_want;(first | refine Zu 30 _ _ _ rfl rfl l1 ?_ | refine Zu 30 _ _ _ rfl rfl l2 ?_);go_big_quiet_on;simp only [Act.put,Rg.puB]))
     refine wpQuiet_nil ?_
     refine Y3 (by kernel_rfl) ?_
     intro w2 e2 e2'
     try simp only [Act.put,Rg.puC,Rg.puB]
     clear l1 l2 hw1
     go_wp2_with fail
     exact ⟨⟨k+1,by omega,by go_num,Xt er e2,HE2.out (by simpa using hq)⟩,by simp [intOf];omega⟩
   | false=>
     rw [hq] at hne
     unfold Stp.agg at ld1 ld2 hne
     simp only [Bool.not_false] at hne
     go_wp2_with fail
     refine Z1 Zk [] (by kernel_rfl) (by kernel_rfl) ?_
     intro w1 hw1
     have l1:=fun wq (hq:Cls w1 wq)=>ld1 wq (Xt er (Xt hw1 (Xe hq)))
     have l2:=fun wq (hq:Cls w1 wq)=>ld2 wq (Xt er (Xt hw1 (Xe hq)))
     simp only [Zj,Rg.hsB,Nat.reduceAdd,↓reduceIte]
     repeat (first | go_big_quiet_step (fail) | (go_big_quiet_want;(first | refine Zu 30 _ _ _ rfl rfl l1 ?_ | refine Zu 30 _ _ _ rfl rfl l2 ?_);go_big_quiet_on;simp only [Act.put,Rg.puB]))
     refine wpQuiet_nil ?_
     refine Y3 (by kernel_rfl) ?_
     intro w2 e2 e2'
     try simp only [Act.put,Rg.puC,Rg.puB]
     clear l1 l2 hw1
     go_wp2_with fail
     go_ret
     refine ⟨?_,Xt er e2⟩
     rw [hE.out,HST.out,hq]
     rfl
  have hk':k=l.length:=by omega
  subst hk'
  rw [List.take_length,hlen,List.take_length] at he
  have hE:Um l l'=true:=by unfold Um;rw [he];exact beq_self_eq_true _
  have HE:=Lib.hid hE
  clear hE he q4 r4
  go_wp2_with fail
  go_ret
  exact ⟨by rw [HE.out];rfl,er⟩
 have hlI:((l.length:Int)!=(l'.length:Int))=true:=by rw [bne_iff_ne];omega
 have hE:Um l l'=false:=by
  unfold Um
  rw [beq_eq_false_iff_ne]
  intro e
  have:=congrArg List.length e
  simp at this
  exact hlen this
 rw [hE]
 go_enter Tryz.func114,Tryz.ntmps114
 go_wp2_with fail
 go_ret
 exact ⟨rfl,Ext.refl _⟩
theorem eqgt_any (v v':Value) (l l':List Gt) (w:World) (ha:Z4 w 2 v l.length (gtC l)) (hb:Z4 w 2 v' l'.length (gtC l')):
 Calls Tryz.prog 118 #[v,v'] w (Ret (.bool ((l==l'))) w):=by
 obtain ⟨A,cap,rfl,q1,q2,q3,q4⟩:=ha
 obtain ⟨A',cap',rfl,r1,r2,r3,r4⟩:=hb
 have hn63:(l.length:Int)<=9223372036854775807:=by unfold maxLen at q2;omega
 have hm63:(l'.length:Int)<=9223372036854775807:=by unfold maxLen at r2;omega
 clear q1 q2 q3 r1 r2 r3
 by_cases hlen:l.length=l'.length
 ·rw [<-hlen] at r4
  have hlI:((l.length:Int)!=(l'.length:Int))=false:=by simp [hlen]
  go_enter Tryz.func118,Tryz.ntmps118
  go_wp2_with fail
  go_loopw [5,13,14,15,16,17,18,19,20,21,22,23,24,25] (fun _ iv _ _ _ _ _ _ _ _ _ _ _ _ wr=>∃k:Nat,k<=l.length/\iv= .int .i64 k/\Ext w wr/\(l.take k).map id=(l'.take k).map id) (fun _ iv _ _ _ _ _ _ _ _ _ _ _ _ _=>l.length-(intOf iv).toNat)
  case atStart=>exact ⟨0,Nat.zero_le _,rfl,Ext.refl _,rfl⟩
  obtain ⟨k,hk,rfl,er,he⟩:=hrel
  by_cases hkn:k<l.length
  ·rcases q4 with q4 | ⟨g,off,rfl,hlt,hcell⟩
   ·omega
   rcases r4 with r4 | ⟨g',off',rfl,hlt',hcell'⟩
   ·omega
   have hkn':k<l'.length:=hlen▸hkn
   have hj1:(0:Int)<=(k:Int):=by omega
   have hj2:(k:Int)<(l.length:Int):=by omega
   have hj3:(k:Int)<(l'.length:Int):=by omega
   have ld1:=fun W (hW:Ext w W)=>Zop W g off k l hkn (fun j u hu=>(Zh (hW.block hlt)).trans (hcell j u hu))
   have ld2:=fun W (hW:Ext w W)=>Zop W g' off' k l' hkn' (fun j u hu=>(Zh (hW.block hlt')).trans (hcell' j u hu))
   have hst:=Zhb id hlen k hkn he
   have hne:=neq_got (l[k]'hkn) (l'[k]'hkn')
   have hE:=Lib.hid (show (l==l')=(l.map id==l'.map id) by rw [List.map_id,List.map_id])
   have he2:(l[k]'hkn)=(l'[k]'hkn')->(l.take (k+1)).map id=(l'.take (k+1)).map id:=fun e=>by
    rw [List.take_succ_eq_append_getElem hkn,List.take_succ_eq_append_getElem hkn',List.map_append,List.map_append,he,List.map_singleton,List.map_singleton];exact congrArg (fun x=>List.map id (List.take k l')++[x]) e
   have HST:=Lib.hid hst
   have HE2:=Lib.hid he2
   generalize (l[k]'hkn)=a at *
   generalize (l'[k]'hkn')=b at *
   clear hcell hcell' he hst he2
   cases hq:(a==b) with
   | true=>
     rw [hq] at hne
     unfold Zfj at ld1 ld2 hne
     simp only [Bool.not_true] at hne
     go_wp2_with fail
     refine Z1 Zk [] (by kernel_rfl) (by kernel_rfl) ?_
     intro w1 hw1
     have l1:=fun wq (hq:Cls w1 wq)=>ld1 wq (Xt er (Xt hw1 (Xe hq)))
     have l2:=fun wq (hq:Cls w1 wq)=>ld2 wq (Xt er (Xt hw1 (Xe hq)))
     simp only [Zj,Rg.hsB,Nat.reduceAdd,↓reduceIte]
     repeat (first | go_big_quiet_step (fail) | (go_big_quiet_want;(first | refine Zu 55 _ _ _ rfl rfl l1 ?_ | refine Zu 55 _ _ _ rfl rfl l2 ?_);go_big_quiet_on;simp only [Act.put,Rg.puB]))
     refine wpQuiet_nil ?_
     refine Y3 (by kernel_rfl) ?_
     intro w2 e2 e2'
     try simp only [Act.put,Rg.puC,Rg.puB]
     clear l1 l2 hw1
     go_wp2_with fail
     exact ⟨⟨k+1,by omega,by go_num,Xt er e2,HE2.out (by simpa using hq)⟩,by simp [intOf];omega⟩
   | false=>
     rw [hq] at hne
     unfold Zfj at ld1 ld2 hne
     simp only [Bool.not_false] at hne
     go_wp2_with fail
     refine Z1 Zk [] (by kernel_rfl) (by kernel_rfl) ?_
     intro w1 hw1
     have l1:=fun wq (hq:Cls w1 wq)=>ld1 wq (Xt er (Xt hw1 (Xe hq)))
     have l2:=fun wq (hq:Cls w1 wq)=>ld2 wq (Xt er (Xt hw1 (Xe hq)))
     simp only [Zj,Rg.hsB,Nat.reduceAdd,↓reduceIte]
     repeat (first | go_big_quiet_step (fail) | (go_big_quiet_want;(first | refine Zu 55 _ _ _ rfl rfl l1 ?_ | refine Zu 55 _ _ _ rfl rfl l2 ?_);go_big_quiet_on;simp only [Act.put,Rg.puB]))
     refine wpQuiet_nil ?_
     refine Y3 (by kernel_rfl) ?_
     intro w2 e2 e2'
     try simp only [Act.put,Rg.puC,Rg.puB]
     clear l1 l2 hw1
     go_wp2_with fail
     go_ret
     refine ⟨?_,Xt er e2⟩
     rw [hE.out,HST.out]
     simp only [id,hq]
     rfl
  have hk':k=l.length:=by omega
  subst hk'
  rw [List.take_length,hlen,List.take_length] at he
  have hE:(l==l')=true:=by rw [List.map_id,List.map_id] at he;rw [he];exact beq_self_eq_true _
  have HE:=Lib.hid hE
  clear hE he q4 r4
  go_wp2_with fail
  go_ret
  exact ⟨by rw [HE.out];rfl,er⟩
 have hlI:((l.length:Int)!=(l'.length:Int))=true:=by rw [bne_iff_ne];omega
 have hE:(l==l')=false:=by
  rw [beq_eq_false_iff_ne]
  intro e
  exact hlen (congrArg List.length e)
 rw [hE]
 go_enter Tryz.func118,Tryz.ntmps118
 go_wp2_with fail
 go_ret
 exact ⟨rfl,Ext.refl _⟩
theorem Ug (l:List Cl) (k j:Nat) (hk:k<l.length) (hj:j<3):(l.flatMap Cl.cells)[k*3+j]? =((l[k]'hk).cells)[j]? :=J9 Cl.cells 3 (fun _=>rfl) l k j hk hj
theorem Zr8 (l:List (Cl×Int)) (k j:Nat) (hk:k<l.length) (hj:j<4):(l.flatMap Yr)[k*4+j]? =(Yr (l[k]'hk))[j]? :=J9 Yr 4 (fun _=>rfl) l k j hk hj
theorem Zch (l:List An) (k j:Nat) (hk:k<l.length) (hj:j<6):(l.flatMap An.cells)[k*6+j]? =((l[k]'hk).cells)[j]? :=J9 An.cells 6 (fun _=>rfl) l k j hk hj
theorem Zds (w:World) (g off k:Nat) (l:List Cl) (hk:k<l.length) (h:∀j u,(l.flatMap Cl.cells)[j]? =some u->w.cell? ⟨g,off+j,none⟩=some u):
 (loadVar 73 ⟨g,off+k*3,none⟩).run Tryz.prog w= .ok (Jf (l[k]'hk)) w:=
 Zm w g (off+k*3) 73 ((l[k]'hk).cells) _ (fun j u hu=>by
  have hj:j<3:=(List.getElem?_eq_some_iff.1 hu).1
  rw [Nat.add_assoc]
  exact h _ _ ((Ug l k j hk hj).trans hu)) Tryz.underlying73 rfl (by kernel_rfl)
theorem load_ca (w:World) (g off k:Nat) (l:List (Cl×Int)) (hk:k<l.length) (h:∀j u,(l.flatMap Yr)[j]? =some u->w.cell? ⟨g,off+j,none⟩=some u):
 (loadVar 155 ⟨g,off+k*4,none⟩).run Tryz.prog w= .ok (Zl4 (l[k]'hk)) w:=
 Zm w g (off+k*4) 155 (Yr (l[k]'hk)) _ (fun j u hu=>by
  have hj:j<4:=(List.getElem?_eq_some_iff.1 hu).1
  rw [Nat.add_assoc]
  exact h _ _ ((Zr8 l k j hk hj).trans hu)) Tryz.underlying155 rfl (by kernel_rfl)
theorem load_an (w:World) (g off k:Nat) (l:List An) (hk:k<l.length) (h:∀j u,(l.flatMap An.cells)[j]? =some u->w.cell? ⟨g,off+j,none⟩=some u):
 (loadVar 71 ⟨g,off+k*6,none⟩).run Tryz.prog w= .ok (Zfu (l[k]'hk)) w:=
 Zm w g (off+k*6) 71 ((l[k]'hk).cells) _ (fun j u hu=>by
  have hj:j<6:=(List.getElem?_eq_some_iff.1 hu).1
  rw [Nat.add_assoc]
  exact h _ _ ((Zch l k j hk hj).trans hu)) Tryz.underlying71 rfl (by kernel_rfl)
theorem Zgj {w:World} {b:Nat} {c:Cl} (h:w.heap[b]? =some (.cells c.cells.toArray 73 (0,0))):(loadVar 73 ⟨b,0,none⟩).run Tryz.prog w= .ok (Jf c) w:=by
 have:=run_loadVar_row (P:=Tryz.prog) w b _ 73 _ _ _ h Tryz.underlying73 rfl (by kernel_rfl)
 exact this
theorem Zlm {w:World} {b:Nat} {x:Cl×Int} (h:w.heap[b]? =some (.cells (Yr x).toArray 155 (0,0))):(loadVar 73 ⟨b,0,none⟩).run Tryz.prog w= .ok (Jf x.1) w:=
 Zm w b 0 73 x.1.cells _ (fun j u hu=>by
  rw [Nat.zero_add]
  refine Za h ?_
  have hj:j<3:=(List.getElem?_eq_some_iff.1 hu).1
  rw [List.getElem?_toArray,show Yr x=x.1.cells++[.int .u64 x.2] from rfl,List.getElem?_append_left hj]
  exact hu) Tryz.underlying73 rfl (by kernel_rfl)
theorem Zr7 (x:Cl×Int) (c:Cl) (b:Nat) (w:World) (hb:w.heap[b]? =some (.cells c.cells.toArray 73 (0,0))) (hx:J2 w x.1) (hc:J2 w c):
 Calls Tryz.prog 113 #[Zl4 x,.pointer (some ⟨b,0,none⟩)] w (Ret (.bool (x.1.nm==c.nm&&Um x.1.st c.st)) w):=by
 obtain ⟨⟨xc,xn,xv,xs⟩,xt⟩:=x
 obtain ⟨cc,cn,cv,cs⟩:=c
 obtain ⟨hx1,_⟩:=hx
 obtain ⟨hc1,_⟩:=hc
 simp only at hx1 hc1
 simp only [Zl4,Cl.nm]
 have e0:=Zc w (.cells (Yr (⟨xc,xn,xv,xs⟩,xt)).toArray 155)
 have h0:=Zb w (.cells (Yr (⟨xc,xn,xv,xs⟩,xt)).toArray 155)
 have hb0:=e0.at hb
 have hq1:=fun W (k:Ext (w.alloc (.cells (Yr (⟨xc,xn,xv,xs⟩,xt)).toArray 155)) W)=>Zlm (k.at h0)
 have hq2:=fun W (k:Ext (w.alloc (.cells (Yr (⟨xc,xn,xv,xs⟩,xt)).toArray 155)) W)=>Zgj (k.at hb0)
 have hE:=fun W (k:Ext (w.alloc (.cells (Yr (⟨xc,xn,xv,xs⟩,xt)).toArray 155)) W)=>eqst_any xv cv xs cs W (hx1.ext (Xt e0 k)) (hc1.ext (Xt e0 k))
 have hn1:=fun W=>Zbz xc xn xv W
 have hn2:=fun W=>Zbz cc cn cv W
 have heq:=eql_nm (xc,xn) (cc,cn)
 simp only [Jf,nmV] at hq1 hq2 hn1 hn2 heq
 simp only [Yr,Cl.cells] at *
 generalize hW:w.alloc (.cells [Value.int .u8 xc,.int .u64 xn,xv,.int .u64 xt].toArray 155)=W at *
 have HW:=Lib.hid hW
 clear hW hx1 hc1 hb
 generalize Um xs cs=sq at *
 cases hk:((xc,xn)==(cc,cn)) with
 | true=>
   rw [hk] at heq
   clear hk
   go_enter Tryz.func113,Tryz.ntmps113
   go_wp2_with fail
   rw [HW.out]
   refine Zf Zk 16 [] (by kernel_rfl) (by kernel_rfl) ?_
   intro w1 hw1
   have l1:=fun wq (hq:Cls w1 wq)=>hq1 wq (Xt hw1 (Xe hq))
   have l2:=fun wq (hq:Cls w1 wq)=>hq2 wq (Xt hw1 (Xe hq))
   have y2:=fun u:ExtOf w1=>Za (j:=2) ((Xt hw1 u.h).at h0) rfl
   have z2:=fun u:ExtOf w1=>Za (j:=2) ((Xt hw1 u.h).at hb0) rfl
   have hEu:=fun u:ExtOf w1=>hE u.to (Xt hw1 u.h)
   have hn1u:=fun u:ExtOf w1=>hn1 u.to
   have hn2u:=fun u:ExtOf w1=>hn2 u.to
   clear hE hq1 hq2
   simp only [Zj,Rg.hsB,Nat.reduceAdd,↓reduceIte]
   repeat (first | go_big_quiet_step ((first | (go_at_call 63;first | exact Ret.cls (hn1u _) | exact Ret.cls (hn2u _)) | (go_at_call 114;exact Ret.cls (hEu _)))) | (go_big_quiet_want;(first | refine Zu 73 _ _ _ rfl rfl l1 ?_ | refine Zu 73 _ _ _ rfl rfl l2 ?_);go_big_quiet_on;simp only [Act.put,Rg.puB]))
   refine wpQuiet_nil ?_
   refine Zi (by kernel_rfl) ?_
   intro w2 e2 e2'
   simp only [Rg.puB]
   clear l1 l2 y2 z2 hEu hn1u hn2u
   go_wp2_with fail
   go_ret
   exact ⟨rfl,Xt e0 e2⟩
 | false=>
   rw [hk] at heq
   clear hk
   go_enter Tryz.func113,Tryz.ntmps113
   go_wp2_with fail
   rw [HW.out]
   refine Zf Zk 16 [] (by kernel_rfl) (by kernel_rfl) ?_
   intro w1 hw1
   have l1:=fun wq (hq:Cls w1 wq)=>hq1 wq (Xt hw1 (Xe hq))
   have l2:=fun wq (hq:Cls w1 wq)=>hq2 wq (Xt hw1 (Xe hq))
   have hn1u:=fun u:ExtOf w1=>hn1 u.to
   have hn2u:=fun u:ExtOf w1=>hn2 u.to
   clear hE hq1 hq2
   simp only [Zj,Rg.hsB,Nat.reduceAdd,↓reduceIte]
   repeat (first | go_big_quiet_step ((go_at_call 63;first | exact Ret.cls (hn1u _) | exact Ret.cls (hn2u _))) | (go_big_quiet_want;(first | refine Zu 73 _ _ _ rfl rfl l1 ?_ | refine Zu 73 _ _ _ rfl rfl l2 ?_);go_big_quiet_on;simp only [Act.put,Rg.puB]))
   refine wpQuiet_nil ?_
   refine Zi (by kernel_rfl) ?_
   intro w2 e2 e2'
   simp only [Rg.puB]
   clear l1 l2 hn1u hn2u
   go_wp2_with fail
   go_ret
   exact ⟨rfl,Xt e0 e2⟩
def Zju (p:Cl×Int->Bool):List (Cl×Int)->Nat->Int
 | [],_=>-1
 | x::l,k=>if p x then (k:Int) else Zju p l (k+1)
theorem idxC_cons (p:Cl×Int->Bool) (x:Cl×Int) (l:List (Cl×Int)) (k:Nat):Zju p (x::l) k=if p x then (k:Int) else Zju p l (k+1):=rfl
theorem Zo1 (p:Cl×Int->Bool):∀(l:List (Cl×Int)) (k:Nat),decide (0<=Zju p l k)=l.any p
 | [],_=>rfl
 | x::l,k=>by
   unfold Zju
   rw [List.any_cons]
   by_cases h:p x=true
   ·rw [if_pos h,h]
    simp
   rw [if_neg h,Zo1 p l (k+1)]
   rw [Bool.not_eq_true] at h
   rw [h,Bool.false_or]
theorem Zkq (v:Value) (l:List (Cl×Int)) (c:Cl) (b:Nat) (w:World) (h:Z4 w 4 v l.length (l.flatMap Yr)) (hb:w.heap[b]? =some (.cells c.cells.toArray 73 (0,0))) (hx:∀x∈l,J2 w x.1) (hc:J2 w c):
 Calls Tryz.prog 160 #[v,.func (.func 113) #[] #[.pointer (some ⟨b,0,none⟩)]] w (Ret (.int .i64 (Zju (fun x=>x.1.nm==c.nm&&Um x.1.st c.st) l 0)) w):=by
 obtain ⟨A,cap,rfl,h1,h2,h3,h4⟩:=h
 have hn63:(l.length:Int)<=9223372036854775807:=by unfold maxLen at h2;omega
 obtain ⟨p,hp⟩:∃p:Cl×Int->Bool,p=fun x=>x.1.nm==c.nm&&Um x.1.st c.st:=⟨_,rfl⟩
 have cp:=fun x (hm:x∈l) W (k:Ext w W)=>Zr7 x c b W (k.at hb) ((hx x hm).ext k) (hc.ext k)
 have hpx:∀x,(x.1.nm==c.nm&&Um x.1.st c.st)=p x:=fun x=>by rw [hp]
 simp only [hpx] at cp ⊢
 clear hp hpx hb hx hc
 go_enter Tryz.func160,Tryz.ntmps160
 go_wp2
 go_loopw [5,8] (fun _ i wr=>∃k:Nat,k<=l.length/\i= .int .i64 k/\Ext w wr/\Zju p l 0=Zju p (l.drop k) k) (fun _ i _=>l.length-(intOf i).toNat)
 case atStart=>exact ⟨0,Nat.zero_le _,rfl,Ext.refl _,rfl⟩
 obtain ⟨k,hk,rfl,e1,hid⟩:=hrel
 by_cases hkn:k<l.length
 ·rw [List.drop_eq_getElem_cons hkn,idxC_cons] at hid
  rcases h4 with h4 | ⟨g,off,rfl,hlt,hcell⟩
  ·omega
  have hj1:(0:Int)<=(k:Int):=by omega
  have hj2:(k:Int)<(l.length:Int):=by omega
  have hld:=load_ca wr g off k l hkn (fun j u hu=>(Zh (e1.block hlt)).trans (hcell j u hu))
  have cp1:=cp _ (List.getElem_mem hkn) wr e1
  clear cp hcell
  generalize (l[k]'hkn)=x at *
  by_cases hq:p x=true
  ·rw [if_pos hq] at hid
   rw [hq] at cp1
   have HID:=Lib.hid hid
   clear hid
   obtain ⟨⟨xc,xn,xv,xs⟩,xt⟩:=x
   simp only [Zl4] at hld cp1
   go_wp2_with (first | (refine Zd rfl 155 _ _ _ rfl rfl hld ?_))
   refine cp1.mono ?_
   rintro e w5 ⟨rfl,e5⟩
   go_wp2
   go_ret
   exact ⟨by show _=Ending.returned (.int .i64 (Zju p l 0));rw [HID.out];rfl,Xt e1 e5⟩
  rw [if_neg hq] at hid
  rw [Bool.not_eq_true] at hq
  rw [hq] at cp1
  have HID:=Lib.hid hid
  clear hid
  obtain ⟨⟨xc,xn,xv,xs⟩,xt⟩:=x
  simp only [Zl4] at hld cp1
  go_wp2_with (first | (refine Zd rfl 155 _ _ _ rfl rfl hld ?_))
  refine cp1.mono ?_
  rintro e w5 ⟨rfl,e5⟩
  go_wp2
  exact ⟨⟨k+1,by omega,by go_num,Xt e1 e5,HID.out⟩,by simp [intOf];omega⟩
 have hk':k=l.length:=by omega
 subst hk'
 rw [List.drop_length] at hid
 have HID:=Lib.hid hid
 clear hid
 go_wp2
 go_ret
 exact ⟨by show _=Ending.returned (.int .i64 (Zju p l 0));rw [HID.out];rfl,e1⟩
theorem Zkr (v:Value) (l:List (Cl×Int)) (c:Cl) (b:Nat) (w:World) (h:Z4 w 4 v l.length (l.flatMap Yr)) (hb:w.heap[b]? =some (.cells c.cells.toArray 73 (0,0))) (hx:∀x∈l,J2 w x.1) (hc:J2 w c):
 Calls Tryz.prog 115 #[v,.func (.func 113) #[] #[.pointer (some ⟨b,0,none⟩)]] w (Ret (.bool (l.any fun x=>x.1.nm==c.nm&&Um x.1.st c.st)) w):=by
 have hi:=Zkq v l c b w h hb hx hc
 have ha:=Zo1 (fun x=>x.1.nm==c.nm&&Um x.1.st c.st) l 0
 obtain ⟨A,cap,rfl,_⟩:=h
 rw [<-ha]
 generalize Zju (fun x=>x.1.nm==c.nm&&Um x.1.st c.st) l 0=ix at *
 clear ha
 go_enter Tryz.func115,Tryz.ntmps115
 go_wp2_with fail
 refine hi.mono ?_
 rintro e w1 ⟨rfl,e1⟩
 go_wp2
 go_ret
 exact ⟨rfl,e1⟩
structure His (w:World) (hb m:Nat) (calls:List (Cl×Int)) (ans:List An) (o:List Cl) (cv av ov:Value):Prop where
 row:w.heap[hb]? =some (.cells #[cv,av,ov,.map (some m)] 159 (0,0))
 cs:Z4 w 4 cv calls.length (calls.flatMap Yr)
 as_:Z4 w 6 av ans.length (ans.flatMap An.cells)
 os:Z4 w 3 ov o.length (o.flatMap Cl.cells)
 cok:∀x∈calls,J2 w x.1
 aok:∀a∈ans,AnR w a
 ook:∀c∈o,J2 w c
 mp:∃l,Zkd w m l/\∀n,lkN l n=(Yc o n).map Int.ofNat
theorem His.ext {w w':World} {hb m:Nat} {calls:List (Cl×Int)} {ans:List An} {o:List Cl} {cv av ov:Value} (h:His w hb m calls ans o cv av ov) (k:Ext w w'):His w' hb m calls ans o cv av ov:=
 ⟨k.at h.row,h.cs.ext k,h.as_.ext k,h.os.ext k,fun x hx=>(h.cok x hx).ext k,fun a ha=>(h.aok a ha).ext k,fun c hc=>(h.ook c hc).ext k,let ⟨l,h1,h2⟩:=h.mp;⟨l,h1.ext k,h2⟩⟩
theorem His.look {w:World} {hb m:Nat} {calls:List (Cl×Int)} {ans:List An} {o:List Cl} {cv av ov:Value} (h:His w hb m calls ans o cv av ov) (n:Nm):
 (Instr.lookup 157 (.map (some m)) (nmV n) false).run Tryz.prog w= .ok (.int .i64 (((Yc o n).getD 0:Nat):Int)) w:=by
 obtain ⟨l,h1,h2⟩:=h.mp
 rw [Zk3 m l n false w h1,h2]
 cases Yc o n<;>rfl
theorem His.lookB {w:World} {hb m:Nat} {calls:List (Cl×Int)} {ans:List An} {o:List Cl} {cv av ov:Value} (h:His w hb m calls ans o cv av ov) (n:Nm):
 (Instr.lookup 157 (.map (some m)) (nmV n) true).run Tryz.prog w= .ok (.tuple #[.int .i64 (((Yc o n).getD 0:Nat):Int),.bool (Yc o n).isSome]) w:=by
 obtain ⟨l,h1,h2⟩:=h.mp
 rw [Zk3 m l n true w h1,h2]
 cases Yc o n<;>rfl
theorem Zhc (hb m:Nat) (calls:List (Cl×Int)) (ans:List An) (o:List Cl) (cv av ov:Value) (a:An) (w:World) (h:His w hb m calls ans o cv av ov):
 Calls Tryz.prog 117 #[.pointer (some ⟨hb,0,none⟩),Zfu a] w (Ret (.tuple #[.int .i64 (((Yc o a.nm).getD 0:Nat):Int),.bool (Yc o a.nm).isSome]) w):=by
 obtain ⟨ac,an,ae,ai,agv,ag,at_⟩:=a
 unfold Zfu An.nm
 simp only
 have e0:=Zc w (.cells #[.int .u8 ac,.int .u64 an,.int .i64 ae,.int .i64 ai,agv,.int .u64 at_] 71)
 have h0:=Zb w (.cells #[.int .u8 ac,.int .u64 an,.int .i64 ae,.int .i64 ai,agv,.int .u64 at_] 71)
 have hh:=h.ext e0
 have hlk:=fun W (k:Ext (w.alloc (.cells #[.int .u8 ac,.int .u64 an,.int .i64 ae,.int .i64 ai,agv,.int .u64 at_] 71)) W)=>(hh.ext k).lookB (ac,an)
 have hrw:=hh.row
 simp only [nmV] at hlk
 generalize (((Yc o (ac,an)).getD 0:Nat):Int)=pl at *
 generalize (Yc o (ac,an)).isSome=ps at *
 generalize hW:w.alloc (.cells #[.int .u8 ac,.int .u64 an,.int .i64 ae,.int .i64 ai,agv,.int .u64 at_] 71)=W at *
 have HW:=Lib.hid hW
 clear hW h hh
 go_enter Tryz.func117,Tryz.ntmps117
 go_wp2_with fail
 rw [HW.out]
 refine Z1 Zk [] (by kernel_rfl) (by kernel_rfl) ?_
 intro w1 hw1
 have y0:=fun u:ExtOf w1=>Za (j:=0) ((Xt hw1 u.h).at h0) rfl
 have y1:=fun u:ExtOf w1=>Za (j:=1) ((Xt hw1 u.h).at h0) rfl
 have r3:=fun u:ExtOf w1=>Za (j:=3) ((Xt hw1 u.h).at hrw) rfl
 have lk:=fun u:ExtOf w1=>hlk u.to (Xt hw1 u.h)
 clear hlk
 simp only [Zj,Rg.hsB,Nat.reduceAdd,↓reduceIte]
 repeat (go_big_quiet_step ((fail)))
 refine wpQuiet_nil ?_
 refine Y3 (by kernel_rfl) ?_
 intro w2 e2 e2'
 try simp only [Act.put,Rg.puC,Rg.puB]
 clear y0 y1 r3 lk
 go_wp2_with fail
 go_ret2
 exact ⟨rfl,Xt e0 e2⟩
theorem Zoy (hb m:Nat) (calls:List (Cl×Int)) (ans:List An) (o:List Cl) (cv av ov:Value) (i:Nat) (hi:i<o.length) (w:World) (h:His w hb m calls ans o cv av ov):
 Calls Tryz.prog 64 #[.pointer (some ⟨hb,0,none⟩),.int .i64 (i:Int)] w (Ret (.int .u8 (Zki calls o (o[i]'hi) i)) w):=by
 have hc:=h.ook _ (List.getElem_mem hi)
 obtain ⟨A,cap,hov,o1,o2,o3,o4⟩:=h.os
 subst hov
 have hn63:(o.length:Int)<=9223372036854775807:=by unfold maxLen at o2;omega
 rcases o4 with o4 | ⟨g,off,rfl,hlt,hcell⟩
 ·omega
 have hld:=fun W (k:Ext w W)=>Zds W g off i o hi (fun j u hu=>(Zh (k.block hlt)).trans (hcell j u hu))
 generalize (o[i]'hi)=c at *
 obtain ⟨r,hr⟩:∃r,Zki calls o c i=r:=⟨_,rfl⟩
 have hw:(if calls.any (fun x=>x.1.nm==c.nm&&Um x.1.st c.st) then (if (Yc o c.nm).getD 0<i then 2 else 0) else 1)=r:=hr
 rw [hr]
 clear hr
 have r2:=Za (j:=2) h.row rfl
 have hj1:(0:Int)<=(i:Int):=by omega
 have hj2:(i:Int)<(o.length:Int):=by omega
 have hca:=fun (b:Nat) (W:World) (k:Ext w W) (hb:W.heap[b]? =some (.cells c.cells.toArray 73 (0,0)))=>Zkr cv calls c b W (h.cs.ext k) hb (fun x hx=>(h.cok x hx).ext k) (hc.ext k)
 have hlk:=fun W (k:Ext w W)=>(h.ext k).look c.nm
 obtain ⟨CA,ccap,hcv,_⟩:=h.cs
 subst hcv
 have hrow:=h.row
 have hnm:=fun W=>Zbz c.cl c.nu c.v W
 have hlc:=fun (b:Nat) (W:World) (hb:W.heap[b]? =some (.cells c.cells.toArray 73 (0,0)))=>Zgj hb
 have hld0:=hld w (Ext.refl _)
 clear hcell o1 o2 o3 hld
 obtain ⟨cc,cn,cvv,cst⟩:=c
 have hcs:∃A n cap,cvv= .slice A n cap:=let ⟨A,cap,h,_⟩:=hc.1;⟨A,_,cap,h⟩
 obtain ⟨CV,cvn,cvc,rfl⟩:=hcs
 simp only [Jf,Cl.cells,Cl.nm,nmV] at *
 obtain ⟨bc,hbc⟩:∃bc,(calls.any fun x=>(x.1.cl,x.1.nu)==(cc,cn)&&Um x.1.st cst)=bc:=⟨_,rfl⟩
 obtain ⟨pl,hpl⟩:∃pl,(Yc o (cc,cn)).getD 0=pl:=⟨_,rfl⟩
 simp only [hbc,hpl] at hw hca hlk
 have HWR:=Lib.hid hw
 clear hbc hpl hw
 go_enter Tryz.func64,Tryz.ntmps64
 go_wp2_with (first
  | (refine Zd rfl 73 _ _ _ rfl rfl hld0 ?_)
  | (refine Zr rfl 73 rfl (.cells #[.int .u8 0,.int .u64 0,.slice none 0 0] 73) _ rfl (by go_simp) ?_
     intro w1 e1 h1)
  | (refine Ze rfl rfl 73 _ _ rfl w.heap.size _ rfl rfl 73 _ h1 (by kernel_rfl) (by rfl) (by rfl) ?_
     intro w2 hb2 ho2 h2
     have e2:Ext w w2:=hb2 _ _ (Nat.le_refl _) e1
     have r0:=Za (j:=0) (e2.at hrow) rfl))
 refine (hca _ w2 e2 h2).mono ?_
 rintro e w3 ⟨rfl,e3⟩
 have E3:=Xt e2 e3
 have h3:=e3.at h2
 clear hca r0 r2 h2 h1 ho2 hb2 hld0
 cases bc with
 | false=>
   go_wp2_with fail
   go_ret
   exact ⟨by rw [<-HWR.out];rfl,E3⟩
 | true=>
   go_wp2_with fail
   refine Z1 Zk [] (by kernel_rfl) (by kernel_rfl) ?_
   intro w1 hw1
   have l1:=fun wq (hq:Cls w1 wq)=>hlc _ wq ((Xt hw1 (Xe hq)).at h3)
   have r3:=fun u:ExtOf w1=>Za (j:=3) ((Xt E3 (Xt hw1 u.h)).at hrow) rfl
   have lk:=fun u:ExtOf w1=>hlk u.to (Xt E3 (Xt hw1 u.h))
   have hnu:=fun u:ExtOf w1=>hnm u.to
   clear hlk hlc
   simp only [Zj,Rg.hsB,Nat.reduceAdd,↓reduceIte]
   repeat (first | go_big_quiet_step ((go_at_call 63;exact Ret.cls (hnu _))) | (go_big_quiet_want;(refine Zu 73 _ _ _ rfl rfl l1 ?_);go_big_quiet_on;simp only [Act.put,Rg.puB]))
   refine wpQuiet_nil ?_
   refine Y3 (by kernel_rfl) ?_
   intro w4 e4 e4'
   try simp only [Act.put,Rg.puC,Rg.puB]
   clear l1 r3 lk hnu
   by_cases hp:pl<i
   focus have hd:decide ((pl:Int)<(i:Int))=true:=by simpa using hp
   rotate_left
   focus have hd:decide ((pl:Int)<(i:Int))=false:=by simpa using hp
   all_goals
    go_wp2_with fail
    go_ret
    exact ⟨by rw [<-HWR.out];simp [hp],Xt E3 e4⟩
def Xd (x:Rep×Value):List Value:=[.int .i64 x.1.1,.int .i64 x.1.2.1,x.2]
def Zn1 (x:Rep×Value):Value:= .agg #[.int .i64 x.1.1,.int .i64 x.1.2.1,x.2]
def RpOk (w:World) (x:Rep×Value):Prop:=Z4 w 2 x.2 x.1.2.2.length (gtC x.1.2.2)
def RpSl (w:World) (v:Value) (rs:List (Rep×Value)):Prop:=Z4 w 3 v rs.length (rs.flatMap Xd)/\∀x∈rs,RpOk w x
theorem RpSl.ext {w w':World} {v:Value} {rs:List (Rep×Value)} (h:RpSl w v rs) (k:Ext w w'):RpSl w' v rs:=⟨h.1.ext k,fun x hx=>Z4.ext (h.2 x hx) k⟩
theorem Zeg (l:List (Rep×Value)) (k j:Nat) (hk:k<l.length) (hj:j<3):(l.flatMap Xd)[k*3+j]? =(Xd (l[k]'hk))[j]? :=J9 Xd 3 (fun _=>rfl) l k j hk hj
theorem Zfb (w:World) (g off k:Nat) (l:List (Rep×Value)) (hk:k<l.length) (h:∀j u,(l.flatMap Xd)[j]? =some u->w.cell? ⟨g,off+j,none⟩=some u):
 (loadVar 38 ⟨g,off+k*3,none⟩).run Tryz.prog w= .ok (Zn1 (l[k]'hk)) w:=
 Zm w g (off+k*3) 38 (Xd (l[k]'hk)) _ (fun j u hu=>by
  have hj:j<3:=(List.getElem?_eq_some_iff.1 hu).1
  rw [Nat.add_assoc]
  exact h _ _ ((Zeg l k j hk hj).trans hu)) Tryz.underlying38 rfl (by kernel_rfl)
theorem Zq2 (w:World) (g off k:Nat) (l:List An) (hk:k<l.length) (h:∀j u,(l.flatMap An.cells)[j]? =some u->w.cell? ⟨g,off+j,none⟩=some u):
 (loadVar 38 ⟨g,off+k*6+2,none⟩).run Tryz.prog w= .ok (.agg #[.int .i64 (l[k]'hk).e,.int .i64 (l[k]'hk).i,(l[k]'hk).v]) w:=
 Zm w g (off+k*6+2) 38 [.int .i64 (l[k]'hk).e,.int .i64 (l[k]'hk).i,(l[k]'hk).v] _ (fun j u hu=>by
  have hj:j<3:=(List.getElem?_eq_some_iff.1 hu).1
  rw [show off+k*6+2+j=off+(k*6+(2+j)) by omega]
  refine h _ _ ((Zch l k (2+j) hk (by omega)).trans ?_)
  rcases (show j=0\/j=1\/j=2 by omega) with rfl | rfl | rfl<;>exact hu) Tryz.underlying38 rfl (by kernel_rfl)
def Zsf (b1 b2:Nat):Array Value:=#[.pointer (some ⟨b1,0,none⟩),.pointer (some ⟨b2,0,none⟩)]
theorem Zp0 (h:Option Addr) (rv:Value) (w:World) (hr:∃A n cap,rv= .slice A n cap):Calls Tryz.prog 65 #[.pointer h,rv] w
 (fun e w'=>∃b1 b2,e= .returned (.func (.func 116) #[] (Zsf b1 b2))/\Ext w w'/\w'.heap[b1]? =some (.cells #[.pointer h] 156 (0,0))/\w'.heap[b2]? =some (.cells #[rv] 74 (0,0))):=by
 obtain ⟨A,n,cap,rfl⟩:=hr
 have e0:=Zc w (.cells #[.pointer h] 156)
 have h0:=Zb w (.cells #[.pointer h] 156)
 have s0:=size_alloc w (.cells #[.pointer h] 156)
 have e1:=Zc (w.alloc (.cells #[.pointer h] 156)) (.cells #[.slice A n cap] 74)
 have h1:=Zb (w.alloc (.cells #[.pointer h] 156)) (.cells #[.slice A n cap] 74)
 rw [s0] at h1
 go_enter Tryz.func65,Tryz.ntmps65
 go_wp2
 go_ret
 exact ⟨_,_,rfl,Xt e0 e1,e1.at h0,h1⟩
theorem Znd (hb m b1 b2:Nat) (calls:List (Cl×Int)) (ans:List An) (o:List Cl) (cv av ov rv:Value) (rs:List (Rep×Value)) (i:Nat) (hi:i<ans.length) (w:World) (h:His w hb m calls ans o cv av ov)
 (h1:w.heap[b1]? =some (.cells #[.pointer (some ⟨hb,0,none⟩)] 156 (0,0))) (h2:w.heap[b2]? =some (.cells #[rv] 74 (0,0))) (hr:RpSl w rv rs) (hrl:rs.length=o.length):
 Calls Tryz.prog 116 #[.int .i64 (i:Int),.pointer (some ⟨b1,0,none⟩),.pointer (some ⟨b2,0,none⟩)] w (Ret (.int .u8 (Zev o (rs.map (·.1)) (ans[i]'hi))) w):=by
 have hak:=h.aok _ (List.getElem_mem hi)
 obtain ⟨A,cap,hav,a1,a2,a3,a4⟩:=h.as_
 subst hav
 have hn63:(ans.length:Int)<=9223372036854775807:=by unfold maxLen at a2;omega
 rcases a4 with a4 | ⟨ga,off,rfl,hlt,hcell⟩
 ·omega
 have hld:=fun W (k:Ext w W)=>load_an W ga off i ans hi (fun j u hu=>(Zh (k.block hlt)).trans (hcell j u hu))
 have hlr:=fun W (k:Ext w W)=>Zq2 W ga off i ans hi (fun j u hu=>(Zh (k.block hlt)).trans (hcell j u hu))
 have hpl:=fun W (k:Ext w W)=>Zhc hb m calls ans o cv _ ov (ans[i]'hi) W (h.ext k)
 have hj1:(0:Int)<=(i:Int):=by omega
 have hj2:(i:Int)<(ans.length:Int):=by omega
 have hrow:=h.row
 generalize (ans[i]'hi)=a at *
 unfold Zev
 clear hcell a1 a2 a3 h
 obtain ⟨ac,an,ae,ai,agv,ag,at_⟩:=a
 simp only [Zfu,An.nm] at *
 obtain ⟨RA,rcap,rfl,q1,q2,q3,q4⟩:=hr.1
 cases hf:Yc o (ac,an) with
 | none=>
   simp only [hf,Option.getD_none,Option.isSome_none] at hpl ⊢
   clear hf
   go_enter Tryz.func116,Tryz.ntmps116
   go_wp2_with fail
   refine Z1 Zk [] (by kernel_rfl) (by kernel_rfl) ?_
   intro w1 hw1
   have l1:=fun wq (hq:Cls w1 wq)=>hld wq (Xt hw1 (Xe hq))
   have r1:=fun u:ExtOf w1=>Za (j:=1) ((Xt hw1 u.h).at hrow) rfl
   have x1:=fun u:ExtOf w1=>Za (j:=0) ((Xt hw1 u.h).at h1) rfl
   have hplu:=fun u:ExtOf w1=>hpl u.to (Xt hw1 u.h)
   simp only [Zj,Rg.hsB,Nat.reduceAdd,↓reduceIte]
   repeat (first | go_big_quiet_step ((go_at_call 117;exact Ret.cls (hplu _))) | (go_big_quiet_want;(refine Zu 71 _ _ _ rfl rfl l1 ?_);go_big_quiet_on;simp only [Act.put,Rg.puB]))
   refine wpQuiet_nil ?_
   refine Y3 (by kernel_rfl) ?_
   intro w2 e2 e2'
   try simp only [Act.put,Rg.puC,Rg.puB]
   clear l1 r1 x1 hplu hw1 hpl hld
   go_wp2_with fail
   go_ret
   exact ⟨rfl,e2⟩
 | some p=>
   simp only [hf,Option.getD_some,Option.isSome_some] at hpl ⊢
   have hp:p<rs.length:=by rw [hrl];exact (Zrq hf).1
   rcases q4 with q4 | ⟨gr,offr,rfl,hltr,hcellr⟩
   ·omega
   have hlo:=fun W (k:Ext w W)=>Zfb W gr offr p rs hp (fun j u hu=>(Zh (k.block hltr)).trans (hcellr j u hu))
   have hrk:=hr.2 _ (List.getElem_mem hp)
   rw [List.getElem?_map,List.getElem?_eq_getElem hp]
   simp only [Option.map_some,Option.getD_some]
   have hm63:(rs.length:Int)<=9223372036854775807:=by unfold maxLen at q2;omega
   have hp1:(0:Int)<=(p:Int):=by omega
   have hp2:(p:Int)<(rs.length:Int):=by omega
   generalize (rs[p]'hp)=r at *
   clear hf hr hcellr q1 q2 q3
   obtain ⟨⟨re,ri,rg⟩,rgv⟩:=r
   simp only [Zn1] at *
   have heq:=fun W (k:Ext w W)=>eqgt_any agv rgv ag rg W (Z4.ext hak k) (Z4.ext hrk k)
   have hagv:∃A n cap,agv= .slice A n cap:=let ⟨A,cap,h,_⟩:=hak;⟨A,_,cap,h⟩
   have hrgv:∃A n cap,rgv= .slice A n cap:=let ⟨A,cap,h,_⟩:=hrk;⟨A,_,cap,h⟩
   obtain ⟨A1,n1,cap1,rfl⟩:=hagv
   obtain ⟨A2,n2,cap2,rfl⟩:=hrgv
   clear hak hrk
   obtain ⟨r,hwr⟩:∃r:Int,(if (re,ri,rg)=(ae,ai,ag) then 0 else 4)=r:=⟨_,rfl⟩
   rw [hwr]
   have HWR:=Lib.hid hwr
   clear hwr
   go_enter Tryz.func116,Tryz.ntmps116
   go_wp2_with fail
   refine Z1 Zk [] (by kernel_rfl) (by kernel_rfl) ?_
   intro w1 hw1
   have l1:=fun wq (hq:Cls w1 wq)=>hld wq (Xt hw1 (Xe hq))
   have r1:=fun u:ExtOf w1=>Za (j:=1) ((Xt hw1 u.h).at hrow) rfl
   have x1:=fun u:ExtOf w1=>Za (j:=0) ((Xt hw1 u.h).at h1) rfl
   have hplu:=fun u:ExtOf w1=>hpl u.to (Xt hw1 u.h)
   simp only [Zj,Rg.hsB,Nat.reduceAdd,↓reduceIte]
   repeat (first | go_big_quiet_step ((go_at_call 117;exact Ret.cls (hplu _))) | (go_big_quiet_want;(refine Zu 71 _ _ _ rfl rfl l1 ?_);go_big_quiet_on;simp only [Act.put,Rg.puB]))
   refine wpQuiet_nil ?_
   refine Y3 (by kernel_rfl) ?_
   intro w2 e2 e2'
   try simp only [Act.put,Rg.puC,Rg.puB]
   clear l1 r1 x1 hplu hw1 hpl hld
   go_wp2_with fail
   -- the two replies are laid beside each other
   refine Zf Zk 15 [12,13,14] (by kernel_rfl) (by kernel_rfl) ?_
   intro w1 hw1
   have l2:=fun wq (hq:Cls w1 wq)=>hlr wq (Xt e2 (Xt hw1 (Xe hq)))
   have l3:=fun wq (hq:Cls w1 wq)=>hlo wq (Xt e2 (Xt hw1 (Xe hq)))
   have r1:=fun u:ExtOf w1=>Za (j:=1) ((Xt e2 (Xt hw1 u.h)).at hrow) rfl
   have x1:=fun u:ExtOf w1=>Za (j:=0) ((Xt e2 (Xt hw1 u.h)).at h1) rfl
   have x2:=fun u:ExtOf w1=>Za (j:=0) ((Xt e2 (Xt hw1 u.h)).at h2) rfl
   simp only [Zj,Rg.hsB,Nat.reduceBEq,Nat.reduceAdd,↓reduceIte]
   repeat (first | go_big_quiet_step (fail) | (go_big_quiet_want;(first | refine Zu 38 _ _ _ rfl rfl l2 ?_ | refine Zu 38 _ _ _ rfl rfl l3 ?_);go_big_quiet_on;simp only [Act.put,Rg.puB]))
   refine wpQuiet_nil ?_
   refine Znm 12 13 _ _ (.cells #[.int .i64 0,.int .i64 0,.slice none 0 0] 38) (.cells #[.int .i64 0,.int .i64 0,.slice none 0 0] 38) (fun a w=> ?_) (fun a w=> ?_) rfl rfl (by kernel_rfl) (by kernel_rfl) (by kernel_rfl) (by decide) (by decide) (by decide) rfl rfl (by decide) ?_
   ·simp [go_sem]
   ·simp [go_sem]
   intro s t w3 h03 h3 hs0 ht0 hs ht hst hsb htb
   refine Z0 14 _ 38 _ _ rfl rfl rfl (by kernel_rfl) (by decide) rfl s _ rfl rfl 38 _ (by kernel_rfl) (by rfl) (by rfl) hsb hs0 ?_
   intro w4 h04 hk4 hs4
   refine Zi (by kernel_rfl) ?_
   intro w5 e5 e5'
   simp only [Act.put,Rg.puB]
   have ht5:=e5'.at (hk4 _ _ (Ne.symm hst) htb)
   have hs5:=e5'.at hs4
   refine Ze rfl rfl 38 _ _ rfl t _ rfl rfl 38 _ ht5 (by kernel_rfl) (by rfl) (by rfl) ?_
   intro w6 hb6 hk6 ht6
   have E6:Ext w w6:=Xt e2 (hb6 _ _ ht0 e5)
   have hs6:=(hk6 _ hst).trans hs5
   have c10:=Za hs6 (j:=0) rfl
   have c11:=Za hs6 (j:=1) rfl
   have c12:=Za hs6 (j:=2) rfl
   have c20:=Za ht6 (j:=0) rfl
   have c21:=Za ht6 (j:=1) rfl
   have c22:=Za ht6 (j:=2) rfl
   clear l2 l3 r1 x1 x2 hlr hlo hs6 ht6 hs5 ht5 hk6 hb6 hs4 hk4 h04 htb hsb h03 h3 e5 e5' hw1
   by_cases g1:ae=re
   ·have f1:(ae !=re)=false:=by simp [g1]
    by_cases g2:ai=ri
    ·have f2:(ai !=ri)=false:=by simp [g2]
     have heq6:=heq w6 E6
     cases g3:(ag==rg) with
     | true=>
       rw [g3] at heq6
       go_wp2_with fail
       refine heq6.mono ?_
       rintro e w7 ⟨rfl,e7⟩
       go_wp2_with fail
       go_ret
       exact ⟨by rw [<-HWR.out,if_pos (by rw [g1,g2,show ag=rg by simpa using g3])];rfl,Xt E6 e7⟩
     | false=>
       rw [g3] at heq6
       go_wp2_with fail
       refine heq6.mono ?_
       rintro e w7 ⟨rfl,e7⟩
       go_wp2_with fail
       go_ret
       refine ⟨?_,Xt E6 e7⟩
       rw [<-HWR.out,if_neg]
       ·rfl
       intro he
       have h3:rg=ag:=by injection he with _ he;injection he
       rw [h3] at g3
       simp at g3
    have f2:(ai !=ri)=true:=by simpa using g2
    go_wp2_with fail
    go_ret
    refine ⟨?_,E6⟩
    rw [<-HWR.out,if_neg]
    ·rfl
    intro he
    exact g2 (by injection he with _ he;injection he with he _;exact he.symm)
   have f1:(ae !=re)=true:=by simpa using g1
   go_wp2_with fail
   go_ret
   refine ⟨?_,E6⟩
   rw [<-HWR.out,if_neg]
   ·rfl
   intro he
   exact g1 (by injection he with he _;exact he.symm)
theorem Zre (hb m:Nat) (calls:List (Cl×Int)) (ans:List An) (o:List Cl) (cv av ov:Value) (i:Nat) (hi:i<ans.length) (w:World) (h:His w hb m calls ans o cv av ov):
 Calls Tryz.prog 66 #[.pointer (some ⟨hb,0,none⟩),.int .i64 (i:Int)] w (Ret (.int .u8 (Zhq calls o (ans[i]'hi))) w):=by
 obtain ⟨A,cap,hav,a1,a2,a3,a4⟩:=h.as_
 subst hav
 have hn63:(ans.length:Int)<=9223372036854775807:=by unfold maxLen at a2;omega
 rcases a4 with a4 | ⟨ga,off,rfl,hlt,hcell⟩
 ·omega
 have hld:=load_an w ga off i ans hi (fun j u hu=>hcell j u hu)
 have hat:=fun W (k:Ext w W)=>(Zh (a:=⟨ga,off+i*6+5,none⟩) (k.block hlt)).trans (hcell (i*6+5) _ (Zch ans i 5 hi (by omega)))
 have hpl:=Zhc hb m calls ans o cv _ ov (ans[i]'hi) w h
 have hj1:(0:Int)<=(i:Int):=by omega
 have hj2:(i:Int)<(ans.length:Int):=by omega
 have hrow:=h.row
 have r0:=Za (j:=0) hrow rfl
 have r1:=Za (j:=1) hrow rfl
 obtain ⟨CA,ccap,hcv,c1,c2,c3,c4⟩:=h.cs
 subst hcv
 have hm63:(calls.length:Int)<=9223372036854775807:=by unfold maxLen at c2;omega
 generalize (ans[i]'hi)=a at *
 obtain ⟨ac,an,ae,ai,agv,ag,at_⟩:=a
 simp only [Zfu,An.nm] at *
 unfold Zhq
 obtain ⟨pa,hpa⟩:∃pa,(Yc o (ac,an)).getD 0=pa:=⟨_,rfl⟩
 obtain ⟨lt,hlt'⟩:∃lt:Cl×Int->Bool,∀x,Zji o ⟨ac,an,ae,ai,agv,ag,at_⟩ x=lt x:=⟨_,fun _=>rfl⟩
 have hltx:∀x,lt x=(match Yc o x.1.nm with | none=>false | some p=>decide (at_<x.2)&&decide (p<pa)):=fun x=>by rw [<-hlt',<-hpa];rfl
 have hfe:(Zji o ⟨ac,an,ae,ai,agv,ag,at_⟩)=lt:=funext hlt'
 rw [hfe]
 rw [hpa] at hpl
 obtain ⟨r,hwr⟩:∃r:Int,(if calls.any lt then 5 else 0)=r:=⟨_,rfl⟩
 rw [hwr]
 have HWR:=Lib.hid hwr
 clear hwr
 generalize (Yc o (ac,an)).isSome=pb at *
 have HH:=Lib.hid h
 have HAT:=Lib.hid hat
 clear hpa hlt' hfe hcell a1 a2 a3 c1 c2 c3 hat h
 go_enter Tryz.func66,Tryz.ntmps66
 go_wp2_with (refine Zd rfl 71 _ _ _ rfl rfl hld ?_)
 refine hpl.mono ?_
 rintro e w2 ⟨rfl,e2⟩
 have r0:=Za (j:=0) (e2.at hrow) rfl
 clear r1 hpl hld
 go_wp2_with fail
 go_loopw [8,9,10,28,29,30,31,32,33,34,35,36,37,38,39,40,41,42,43,44,45,46,47,48,49,50,51,52,53,54,55,56,57,58,59,60,61,62] (fun _ _ _ iv _ _ _ _ _ _ _ _ _ _ _ _ _ _ _ _ _ _ _ _ _ _ _ _ _ _ _ _ _ _ _ _ _ _ wr=>∃k:Nat,k<=calls.length/\iv= .int .i64 k/\Ext w wr/\calls.any lt=(calls.drop k).any lt) (fun _ _ _ iv _ _ _ _ _ _ _ _ _ _ _ _ _ _ _ _ _ _ _ _ _ _ _ _ _ _ _ _ _ _ _ _ _ _ _=>calls.length-(intOf iv).toNat)
 case atStart=>exact ⟨0,Nat.zero_le _,rfl,e2,rfl⟩
 clear r0
 obtain ⟨k,hk,rfl,er,hid⟩:=hrel
 by_cases hkn:k<calls.length
 ·rw [List.drop_eq_getElem_cons hkn,List.any_cons] at hid
  rcases c4 with c4 | ⟨gc,offc,rfl,hltc,hcellc⟩
  ·omega
  have hk1:(0:Int)<=(k:Int):=by omega
  have hk2:(k:Int)<(calls.length:Int):=by omega
  have hlc:=load_ca wr gc offc k calls hkn (fun j u hu=>(Zh (er.block hltc)).trans (hcellc j u hu))
  have hlx:=hltx (calls[k]'hkn)
  have hlb:=fun W (k':Ext w W)=>(HH.out.ext k').lookB (calls[k]'hkn).1.nm
  have hck:=HH.out.cok _ (List.getElem_mem hkn)
  generalize (calls[k]'hkn)=x at *
  obtain ⟨⟨xc,xn,xv,xs⟩,xt⟩:=x
  have hxs:∃A n cap,xv= .slice A n cap:=let ⟨A,cap,h,_⟩:=hck.1;⟨A,_,cap,h⟩
  obtain ⟨XV,xvn,xvc,rfl⟩:=hxs
  clear hck
  simp only [Zl4,Cl.nm,nmV] at hlc hlx hlb
  have hnm:=fun W=>Zbz xc xn (.slice XV xvn xvc) W
  simp only [nmV] at hnm
  have HID:=Lib.hid hid
  have HLX:=Lib.hid hlx
  clear hid hcellc hltx hlx
  go_wp2_with (first
   | (refine Zd rfl 155 _ _ _ rfl rfl hlc ?_)
   | (refine Zr rfl 155 rfl (.cells #[.int .u8 0,.int .u64 0,.slice none 0 0,.int .u64 0] 155) _ rfl (by go_simp) ?_
      intro w3 e3 h3)
   | (refine Ze rfl rfl 155 _ _ rfl wr.heap.size _ rfl rfl 155 _ h3 (by kernel_rfl) (by rfl) (by rfl) ?_
      intro w4 hb4 ho4 h4))
  have e4:Ext wr w4:=hb4 _ _ (Nat.le_refl _) e3
  have E4:=Xt er e4
  clear hlc h3 ho4 hb4 e3
  have hlca:∀W,Ext w4 W->(loadVar 73 ⟨wr.heap.size,0,none⟩).run Tryz.prog W=_:=fun W k'=>Zlm (x:=(⟨xc,xn,.slice XV xvn xvc,xs⟩,xt)) (k'.at h4)
  simp only [Jf] at hlca
  simp only [Act.put,Rg.puB]
  refine Z1 Zk [] (by kernel_rfl) (by kernel_rfl) ?_
  intro w1 hw1
  have l1:=fun wq (hq:Cls w1 wq)=>hlca wq (Xt hw1 (Xe hq))
  have r3:=fun u:ExtOf w1=>Za (j:=3) ((Xt E4 (Xt hw1 u.h)).at hrow) rfl
  have lk:=fun u:ExtOf w1=>hlb u.to (Xt E4 (Xt hw1 u.h))
  have hnu:=fun u:ExtOf w1=>hnm u.to
  clear hlb hlca
  simp only [Zj,Rg.hsB,Nat.reduceAdd,↓reduceIte]
  repeat (first | go_big_quiet_step ((go_at_call 63;exact Ret.cls (hnu _))) | (go_big_quiet_want;(refine Zu 73 _ _ _ rfl rfl l1 ?_);go_big_quiet_on;simp only [Act.put,Rg.puB]))
  refine wpQuiet_nil ?_
  refine Y3 (by kernel_rfl) ?_
  intro w5 e5 e5'
  try simp only [Act.put,Rg.puC,Rg.puB]
  clear l1 r3 lk hnu hw1
  have E5:=Xt E4 e5
  have h5:=e5.at h4
  cases hf:Yc o (xc,xn) with
  | none=>
    have hl0:=HLX.out
    rw [hf] at hl0
    simp only [Option.getD_none,Option.isSome_none] at hl0 ⊢
    have HI2:=Lib.hid (HID.out.trans (by rw [hl0,Bool.false_or]))
    clear hf hl0
    go_wp2_with fail
    refine Z1 Zk [] (by kernel_rfl) (by kernel_rfl) ?_
    intro w1 hw1
    simp only [Zj,Rg.hsB,Nat.reduceAdd,↓reduceIte]
    repeat (go_big_quiet_step ((fail)))
    refine wpQuiet_nil ?_
    refine Y3 (by kernel_rfl) ?_
    intro w6 e6 e6'
    try simp only [Act.put,Rg.puC,Rg.puB]
    go_wp2_with fail
    exact ⟨⟨k+1,by omega,by go_num,Xt E5 e6,HI2.out⟩,by simp [intOf];omega⟩
  | some p=>
    have hl0:=HLX.out
    rw [hf] at hl0
    simp only [Option.getD_some,Option.isSome_some] at hl0 ⊢
    clear hf
    have hatu:=fun W k'=>HAT.out W k'
    by_cases hta:at_<xt
    focus
     have d1:decide (xt > at_)=true:=by simpa using hta
     by_cases hpp:p<pa
     ·have d2:decide ((p:Int)<(pa:Int))=true:=by simpa using hpp
      have hl1:=hl0.trans (show (decide (at_<xt)&&decide (p<pa))=true by rw [decide_eq_true hta,decide_eq_true hpp];rfl)
      have HI2:=Lib.hid (HID.out.trans (by rw [hl1,Bool.true_or]))
      clear hl0 hl1
      go_wp2_with fail
      refine Z1 Zk [] (by kernel_rfl) (by kernel_rfl) ?_
      intro w1 hw1
      have y3:=fun u:ExtOf w1=>Za (j:=3) ((Xt hw1 u.h).at h5) rfl
      have r1:=fun u:ExtOf w1=>Za (j:=1) ((Xt E5 (Xt hw1 u.h)).at hrow) rfl
      have q5:=fun u:ExtOf w1=>hatu u.to (Xt E5 (Xt hw1 u.h))
      simp only [Zj,Rg.hsB,Nat.reduceAdd,↓reduceIte]
      repeat (go_big_quiet_step ((fail)))
      refine wpQuiet_nil ?_
      refine Y3 (by kernel_rfl) ?_
      intro w6 e6 e6'
      try simp only [Act.put,Rg.puC,Rg.puB]
      clear y3 r1 q5 hatu
      go_wp2_with fail
      go_ret
      exact ⟨by rw [<-HWR.out,HI2.out];rfl,Xt E5 e6⟩
     have d2:decide ((p:Int)<(pa:Int))=false:=by simpa using hpp
     have hl1:=hl0.trans (show (decide (at_<xt)&&decide (p<pa))=false by rw [decide_eq_true hta,decide_eq_false hpp];rfl)
    rotate_left
    focus
     have d1:decide (xt > at_)=false:=by simpa using hta
     have hl1:=hl0.trans (show (decide (at_<xt)&&decide (p<pa))=false by rw [decide_eq_false hta];rfl)
    all_goals
     have HI2:=Lib.hid (HID.out.trans (by rw [hl1,Bool.false_or]))
     clear hl0 hl1
     go_wp2_with fail
     refine Z1 Zk [] (by kernel_rfl) (by kernel_rfl) ?_
     intro w1 hw1
     have y3:=fun u:ExtOf w1=>Za (j:=3) ((Xt hw1 u.h).at h5) rfl
     have r1:=fun u:ExtOf w1=>Za (j:=1) ((Xt E5 (Xt hw1 u.h)).at hrow) rfl
     have q5:=fun u:ExtOf w1=>hatu u.to (Xt E5 (Xt hw1 u.h))
     simp only [Zj,Rg.hsB,Nat.reduceAdd,↓reduceIte]
     repeat (go_big_quiet_step ((fail)))
     refine wpQuiet_nil ?_
     refine Y3 (by kernel_rfl) ?_
     intro w6 e6 e6'
     try simp only [Act.put,Rg.puC,Rg.puB]
     clear y3 r1 q5 hatu
     go_wp2_with fail
     exact ⟨⟨k+1,by omega,by go_num,Xt E5 e6,HI2.out⟩,by simp [intOf];omega⟩
 have hk':k=calls.length:=by omega
 subst hk'
 rw [List.drop_length] at hid
 have HI2:=Lib.hid hid
 clear hid hkn c4 hltx
 go_wp2_with fail
 go_ret
 exact ⟨by rw [<-HWR.out,HI2.out];rfl,er⟩
theorem rep_info:(Tryz.prog.info? 38).map (fun i=>(i.zero,i.size,i.bytes))=some (some (.agg #[.int .i64 0,.int .i64 0,.slice none 0 0]),3,40):=by kernel_rfl
def rp0:Rep×Value:=((0,0,[]),.slice none 0 0)
theorem made3v (a b c:Value) (n:Nat):(madeCells #[a,b,c] (n*3)).toList=(List.replicate n [a,b,c]).flatten:=by
 induction n with
 | zero=>simp [madeCells]
 | succ n ih=>
   rw [List.replicate_succ',List.flatten_append,<-ih,show (n+1)*3=n*3+1+1+1 by omega]
   simp [madeCells,List.range_succ,Nat.mod_eq_of_lt,Nat.add_mod]
theorem rpC_none (n:Nat):(List.replicate n [Value.int .i64 0,Value.int .i64 0,Value.slice none 0 0]).flatten=(List.replicate n rp0).flatMap Xd:=by
 induction n with
 | zero=>rfl
 | succ n ih=>rw [List.replicate_succ,List.replicate_succ,List.flatten_cons,List.flatMap_cons,ih];rfl
theorem Zh0 (l:List (Rep×Value)):(l.flatMap Xd).length=l.length*3:=Ue Xd 3 (fun _=>rfl) l
theorem rpC_set (l:List (Rep×Value)) (k:Nat) (hk:k<l.length) (x:Rep×Value):(((l.flatMap Xd).set (k*3) (.int .i64 x.1.1)).set (k*3+1) (.int .i64 x.1.2.1)).set (k*3+2) x.2=(l.set k x).flatMap Xd:=by
 have hl:=Zh0 l
 refine List.ext_getElem? fun m=> ?_
 rw [List.getElem?_set,List.getElem?_set,List.getElem?_set]
 simp only [List.length_set]
 by_cases hm:m<l.length*3
 ·have hdiv:m / 3<l.length:=by omega
  have hmm:m=m / 3*3+m%3:=by omega
  have h2:=Zeg (l.set k x) (m / 3) (m%3) (by rw [List.length_set];exact hdiv) (by omega)
  rw [<-hmm,List.getElem_set] at h2
  have h3:=Zeg l (m / 3) (m%3) hdiv (by omega)
  rw [<-hmm] at h3
  rw [h2]
  by_cases e:k=m / 3
  ·rw [if_pos e]
   rcases (show m%3=0\/m%3=1\/m%3=2 by omega) with e0 | e0 | e0
   ·rw [if_neg (by omega),if_neg (by omega),if_pos (by omega),if_pos (by omega),e0];rfl
   ·rw [if_neg (by omega),if_pos (by omega),if_pos (by omega),e0];rfl
   rw [if_pos (by omega),if_pos (by omega),e0];rfl
  rw [if_neg e,if_neg (by omega),if_neg (by omega),if_neg (by omega),h3]
 rw [if_neg (by omega),if_neg (by omega),if_neg (by omega),List.getElem?_eq_none (by omega),List.getElem?_eq_none (by rw [Zh0,List.length_set];omega)]
def rpK (rs:List (Rep×Value)) (n:Nat):List (Rep×Value):=rs++List.replicate (n-rs.length) rp0
theorem rpK_len {rs:List (Rep×Value)} {n:Nat} (h:rs.length<=n):(rpK rs n).length=n:=by unfold rpK;simp;omega
theorem rpK_set {rs:List (Rep×Value)} {n:Nat} (h:rs.length<n) (x:Rep×Value):(rpK rs n).set rs.length x=rpK (rs++[x]) n:=by
 unfold rpK
 rw [List.set_append,if_neg (by omega),Nat.sub_self,List.length_append,List.length_singleton,show n-rs.length=(n-(rs.length+1))+1 by omega,List.replicate_succ,List.set_cons_zero,List.append_assoc]
 rfl
theorem rpK_full {rs:List (Rep×Value)} {n:Nat} (h:rs.length=n):rpK rs n=rs:=by unfold rpK;rw [h,Nat.sub_self];simp
theorem rp_there {w:World} {base n ga:Nat} {rs:List (Rep×Value)} (h:w.ownsRow base 38 3 (.slice (some ⟨ga,0,none⟩) n n) n ((rpK rs n).flatMap Xd)) (hk:rs.length<n):w.there ga (rs.length*3) 3:=fun j hj=>by
 obtain ⟨cur,hrow⟩:=X5 h
 refine ⟨?_,frozen_of_row _ ga _ _ _ hrow⟩
 have hlt:rs.length*3+j<((rpK rs n).flatMap Xd).length:=by rw [Zh0,rpK_len (by omega)];omega
 rw [(Z2 h).2 _ _ (List.getElem?_eq_getElem hlt)]
 rfl
theorem own_rep {w:World} {base n ga:Nat} {rs:List (Rep×Value)} (h:w.ownsRow base 38 3 (.slice (some ⟨ga,0,none⟩) n n) n ((rpK rs n).flatMap Xd)) (hk:rs.length<n) (x y:Int) (z:Value) (gl:List Gt):
 (w.setCells ga (rs.length*3) #[Value.int .i64 x,.int .i64 y,z].toList).ownsRow base 38 3 (.slice (some ⟨ga,0,none⟩) n n) n ((rpK (rs++[((x,y,gl),z)]) n).flatMap Xd)/\Keep [ga] w (w.setCells ga (rs.length*3) #[Value.int .i64 x,.int .i64 y,z].toList):=by
 have e:w.setCells ga (rs.length*3) #[Value.int .i64 x,.int .i64 y,z].toList=((w.setCell ⟨ga,rs.length*3,none⟩ (.int .i64 x)).setCell ⟨ga,rs.length*3+1,none⟩ (.int .i64 y)).setCell ⟨ga,rs.length*3+2,none⟩ z:=rfl
 rw [e]
 refine ⟨?_,Keep.setCell (Keep.setCell (Keep.setCell (Keep.refl _ _) (.inl (by simp)) _) (.inl (by simp)) _) (.inl (by simp)) _⟩
 have h5:=Uj (Uj (Uj h (rs.length*3) (.int .i64 x)) (rs.length*3+1) (.int .i64 y)) (rs.length*3+2) z
 have h6:=rpC_set (rpK rs n) rs.length (by rw [rpK_len (by omega)];exact hk) ((x,y,gl),z)
 rw [rpK_set hk] at h6
 rwa [h6] at h5
structure RpI (w:World) (o:List Cl) (q ga base:Nat) (p m pb:Nat) (g:Option Nat) (L:Led) (B:Bk) (rs:List (Rep×Value)) (W:World):Prop where
 le:rs.length<=o.length
 run:X0 o V4 ⟨[],1⟩=rs.map (·.1)++X0 (o.drop rs.length) L B
 mac:IsM W q p m pb g L B
 own:W.ownsRow 0 38 3 (.slice (some ⟨ga,0,none⟩) o.length o.length) o.length ((rpK rs o.length).flatMap Xd)
 ok:∀x∈rs,Zs W base 2 x.2 x.1.2.2.length (gtC x.1.2.2)
 ext:Ext w W
 lo:base<=W.heap.size
theorem Zg3 (v:Value) (o:List Cl) (w:World) (h:Z4 w 3 v o.length (o.flatMap Cl.cells)) (hc:∀c∈o,J2 w c) (hn:o.length<=1000):
 Calls Tryz.prog 30 #[v] w (fun e w'=>∃(ga base:Nat) (rs:List (Rep×Value)),e= .returned (.slice (some ⟨ga,0,none⟩) o.length o.length)/\Ext w w'/\w.heap.size<=ga/\ga<base/\w'.ownsRow 0 38 3 (.slice (some ⟨ga,0,none⟩) o.length o.length) o.length (rs.flatMap Xd)/\
  (∀x∈rs,Zs w' base 2 x.2 x.1.2.2.length (gtC x.1.2.2))/\rs.map (·.1)=X0 o V4 ⟨[],1⟩):=by
 obtain ⟨A,cap,rfl,q1,q2,q3,q4⟩:=h
 obtain ⟨i0,hi,hz0,hz1,hz2⟩:=info_parts rep_info
 have hn63:(o.length:Int)<=9223372036854775807:=by omega
 have hxs:(madeCells (Value.agg #[.int .i64 0,.int .i64 0,.slice none 0 0]).cells (o.length*3)).toList=(List.replicate o.length rp0).flatMap Xd:=by
  show (madeCells #[.int .i64 0,.int .i64 0,.slice none 0 0] (o.length*3)).toList=_
  rw [made3v,rpC_none]
 have hb2:i0.bytes*o.length<=281474976710656:=by rw [hz2];omega
 have hb3:o.length<=maxLen:=by unfold maxLen;omega
 have HC:=Lib.hid hc
 clear hc q2 q3
 go_enter Tryz.func30,Tryz.ntmps30
 go_wp2_with fail
 refine (mnew_any _).mono ?_
 rintro e w1 ⟨q,p,m,pb,g,rfl,e1,hM1,hq1⟩
 go_wp2_with (first
  | (at_make;refine Zam rfl _ _ 74 rfl w1.heap.size 38 i0 _ 3 Tryz.underlying74 hi hz0 hz1 _ _ o.length rfl rfl hb2 hb3 (Nat.le_refl _) _ hxs ?_
     intro w2 e2 hlt2 hown2))
 have hM2:=hM1.ext e2
 have E2:=Xt e1 e2
 have s2:=e2.size
 have hlq:=Zg hM1.row
 have hw1:=e1.size
 have I2:RpI w o q w1.heap.size w2.heap.size p m pb g V4 ⟨[],1⟩ [] w2:=⟨Nat.zero_le _,by simp,hM2,by have:=Vx hown2 (Nat.zero_le _);simpa [rpK] using this,fun x hx=>by simp at hx,E2,Nat.le_refl _⟩
 have HX:=Lib.hid (show w.heap.size<=q/\q<w1.heap.size/\w1.heap.size<w2.heap.size/\w.heap.size<=w1.heap.size by omega)
 clear hM1 hM2 e1 e2 E2 hown2 hlt2 hb2 hb3 hxs hi hz0 hz1 hz2 s2 hlq hw1
 generalize w1.heap.size=ga at *
 generalize w2.heap.size=base at *
 go_wp2_with fail
 go_loopw [5,6,13,14,15,16,17,18,19,20,21,22,23,24,25] (fun _ _ iv _ _ _ _ _ _ _ _ _ _ _ _ wr=>∃k:Nat,k<=o.length/\iv= .int .i64 k/\∃p m pb g L B rs,rs.length=k/\RpI w o q ga base p m pb g L B rs wr) (fun _ _ iv _ _ _ _ _ _ _ _ _ _ _ _ _=>o.length-(intOf iv).toNat)
 case atStart=>exact ⟨0,Nat.zero_le _,rfl,p,m,pb,g,_,_,[],rfl,I2⟩
 clear I2
 obtain ⟨k,hk,rfl,p,m,pb,g,L,B,rs,rfl,I⟩:=hrel
 obtain ⟨hle,hrun,hM,hown,hok,er,hlo⟩:=I
 by_cases hkn:rs.length<o.length
 ·rcases q4 with q4 | ⟨g0,off,rfl,hlt,hcell⟩
  ·omega
  have hj1:(0:Int)<=(rs.length:Int):=by omega
  have hj2:(rs.length:Int)<(o.length:Int):=by omega
  have hld:=Zds wr g0 off rs.length o hkn (fun j u hu=>(Zh (er.block hlt)).trans (hcell j u hu))
  have hdr:=List.drop_eq_getElem_cons hkn
  have hcx:=HC.out _ (List.getElem_mem hkn)
  rw [hdr,X0] at hrun
  generalize (o[rs.length]'hkn)=c at *
  obtain ⟨cc,cn,cv,cs⟩:=c
  have hcs:∃A n cap,cv= .slice A n cap:=let ⟨A,cap,h,_⟩:=hcx.1;⟨A,_,cap,h⟩
  obtain ⟨CV,cvn,cvc,rfl⟩:=hcs
  simp only [Jf] at hld hrun
  have HR:=Lib.hid hrun
  have HCX:=Lib.hid hcx
  have HOW:=Lib.hid hown
  have HOK:=Lib.hid hok
  clear hcell hdr hrun hcx hown hok
  go_wp2_with (first
   | (refine Zd rfl 73 _ _ _ rfl rfl hld ?_)
   | (refine Zr rfl 73 rfl (.cells #[.int .u8 0,.int .u64 0,.slice none 0 0] 73) _ rfl (by go_simp) ?_
      intro w3 e3 h3)
   | (refine Ze rfl rfl 73 _ _ rfl wr.heap.size _ rfl rfl 73 _ h3 (by kernel_rfl) (by rfl) (by rfl) ?_
      intro w4 hb4 ho4 h4
      have e4:Ext wr w4:=hb4 _ _ (Nat.le_refl _) e3
      have ldc:=Zm (P:=Tryz.prog) w4 wr.heap.size 2 42 [.slice CV cvn cvc] _ (fun j u hu=>by
       have hj:j=0:=by have:=(List.getElem?_eq_some_iff.1 hu).1;simp at this;exact this
       subst hj
       simp at hu
       subst hu
       exact Za (j:=2) h4 rfl) Tryz.underlying42 rfl (by kernel_rfl))
   | (refine Zd rfl 42 _ _ _ rfl rfl ldc ?_))
  clear ho4 hb4 h3 e3
  have E4:=Xt er e4
  refine (apply_any q p m pb g L B cs _ w4 (hM.ext e4) (HCX.out.1.ext E4) (fun s hs=>known_in s (HCX.out.2 s hs))).mono ?_
  rintro e w5 ⟨v5,p',m',pb',g',rfl,f5,sg,hM5⟩
  have hown4:=Zn HOW.out e4
  have hx1:=HX.out
  have hown5:=Zmj hown4 f5 (fun b hb (hq:b=q)=>by
   have:ga=b:=by injection hb
   omega)
  have hok5:∀x∈rs,Zs w5 base 2 x.2 x.1.2.2.length (gtC x.1.2.2):=fun x hx=>((HOK.out x hx).ext e4).fra f5 (fun y (hy:y=q)=>by omega)
  have E5:=FrA.ext0 E4 f5 (fun x (hx:x=q)=>by omega)
  have hs4:=E4.size
  have hth:=rp_there hown5 hkn
  obtain ⟨G,gcap,rfl,_⟩:=id sg
  obtain ⟨hown6,k6⟩:=own_rep hown5 hkn (Xb cs L B).1.1 (Xb cs L B).1.2.1 (.slice G (Xb cs L B).1.2.2.length gcap) (Xb cs L B).1.2.2
  have hgaq:ga≠q:=by omega
  have hgl:ga<w5.heap.size:=(Z2 hown5).1
  have hle2:=Zgl hM5.led (X5 hown5).choose_spec (by decide)
  have hbe2:=Zdw hM5.book (X5 hown5).choose_spec (by decide) (by decide)
  clear ldc hld h4 hown4
  go_wp2_with (refine Us rfl rfl 38 _ _ rfl ga (rs.length*3) #[.int .i64 (Xb cs L B).1.1,.int .i64 (Xb cs L B).1.2.1,.slice G (Xb cs L B).1.2.2.length gcap] rfl rfl hth (by kernel_rfl) (by simp [Value.oneCell']) ?_)
  refine ⟨⟨rs.length+1,by omega,by go_num,p',m',pb',g',_,_,rs++[((Xb cs L B).1,.slice G (Xb cs L B).1.2.2.length gcap)],by simp,⟨by simp;omega,?_,hM5.keep k6 (by simpa using hgaq.symm) hle2.1 hle2.2 hbe2.1 hbe2.2,hown6,fun x hx=> ?_,(Keep.trans_fresh (S:=[]) (Kx E5) k6 (fun x hx=>by right;simp at hx;omega)).ext,by have:=k6.size;have:=f5.size;have:=e4.size;omega⟩⟩,by simp [intOf];omega⟩
  ·rw [HR.out,List.map_append,List.length_append,List.append_assoc]
   rfl
  rcases List.mem_append.1 hx with hx | hx
  ·exact (hok5 x hx).keep k6 (fun y hy=>by simp at hy;omega)
  simp at hx
  subst hx
  exact (Zs.low sg (by have:=e4.size;omega)).keep k6 (fun y hy=>by simp at hy;omega)
 have hk':rs.length=o.length:=by omega
 have HR:=Lib.hid hrun
 have HK:=Lib.hid hk'
 clear hrun hk' q4
 go_wp2_with fail
 go_ret
 have hx1:=HX.out
 refine ⟨ga,base,rs,rfl,er,by omega,by omega,?_,hok,?_⟩
 ·rw [rpK_full HK.out] at hown
  exact hown
 rw [HR.out,HK.out,List.drop_length]
 simp [X0]
theorem Zi2 (v:Value) (o:List Cl) (w:World) (h:Z4 w 3 v o.length (o.flatMap Cl.cells)) (hc:∀c∈o,J2 w c) (hn:o.length<=1000):
 Calls Tryz.prog 30 #[v] w (fun e w'=>∃rv rs,e= .returned rv/\Ext w w'/\RpSl w' rv rs/\rs.map (·.1)=X0 o V4 ⟨[],1⟩/\∀x∈rs,Zs w' w.heap.size 2 x.2 x.1.2.2.length (gtC x.1.2.2)):=
 (Zg3 v o w h hc hn).mono fun e w' ⟨ga,base,rs,he,k,h1,h2,hown,hok,hm⟩=>by
   have hl:rs.length=o.length:=by rw [<-Uy o V4 ⟨[],1⟩,<-hm,List.length_map]
   exact ⟨_,rs,he,k,⟨by rw [hl];exact (Zs.of_own hown).arg,fun x hx=>(hok x hx).arg⟩,hm,fun x hx=>(hok x hx).low (by omega)⟩
theorem Zn4 (v:Value) (o:List Cl) (w:World) (h:Z4 w 3 v o.length (o.flatMap Cl.cells)) (hc:∀c∈o,J2 w c) (hn:o.length<=1000):
 Calls Tryz.prog 30 #[v] w (fun e w'=>∃rv rs,e= .returned rv/\Ext w w'/\RpSl w' rv rs/\rs.map (·.1)=X0 o V4 ⟨[],1⟩):=
 (Zi2 v o w h hc hn).mono fun _e _w' ⟨rv,rs,he,k,h1,h2,_⟩=>⟨rv,rs,he,k,h1,h2⟩
end Go.Proofs.YtipjchbdogmccaaGreat
namespace Go.Rg
open Go.RowKit
variable {P:Program}
def IterS2 (P:Program) {σ:Type} (gf:Nat) (lb:Array Value) (Base:σ->World->Prop) (Given:σ->World->World->Array Value->Prop) (rel:σ->σ->Prop) (End:σ->Prop) (s0:σ):Prop:=
 ∀(l:Nat) (J:σ->World->Prop) (Jx:World->Prop) (W:World),(∀s A B,J s A->Ext A B->J s B)->(∀s A,J s A->Base s A)->(∀s A,J s A->l<A.heap.size)->
  (∀s A B x,J s A->Ext A B->Given s A B x->YieldAt Fence.wide 0 P l x B fun e W'=>(e= .returned (.bool true)/\∃s',J s' W'/\rel s s')\/(e= .returned (.bool false)/\Jx W'))->
  J s0 W->Calls P gf (#[.func (.yield l) #[] #[]]++lb) W fun e W'=>(∃v,e= .returned v)/\((∃s',J s' W'/\End s')\/Jx W')
theorem Zex {σ:Type} {g:Operand} {ps:Array Tmp} {assign body:Code} {Q:Exit->Act->World->Prop} {a:Act} {w:World} {gf:Nat} {lb:Array Value}
 (hg:a.eval g= .func (.func gf) #[] lb) (eg:∀args w,(callFunc gf args).run P w= .ok (.enter gf args) w)
 {Base:σ->World->Prop} {Given:σ->World->World->Array Value->Prop} {rel:σ->σ->Prop} {End:σ->Prop} {s0:σ} (hps:∀s A B x,Given s A B x->x.size=ps.size) (hit:IterS2 P gf lb Base Given rel End s0)
 (I:σ->World->Prop) (Ix:Code->World->Prop)
 (hI:∀s A B,I s A->Keep [w.heap.size,w.heap.size+1] A B->I s B) (hIx:∀c A B,Ix c A->Keep [w.heap.size,w.heap.size+1] A B->Ix c B) (hB:∀s A,I s A->Base s A)
 (hG:∀s A B B' x,Given s A B x->w.heap.size+2<=A.heap.size->Keep [w.heap.size,w.heap.size+1] B B'->Given s A B' x)
 (h0:I s0 w) (Asg:Array Value->Act->World->Prop) (hA:∀x a W W',Asg x a W->Keep [w.heap.size,w.heap.size+1] W W'->Asg x a W')
 (hassign:∀(l:Nat) (s:σ) (A:World) (x:Array Value) (W:World) (K:Act->World->Prop),Given s A W x->w.heap.size+2<=W.heap.size->(∀aX W',Ext W W'->Asg x aX W'->K aX W')->
   assign.wpIn (Fence.wide.inRound l) 0 P (Exit.then K (fun _ _ _=>False)) { tmps:=(ps.zip x).foldl (fun t (p,v)=>t.setIfInBounds p v) a.tmps,defers:=[] } W)
 (hbody:∀(s:σ) (A B:World) (x:Array Value) (aX:Act),I s A->Keep [w.heap.size,w.heap.size+1] A B->Given s A B x->w.heap.size+2<=A.heap.size->Asg x aX B->
   body.wpIn (Fence.wide.inRound (w.heap.size+1)) 0 P (stPost w.heap.size B I Ix (rel s)) aX B)
 (hdone:∀(s:σ) (W:World),End s->I s W->W.heap[w.heap.size]? =some (.deferred (some []))->Q .normal { a with defers:={ target:= .collected w.heap.size,args:=#[] }::a.defers } W)
 (hstop:∀(c:Code) (W:World),Ix c W->W.heap[w.heap.size]? =some (.deferred (some []))->c.wpIn Fence.wide 0 P Q { a with defers:={ target:= .collected w.heap.size,args:=#[] }::a.defers } W):
 (Code.rangeFunc g ps assign body).wpIn Fence.wide 0 P Q a w:=by
 refine wpIn_rangeFunc ?_
 intro fn hfn
 rw [show Fence.wide.round=none from rfl]
 -- the loop's record,by its state and its pending jump
 obtain ⟨rec,hrec⟩:∃rec:LoopState->Option Code->Loop,rec=fun st pe=>{ state:=st,pending:=pe,fn,tmps:=a.tmps,params:=ps,assign,body,defers:=w.heap.size }:=⟨_,rfl⟩
 obtain ⟨W1,hW1⟩:∃W1,(w.alloc (.deferred (some []))).alloc (.loop (rec .ready none))=W1:=⟨_,rfl⟩
 have e1:Ext w W1:=by rw [<-hW1];exact Xt (Zc _ _) (Zc _ _)
 have hs1:W1.heap.size=w.heap.size+2:=by rw [<-hW1];simp [World.size_alloc]
 have hl1:W1.heap[w.heap.size+1]? =some (.loop (rec .ready none)):=by
  rw [<-hW1];have:=Zb (w.alloc (.deferred (some []))) (.loop (rec .ready none));rwa [size_alloc] at this
 have hd1:W1.heap[w.heap.size]? =some (.deferred (some [])):=by
  rw [<-hW1];exact (Zc _ _).at (Zb w _)
 -- what is kept between two rounds
 obtain ⟨J,hJ⟩:∃J:σ->World->Prop,∀s W,J s W↔I s W/\W.heap[w.heap.size+1]? =some (.loop (rec .ready none))/\W.heap[w.heap.size]? =some (.deferred (some []))/\w.heap.size+2<=W.heap.size:=⟨_,fun _ _=>Iff.rfl⟩
 obtain ⟨Jx,hJx⟩:∃Jx:World->Prop,∀W,Jx W↔∃c,Ix c W/\W.heap[w.heap.size+1]? =some (.loop (rec .done (some c)))/\W.heap[w.heap.size]? =some (.deferred (some [])):=⟨_,fun _=>Iff.rfl⟩
 have hround:∀s A B x,J s A->Ext A B->Given s A B x->YieldAt Fence.wide 0 P (w.heap.size+1) x B fun e W'=>(e= .returned (.bool true)/\∃s',J s' W'/\rel s s')\/(e= .returned (.bool false)/\Jx W'):=by
  intro s A B x h k hx
  obtain ⟨hIs,hl,hd,hsz⟩:=(hJ _ _).1 h
  have hlB:=k.at hl
  have hdB:=k.at hd
  have hltB:w.heap.size+1<B.heap.size:=Zg hlB
  have hy:=run_yield (P:=P) (args:=x) hlB (by rw [hrec];simp [hps _ _ _ _ hx])
  rw [hrec] at hy
  refine ⟨fn,_,assign,body,hy,roundIn_of_wpIn hfn (hassign _ s A x B _ hx (by omega) fun aX B' kX hAX=>⟨_,run_beginRound (kX.at hlB) (by rw [hrec]),?_⟩)⟩
  have hlB':=kX.at hlB
  have hdB':=kX.at hdB
  have hltB':=Zg hlB'
  have kB:Keep [w.heap.size,w.heap.size+1] B' (B'.putObj (w.heap.size+1) (.loop { rec .ready none with state:= .busy })):=Yk _ (by simp)
  have hl2:(B'.putObj (w.heap.size+1) (.loop { rec .ready none with state:= .busy })).heap[w.heap.size+1]? =some (.loop { rec .ready none with state:= .busy }):=World.putObj_heap_same hltB'
  have hd2:(B'.putObj (w.heap.size+1) (.loop { rec .ready none with state:= .busy })).heap[w.heap.size]? =some (.deferred (some [])):=(World.putObj_heap_other (by omega)).trans hdB'
  generalize hB2:B'.putObj (w.heap.size+1) (.loop { rec .ready none with state:= .busy })=B2 at *
  refine wpIn_mono (hbody s A B2 x aX hIs (((Kx k).trans (Kx kX)).trans kB) (hG s A B B2 x hx hsz ((Kx kX).trans kB)) hsz (hA _ _ _ _ hAX kB)) ?_
  have fin:∀(jump:Option Code) (W3:World),W3.heap[w.heap.size]? =B2.heap[w.heap.size]? /\W3.heap[w.heap.size+1]? =B2.heap[w.heap.size+1]? ->
   ∃W4,(Instr.endRound (w.heap.size+1) jump).run P W3= .ok (.bool jump.isNone) W4/\Keep [w.heap.size,w.heap.size+1] W3 W4/\
   W4.heap[w.heap.size+1]? =some (.loop (rec (if jump.isNone then .ready else .done) jump))/\W4.heap[w.heap.size]? =some (.deferred (some [])):=fun jump W3 hk=>by
   have hl3:W3.heap[w.heap.size+1]? =some (.loop { rec .ready none with state:= .busy }):=hk.2.trans hl2
   have hr:=run_endRound (P:=P) jump hl3
   refine ⟨_,hr,Yk _ (by simp),?_,(World.putObj_heap_other (by omega)).trans (hk.1.trans hd2)⟩
   have:=World.putObj_heap_same (w:=W3) (o:= .loop { { rec .ready none with state:= .busy } with state:=if jump.isNone then .ready else .done,pending:=jump }) (Zg hl3)
   rw [this,hrec]
  have szk:∀{W4:World},W4.heap[w.heap.size+1]? =some (.loop (rec .ready none))->w.heap.size+2<=W4.heap.size:=fun h=>Zg h
  rintro e a3 W3 hp
  cases e with
  | normal=>
    obtain ⟨hk,s',hI',hr'⟩:=hp
    obtain ⟨W4,hr4,k4,h4,h5⟩:=fin none W3 hk
    exact ⟨_,W4,hr4,.inl ⟨rfl,s',(hJ _ _).2 ⟨hI s' W3 W4 hI' k4,h4,h5,szk h4⟩,hr'⟩⟩
  | ret=>
    obtain ⟨W4,hr4,k4,h4,h5⟩:=fin (some .ret) W3 hp.1
    exact ⟨_,W4,hr4,.inr ⟨rfl,(hJx _).2 ⟨.ret,hIx _ W3 W4 hp.2 k4,h4,h5⟩⟩⟩
  | exit id=>
    obtain ⟨W4,hr4,k4,h4,h5⟩:=fin (some (.exit id)) W3 hp.1
    exact ⟨_,W4,hr4,.inr ⟨rfl,(hJx _).2 ⟨.exit id,hIx _ W3 W4 hp.2 k4,h4,h5⟩⟩⟩
  | goto t=>
    obtain ⟨W4,hr4,k4,h4,h5⟩:=fin (some (.goto t)) W3 hp.1
    exact ⟨_,W4,hr4,.inr ⟨rfl,(hJx _).2 ⟨.goto t,hIx _ W3 W4 hp.2 k4,h4,h5⟩⟩⟩
  | panic ch=>exact hp.elim
  | outgrown=>exact hp.elim
 have hcall:=hit (w.heap.size+1) J Jx W1
  (fun s A B h k=>by
    have h:=(hJ _ _).1 h
    exact (hJ _ _).2 ⟨hI s A B h.1 (Kx k),k.at h.2.1,k.at h.2.2.1,Nat.le_trans h.2.2.2 k.size⟩) (fun s A h=>hB s A ((hJ _ _).1 h).1) (fun s A h=>((hJ _ _).1 h).2.2.2)
  hround ((hJ _ _).2 ⟨hI s0 w W1 h0 (Kx e1),hl1,hd1,by omega⟩)
 refine ⟨w.heap.size+1,[{ target:= .collected w.heap.size,args:=#[] }],W1,{ target:= .fn (.func gf) lb,args:=#[.func (.yield (w.heap.size+1)) #[] #[]] },W1,gf,
  #[.func (.yield (w.heap.size+1)) #[] #[]]++lb,W1,?_,?_,?_,?_,?_,?_⟩
 ·rw [<-hW1,hrec];exact run_enterLoop_outer _ _ _ _ _
 ·simp only [resolve,hg]
  simp [go_sem]
 ·intro f' _;trivial
 ·simp [invoke,go_sem,eg]
 ·intro hd;simp [Fence.wide] at hd
 refine CallsIn.mono (callsIn_wide.2 hcall) ?_
 rintro e W2 ⟨⟨v,rfl⟩,(⟨s',hj,hE⟩ | hj)⟩
 ·obtain ⟨hI',hl,hd,_⟩:=(hJ _ _).1 hj
  have hr:=run_endLoop (P:=P) hl (by rw [hrec];simp)
  have hp:(rec .ready none).pending=none:=by rw [hrec]
  rw [hp] at hr
  exact ⟨none,_,hr,hdone s' _ hE (hI s' W2 _ hI' (Yk _ (by simp))) ((World.putObj_heap_other (by omega)).trans hd)⟩
 obtain ⟨c,hc,hl,hd⟩:=(hJx _).1 hj
 have hr:=run_endLoop (P:=P) hl (by rw [hrec];simp)
 have hp:(rec .done (some c)).pending=some c:=by rw [hrec]
 rw [hp] at hr
 exact ⟨some c,_,hr,hstop c _ (hIx c W2 _ hc (Yk _ (by simp))) ((World.putObj_heap_other (by omega)).trans hd)⟩
end Go.Rg
namespace Go.Proofs.YtipjchbdogmccaaGreat
open Go.RowKit Go.Rg Go.BigFrame
theorem bw_any (v:Value) (w:World) (hv:∃A n cap,v= .slice A n cap):Calls Tryz.prog 62 #[v] w
 (fun e w'=>∃b,e= .returned (.func (.func 112) #[] #[.pointer (some ⟨b,0,none⟩)])/\Ext w w'/\w'.heap[b]? =some (.cells #[v] 59 (0,0))):=by
 obtain ⟨A,n,cap,rfl⟩:=hv
 have e0:=Zc w (.cells #[.slice A n cap] 59)
 have h0:=Zb w (.cells #[.slice A n cap] 59)
 go_enter Tryz.func62,Tryz.ntmps62
 go_wp2
 go_ret
 exact ⟨_,rfl,e0,h0⟩
structure BwB (x1:Nat) (v:Value) (o:List Cl) (W:World):Prop where
 k1:W.heap[x1]? =some (.cells #[v] 59 (0,0))
 arg:Z4 W 3 v o.length (o.flatMap Cl.cells)
theorem bw_iter (x1:Nat) (v:Value) (o:List Cl):
 IterS2 Tryz.prog 112 #[.pointer (some ⟨x1,0,none⟩)] (fun (_:Nat) W=>BwB x1 v o W)
  (fun s _ _ x=>∃j:Nat,∃hj:j<o.length,j+s+1=o.length/\x=#[.int .i64 (j:Int),Jf (o[j]'hj)]) (fun s s'=>s'=s+1) (fun s=>s=o.length) 0:=by
 intro l J Jx W hE hBs hJl hR h0
 refine (callsIn_wide (n:=0)).1 ?_
 show CallsIn Fence.wide 0 Tryz.prog 112 #[.func (.yield l) #[] #[],.pointer (some ⟨x1,0,none⟩)] W _
 refine callsIn_of_wp Tryz.func112 rfl trivial ?_ rfl
 simp only [Tryz.ntmps112,List.size_toArray,List.length_cons,List.length_nil,Nat.reduceAdd,Nat.reduceSub,Array.replicate_succ,Array.replicate_zero,List.push_toArray,List.append_toArray,List.nil_append,List.cons_append]
 have hB0:=hBs _ _ h0
 have k1:=Za (j:=0) hB0.k1 rfl
 obtain ⟨A,cap,rfl,q1,q2,q3,q4⟩:=hB0.arg
 have hn63:(o.length:Int)<=9223372036854775807:=by unfold maxLen at q2;omega
 clear hB0 q4 q1 q2 q3
 gi_wp2
 gi_loopw [3,7,8,9,10,11,12,13,14,15,16,17,18] (fun i _ _ _ _ _ _ _ _ _ _ _ _ wr=>∃k:Nat,k<=o.length/\i= .int .i64 ((o.length:Int)-1-(k:Int))/\J k wr) (fun i _ _ _ _ _ _ _ _ _ _ _ _ _=>(intOf i+1).toNat)
 case atStart=>exact ⟨0,Nat.zero_le _,by simp,h0⟩
 clear k1 h0
 obtain ⟨k,hk,rfl,hJ⟩:=hrel
 by_cases hkn:k<o.length
 ·obtain ⟨j,hj⟩:∃j:Nat,(o.length:Int)-1-(k:Int)=(j:Int):=⟨o.length-1-k,by omega⟩
  have hjo:j<o.length:=by omega
  rw [hj]
  have hB:=hBs _ _ hJ
  have k1:=Za (j:=0) hB.k1 rfl
  obtain ⟨A',cap',hv,_,_,_,q4⟩:=hB.arg
  injection hv with hv1 _ hv2
  subst hv1 hv2
  rcases q4 with q4 | ⟨gs,off,rfl,hlt,hcs⟩
  ·omega
  have hg:∀(x:Nat) (hx:x<3) u,(o[j]'hjo).cells[x]? =some u->wr.cell? ⟨gs,off+(j*3+x),none⟩=some u:=fun x hx u hu=>hcs _ _ ((Ug o j x hjo hx).trans hu)
  have hj1:(0:Int)<=(j:Int):=by omega
  have hj2:(j:Int)<(o.length:Int):=by omega
  have hj3:decide ((j:Int)>=0)=true:=by simp
  have hR2:=fun B k2=>hR k wr B _ hJ k2 ⟨j,hjo,by omega,rfl⟩
  have HJ:=Lib.hid hj
  clear hj hcs
  generalize (o[j]'hjo)=c at *
  obtain ⟨cc,cn,cv,cs⟩:=c
  simp only [Jf] at hR2
  have g0:wr.cell? ⟨gs,off+j*3,none⟩=some (.int .u8 cc):=hg 0 (by decide) _ rfl
  have g1:wr.cell? ⟨gs,off+j*3+1,none⟩=some (.int .u64 cn):=by rw [Nat.add_assoc];exact hg 1 (by decide) _ rfl
  have g2:wr.cell? ⟨gs,off+j*3+2,none⟩=some cv:=by rw [Nat.add_assoc];exact hg 2 (by decide) _ rfl
  clear hg
  obtain ⟨fn,tmps,assign,body,hy,hRd⟩:=hR2 wr (Ext.refl _)
  clear hR2
  gi_wp2
  refine ⟨rfl,RoundIn.mono hRd ?_⟩
  rintro e W3 (⟨rfl,s',hJ',rfl⟩ | ⟨rfl,hJx⟩)
  ·gi_wp2
   exact ⟨⟨k+1,by omega,by have:=HJ.out;go_num,hJ'⟩,by have:=HJ.out;simp [intOf]<;>omega⟩
  gi_wp2
  refine bodyPost_ret (results_none rfl _ _ _) rfl ?_
  exact ⟨⟨_,rfl⟩,.inr hJx⟩
 have hk':k=o.length:=by omega
 have hj3:decide ((o.length:Int)-1-(k:Int)>=0)=false:=by simp;omega
 gi_wp2
 go_end0
 exact ⟨⟨_,rfl⟩,.inl ⟨_,hJ,hk'⟩⟩
def Zfp (o:List Cl) (k:Nat) (n:Nm):Option Int:=((o.drop k).findIdx? fun c=>c.nm==n).map fun i=>((i+k:Nat):Int)
theorem Zrv (o:List Cl) (n:Nm):Zfp o 0 n=(Yc o n).map Int.ofNat:=by
 unfold Zfp Yc
 rw [List.drop_zero]
 rfl
theorem ffrom_end (o:List Cl) (n:Nm):Zfp o o.length n=none:=by
 unfold Zfp
 rw [List.drop_length]
 rfl
theorem Zrw (o:List Cl) (j:Nat) (hj:j<o.length) (n:Nm):Zfp o j n=if (o[j]'hj).nm==n then some (j:Int) else Zfp o (j+1) n:=by
 unfold Zfp
 rw [List.drop_eq_getElem_cons hj,List.findIdx?_cons]
 by_cases h:((o[j]'hj).nm==n)=true
 ·rw [if_pos h,if_pos h]
  simp
 rw [if_neg h,if_neg h,Option.map_map]
 congr 1
 funext i
 simp only [Function.comp]
 omega
structure JuI (w:World) (b8 hb m xb:Nat) (cv av ov:Value) (o:List Cl) (s:Nat) (W:World):Prop where
 be:Ext w W
 k8:W.heap[b8]? =some (.cells #[.pointer (some ⟨hb,0,none⟩)] 156 (0,0))
 row:W.heap[hb]? =some (.cells #[cv,av,ov,.map (some m)] 159 (0,0))
 mp:∃l,Zkd W m l/\∀n,lkN l n=Zfp o (o.length-s) n
 bw:BwB xb ov o W
 le:s<=o.length
theorem JuI.keep {w:World} {b8 hb m xb:Nat} {cv av ov:Value} {o:List Cl} {s:Nat} {W W':World} {D:Nat} (h:JuI w b8 hb m xb cv av ov o s W) (hD:w.heap.size<=D) (h8:b8<D) (hh:hb<D) (hm:m<D) (hx:xb<D) (harg:∀W,Ext w W->Z4 W 3 ov o.length (o.flatMap Cl.cells)) (k:Keep [D,D+1] W W'):JuI w b8 hb m xb cv av ov o s W':=by
 have hn:∀x,x<D->x∉[D,D+1]:=fun x hx=>by simp;omega
 obtain ⟨l,h1,h2⟩:=h.mp
 have hw:=h.be.size
 have he:=(Keep.trans_fresh (S:=[]) (Kx h.be) k (fun x hx=>by simp at hx;right;omega)).ext
 exact ⟨he,k.at h.k8 (hn _ h8),k.at h.row (hn _ hh),⟨l,h1.keep k (hn _ hm),h2⟩,⟨k.at h.bw.k1 (hn _ hx),harg _ he⟩,h.le⟩
theorem Zi0 (tmps:Array Value) (w:World):(results Tryz.f29 tmps).run Tryz.prog w= .ok (.tuple #[tmps.getD 6 undef,tmps.getD 7 undef]) w:=by
 have hr:Tryz.f29.results=#[.tmp 6,.tmp 7]:=rfl
 simp only [results,hr]
 simp
structure JN (calls:List (Cl×Int)) (ans:List An) (o:List Cl) (k:Nat):Prop where
 a:1<=k->Xl (Zcv calls o) 0=none
 b:2<=k->Xl (ans.map (Zev o (X0 o V4 ⟨[],1⟩))) 0=none
 c:3<=k->Xl (ans.map (Zhq calls o)) 0=none
theorem Zpe {l:List Int} {j:Nat} (hj:j<l.length) (h:Xl l 0=Xl (l.drop j) j):(l[j]'hj=0->Xl l 0=Xl (l.drop (j+1)) (j+1))/\(l[j]'hj≠0->Xl l 0=some (l[j]'hj,j)):=by
 rw [List.drop_eq_getElem_cons hj,Xl] at h
 exact ⟨fun e=>by rw [h,if_pos e],fun e=>by rw [h,if_neg e]⟩
theorem U0 (calls:List (Cl×Int)) (ans:List An) (o:List Cl) (cv av ov:Value) (w:World) (hcs:Z4 w 4 cv calls.length (calls.flatMap Yr)) (has:Z4 w 6 av ans.length (ans.flatMap An.cells)) (hos:Z4 w 3 ov o.length (o.flatMap Cl.cells))
 (hc:∀x∈calls,J2 w x.1) (ha:∀a∈ans,AnR w a) (ho:∀c∈o,J2 w c) (hn:o.length<=1000):
 Calls Tryz.prog 29 #[cv,av,ov] w (Ret (.tuple #[.int .u8 (Y6 calls ans o).1,.int .i64 (Y6 calls ans o).2]) w):=by
 have han63:(ans.length:Int)<=9223372036854775807:=by
  obtain ⟨_,_,_,_,h2,_⟩:=has
  unfold maxLen at h2
  omega
 have hcv:∃A cap,cv= .slice A calls.length cap:=let ⟨A,cap,h,_⟩:=hcs;⟨A,cap,h⟩
 have hav:∃A cap,av= .slice A ans.length cap:=let ⟨A,cap,h,_⟩:=has;⟨A,cap,h⟩
 have hov:∃A cap,ov= .slice A o.length cap:=let ⟨A,cap,h,_⟩:=hos;⟨A,cap,h⟩
 obtain ⟨CA,ccap,rfl⟩:=hcv
 obtain ⟨AA,acap,rfl⟩:=hav
 obtain ⟨OA,ocap,rfl⟩:=hov
 have hmk:∀W,(Instr.makeMap 157 none).run Tryz.prog W= .ok (.map (some W.heap.size)) (W.alloc (.map #[] 0)):=fun _=>rfl
 obtain ⟨W3,hW3⟩:∃W3,W3=((w.alloc (.map #[] 0)).alloc (.cells #[.slice CA calls.length ccap,.slice AA ans.length acap,.slice OA o.length ocap,.map (some w.heap.size)] 159)).alloc (.cells #[.pointer (some ⟨w.heap.size+1,0,none⟩)] 156):=⟨_,rfl⟩
 have f1:=Zb w (.map #[] 0)
 have f2:=Zb (w.alloc (.map #[] 0)) (.cells #[.slice CA calls.length ccap,.slice AA ans.length acap,.slice OA o.length ocap,.map (some w.heap.size)] 159)
 have f3:=Zb ((w.alloc (.map #[] 0)).alloc (.cells #[.slice CA calls.length ccap,.slice AA ans.length acap,.slice OA o.length ocap,.map (some w.heap.size)] 159)) (.cells #[.pointer (some ⟨w.heap.size+1,0,none⟩)] 156)
 have g1:=Zc w (.map #[] 0)
 have g2:=Zc (w.alloc (.map #[] 0)) (.cells #[.slice CA calls.length ccap,.slice AA ans.length acap,.slice OA o.length ocap,.map (some w.heap.size)] 159)
 have g3:=Zc ((w.alloc (.map #[] 0)).alloc (.cells #[.slice CA calls.length ccap,.slice AA ans.length acap,.slice OA o.length ocap,.map (some w.heap.size)] 159)) (.cells #[.pointer (some ⟨w.heap.size+1,0,none⟩)] 156)
 rw [size_alloc] at f2
 rw [size_alloc,size_alloc] at f3
 rw [<-hW3] at f3 g3
 have f2:=g3.at f2
 have f1:=(Xt g2 g3).at f1
 have G3:=Xt g1 (Xt g2 g3)
 have S3:W3.heap.size=w.heap.size+3:=by rw [hW3,size_alloc,size_alloc,size_alloc]
 clear g1 g2 g3
 refine (callsIn_wide (n:=0)).1 ?_
 refine callsIn_of_wp_marks Tryz.func29 rfl trivial ?_ rfl
 refine wpIn_wide.2 ?_
 simp only [Tryz.ntmps29,List.size_toArray,List.length_cons,List.length_nil,Nat.reduceAdd,Nat.reduceSub,Array.replicate_succ,Array.replicate_zero,List.push_toArray,List.append_toArray,List.nil_append,List.cons_append]
 go_wp2_with fail
 rw [<-hW3]
 clear hW3
 refine (bw_any _ W3 ⟨_,_,_,rfl⟩).mono ?_
 rintro e W4 ⟨xb,rfl,g4,f4⟩
 have hI0:JuI w (w.heap.size+1+1) (w.heap.size+1) w.heap.size xb (.slice CA calls.length ccap) (.slice AA ans.length acap) (.slice OA o.length ocap) o 0 W4:=
  ⟨Xt G3 g4,g4.at f3,g4.at f2,⟨[],⟨_,_,g4.at f1,⟨rfl⟩⟩,fun n=>by rw [Nat.sub_zero,ffrom_end];rfl⟩,⟨f4,hos.ext (Xt G3 g4)⟩,Nat.zero_le _⟩
 have hx4:=Zg f4
 have s4:=g4.size
 have hoarg:∀W,Ext w W->Z4 W 3 (.slice OA o.length ocap) o.length (o.flatMap Cl.cells):=fun W k=>hos.ext k
 clear f1 f2 f3 f4 hmk
 go_wp2_with fail
 have hit:=bw_iter xb (.slice OA o.length ocap) o
 refine (wpIn_wide (n:=0)).1 ?_
 refine Zex rfl (enters_of Tryz.func112 (by kernel_rfl) rfl)
  (fun s A B x hx=>by obtain ⟨_,_,_,rfl⟩:=hx;rfl) hit
  (JuI w (w.heap.size+1+1) (w.heap.size+1) w.heap.size xb (.slice CA calls.length ccap) (.slice AA ans.length acap) (.slice OA o.length ocap) o) (fun _ _=>False)
  (fun s A B hs hk=>hs.keep (by omega) (by omega) (by omega) (by omega) hx4 hoarg hk) (fun cd A B hs hk=>hs) (fun s A hs=>hs.bw)
  (fun s A B B' x hx _ _=>hx) hI0 ?asg ?asgk ?assign ?body ?done ?stop
 case asg=>exact fun x a W=>∃(c:Cl) (i:Int) (eb:Nat),x=#[.int .i64 i,Jf c]/\(∃A n cap,c.v= .slice A n cap)/\W.heap[eb]? =some (.cells c.cells.toArray 73 (0,0))/\W4.heap.size+2<=eb/\a={ tmps:=#[a.tmps.getD 0 undef,a.tmps.getD 1 undef,a.tmps.getD 2 undef,a.tmps.getD 3 undef,a.tmps.getD 4 undef,a.tmps.getD 5 undef,a.tmps.getD 6 undef,a.tmps.getD 7 undef,.pointer (some ⟨w.heap.size+1+1,0,none⟩),.int .i64 i,.pointer (some ⟨eb,0,none⟩),a.tmps.getD 11 undef,a.tmps.getD 12 undef,a.tmps.getD 13 undef,a.tmps.getD 14 undef,a.tmps.getD 15 undef,a.tmps.getD 16 undef,a.tmps.getD 17 undef,a.tmps.getD 18 undef,a.tmps.getD 19 undef,a.tmps.getD 20 undef,a.tmps.getD 21 undef,a.tmps.getD 22 undef,a.tmps.getD 23 undef,a.tmps.getD 24 undef,a.tmps.getD 25 undef,a.tmps.getD 26 undef,a.tmps.getD 27 undef,a.tmps.getD 28 undef,a.tmps.getD 29 undef,a.tmps.getD 30 undef,a.tmps.getD 31 undef,a.tmps.getD 32 undef,a.tmps.getD 33 undef,a.tmps.getD 34 undef,a.tmps.getD 35 undef,a.tmps.getD 36 undef,a.tmps.getD 37 undef,a.tmps.getD 38 undef,a.tmps.getD 39 undef,a.tmps.getD 40 undef,a.tmps.getD 41 undef,a.tmps.getD 42 undef,a.tmps.getD 43 undef,a.tmps.getD 44 undef,a.tmps.getD 45 undef,a.tmps.getD 46 undef,a.tmps.getD 47 undef,a.tmps.getD 48 undef,a.tmps.getD 49 undef,a.tmps.getD 50 undef,a.tmps.getD 51 undef,a.tmps.getD 52 undef,a.tmps.getD 53 undef,a.tmps.getD 54 undef,a.tmps.getD 55 undef,a.tmps.getD 56 undef,a.tmps.getD 57 undef,a.tmps.getD 58 undef,a.tmps.getD 59 undef,a.tmps.getD 60 undef,a.tmps.getD 61 undef,a.tmps.getD 62 undef,a.tmps.getD 63 undef,a.tmps.getD 64 undef,a.tmps.getD 65 undef,a.tmps.getD 66 undef,a.tmps.getD 67 undef,a.tmps.getD 68 undef,a.tmps.getD 69 undef],defers:=[] }
 case asgk=>
  rintro x a W W' ⟨c,i,eb,h1,h2,h3,h4,h5⟩ hk
  exact ⟨c,i,eb,h1,h2,hk.at h3 (by simp;omega),h4,h5⟩
 case assign=>
  rintro lp s A x W K ⟨j,hj,hjs,rfl⟩ hsz hK
  have hck:=ho _ (List.getElem_mem hj)
  generalize (o[j]'hj)=c at *
  have hcs:∃A n cap,c.v= .slice A n cap:=let ⟨A,cap,h,_⟩:=hck.1;⟨A,_,cap,h⟩
  have ea:=Zc W (.cells c.cells.toArray 73)
  have ha2:=Zb W (.cells c.cells.toArray 73)
  have hKa:=fun a h=>hK a _ ea ⟨c,(j:Int),W.heap.size,rfl,hcs,ha2,by omega,h⟩
  obtain ⟨cc,cn,cv,cst⟩:=c
  obtain ⟨CV,cvn,cvc,rfl⟩:=hcs
  unfold Cl.cells at hKa
  unfold Jf
  clear hK ea ha2
  refine wpIn_seq (U6 (by kernel_rfl) (by rintro ⟨_,_,hh⟩;exact hh) ?_)
  go_wp2
  refine U6 (by kernel_rfl) (by rintro ⟨_,_,hh⟩;exact hh) ?_
  go_wp2
 case body=>
  rintro s A W x aX hIA hk ⟨j,hj,hjs,rfl⟩ hsz ⟨c,i,eb,hxy,hcv,heb,hle,hact⟩
  obtain ⟨V,hV⟩:∃V:Nat->Value,∀i,aX.tmps.getD i undef=V i:=⟨_,fun _=>rfl⟩
  simp only [hV] at hact
  clear hV
  subst hact
  have hcc:i=(j:Int)/\c.cl=(o[j]'hj).cl/\c.nu=(o[j]'hj).nu:=by
   simp [Jf] at hxy
   exact ⟨hxy.1.symm,hxy.2.1.symm,hxy.2.2.1.symm⟩
  obtain ⟨rfl,hc1,hc2⟩:=hcc
  have hI:=hIA.keep (by omega) (by omega) (by omega) (by omega) hx4 hoarg hk
  obtain ⟨ln,hm,hlk⟩:=hI.mp
  have hnext:∀n,lkN (Zhp ln (c.cl,c.nu) (j:Int)) n=Zfp o (o.length-(s+1)) n:=fun n=>by
   rw [lkN_upd,show o.length-(s+1)=j by omega,Zrw o j hj,hlk,show o.length-s=j+1 by omega]
   show (if ((c.cl,c.nu)==n)=true then _ else _)=if (((o[j]'hj).cl,(o[j]'hj).nu)==n)=true then _ else _
   rw [hc1,hc2]
  have HNX:=Lib.hid hnext
  obtain ⟨cc,cn,cv,cst⟩:=c
  obtain ⟨CV,cvn,cvc,hcv⟩:=hcv
  simp only at hcv
  subst hcv
  simp only [Cl.cells] at heb HNX
  have hnm:=fun W=>Zbz cc cn (.slice CV cvn cvc) W
  simp only [nmV] at hnm
  have hW4:=hk.size
  have h8:=hI.k8
  have hr:=hI.row
  clear hnext hlk hxy hc1 hc2 hIA hk
  refine wpIn_block ?_
  refine V1 (by kernel_rfl) (by kernel_rfl) (by rintro ⟨_,_,hh⟩;exact hh) (Ui Zk 7 [] (by kernel_rfl) ?_)
  intro w1 hw1
  have l1:=fun wq (hq:Cls w1 wq)=>Zgj (c:=⟨cc,cn,.slice CV cvn cvc,cst⟩) ((Xt hw1 (Xe hq)).at heb)
  simp only [Jf] at l1
  have x8:=fun u:ExtOf w1=>Za (j:=0) ((Xt hw1 u.h).at h8) rfl
  have x3:=fun u:ExtOf w1=>Za (j:=3) ((Xt hw1 u.h).at hr) rfl
  have hnu:=fun u:ExtOf w1=>hnm u.to
  simp only [Zj,Rg.hsB,Nat.reduceAdd,↓reduceIte]
  repeat (first | go_big_quiet_step ((go_at_call 63;exact Ret.cls (hnu _))) | (go_big_quiet_want;(refine Zu 73 _ _ _ rfl rfl l1 ?_);go_big_quiet_on;simp only [Act.put,Rg.puB]))
  refine wpQuiet_nil ?_
  refine Zi (by kernel_rfl) ?_
  intro w9 e9 e9'
  simp only [Rg.puB]
  clear l1 x8 x3 hnu hw1
  obtain ⟨wm,rm,hm9,km,sm⟩:=run_updN w.heap.size ln (cc,cn) (j:Int) w9 (hm.ext e9)
  simp only [nmV,nmI] at rm
  go_wp2
  have hD:∀D,D<W.heap.size->D≠w.heap.size->wm.heap[D]? =W.heap[D]? :=fun D h1 h2=>(km.block D (Nat.lt_of_lt_of_le h1 e9.size) (by simpa using h2)).trans (e9.block h1)
  have hbm:∀{b:Nat} {ob:Obj},W.heap[b]? =some ob->b≠w.heap.size->wm.heap[b]? =some ob:=fun {b ob} h1 h2=>(hD b (Zg h1) h2).trans h1
  have hEm:Ext w wm:=(Keep.trans_fresh (S:=[]) (Kx (Xt hI.be e9)) km (fun x hx=>by right;simp at hx;omega)).ext
  have hxbm:xb≠w.heap.size:=fun e=>by
   obtain ⟨_,_,h1,_⟩:=hm
   have h2:=hI.bw.k1
   rw [e,h1] at h2
   cases h2
  exact ⟨⟨hD _ (by omega) (by omega),hD _ (by omega) (by omega)⟩,s+1,⟨hEm,hbm h8 (by omega),hbm hr (by omega),⟨_,hm9,HNX.out⟩,⟨hbm hI.bw.k1 hxbm,hoarg _ hEm⟩,by omega⟩,rfl⟩
 case done=>
  intro s W hend hI hD
  subst hend
  obtain ⟨ln,hm,hlk⟩:=hI.mp
  have hH:His W (w.heap.size+1) w.heap.size calls ans o (.slice CA calls.length ccap) (.slice AA ans.length acap) (.slice OA o.length ocap):=
   ⟨hI.row,hcs.ext hI.be,has.ext hI.be,hos.ext hI.be,fun x hx=>(hc x hx).ext hI.be,fun a hx=>(ha a hx).ext hI.be,fun c hx=>(ho c hx).ext hI.be,⟨ln,hm,fun n=>by rw [hlk,Nat.sub_self,Zrv]⟩⟩
  have h8:=hI.k8
  have EW:=hI.be
  have hmf:∀(fn:Fn) (first cap:Array Value) (w:World),(Instr.makeFunc fn first cap).run Tryz.prog w= .ok (.func fn first cap) w:=fun _ _ _ _=>rfl
  clear hI hlk hm hI0 hit
  go_wp2_with fail
  refine Z1 Zk [9,10,11,17,18] (by kernel_rfl) (by kernel_rfl) ?_
  intro w1 hw1
  have x8:=fun u:ExtOf w1=>Za (j:=0) ((Xt hw1 u.h).at h8) rfl
  simp only [Zj,Rg.hsB,Nat.reduceBEq,Nat.reduceAdd,↓reduceIte]
  repeat (go_big_quiet_step ((fail)))
  refine wpQuiet_nil ?_
  clear x8 hw1
  refine Z9 9 30 _ #[.slice OA o.length ocap] _ (by rfl) _ _ (by rfl) Tryz.func30 rfl rfl (by kernel_rfl) (by rfl) (by kernel_rfl) (by decide) ?_
  intro wa h0a ha2
  refine (Zn4 _ o wa (hos.ext (Xt EW h0a)) (fun c hx=>(ho c hx).ext (Xt EW h0a)) hn).mono ?_
  rintro e wb ⟨rv,rs,rfl,eb,hrs,hmap⟩
  have h0b:=Xt h0a eb
  refine ⟨_,rfl,h0b,?_⟩
  have hrv:∃A n cap,rv= .slice A n cap:=let ⟨A,cap,h,_⟩:=hrs.1;⟨A,_,cap,h⟩
  refine Z9 10 65 _ #[.pointer (some ⟨w.heap.size+1,0,none⟩),rv] _ (by rfl) _ _ (by rfl) Tryz.func65 rfl rfl (by kernel_rfl) (by rfl) (by kernel_rfl) (by decide) ?_
  intro wc h0c hc2
  refine (Zp0 _ rv wc hrv).mono ?_
  rintro e wd ⟨b1,b2,rfl,ed,hb1,hb2⟩
  have h0d:=Xt h0c ed
  refine ⟨_,rfl,h0d,?_⟩
  have Ebd:=Xt hc2 ed
  refine J6 Zk 11 [12,13,14,15,16,17,18,19] 2 (by kernel_rfl) h0d ?_
  intro w1 hw1
  simp only [Act.put,Rg.puC,Rg.puB]
  simp only [Zj,Rg.hsB,Nat.reduceBEq,Nat.reduceAdd,↓reduceIte]
  repeat (go_big_quiet_step (fail))
  refine wpQuiet_nil ?_
  refine Yt 17 _ (.cells #[.int .i64 o.length,.func (.func 64) #[.pointer (some ⟨w.heap.size+1,0,none⟩)] #[],.int .i64 ans.length,.func (.func 116) #[] (Zsf b1 b2),.int .i64 ans.length,.func (.func 66) #[.pointer (some ⟨w.heap.size+1,0,none⟩)] #[]] 168) (fun p=>.slice (some ⟨p,0,none⟩) 3 3) (by intro w;go_simp) rfl (by kernel_rfl) (by decide) rfl ?_
  intro bl we h0e he hle0 hle1 hbl
  refine J6 Zk 18 [19] 0 (by kernel_rfl) h0e ?_
  intro w1 hw1
  simp only [Act.put,Rg.puC,Rg.puB]
  simp only [Zj,Rg.hsB,Nat.reduceBEq,Nat.reduceAdd,↓reduceIte]
  repeat (go_big_quiet_step (fail))
  refine wpQuiet_nil ?_
  refine Y3 (by kernel_rfl) ?_
  intro wf ef ef'
  try simp only [Act.put,Rg.puC,Rg.puB]
  have h0f:=Xt h0d (Xt h0e ef)
  have EWf:=Xt EW h0f
  have hDf:=h0f.at hD
  have hHf:=hH.ext h0f
  have Eaf:Ext wb wf:=Xt Ebd (Xt h0e ef)
  have hrsf:=hrs.ext Eaf
  have hb1f:=(Xt h0e ef).at hb1
  have hb2f:=(Xt h0e ef).at hb2
  have hblf:=ef.at hbl
  have hrl:rs.length=o.length:=by rw [<-Uy o V4 ⟨[],1⟩,<-hmap,List.length_map]
  have hc0:∀W,Ext wf W->∀i (hi:i<(Zcv calls o).length),Calls Tryz.prog 64 #[.pointer (some ⟨w.heap.size+1,0,none⟩),.int .i64 (i:Int)] W (Ret (.int .u8 ((Zcv calls o)[i]'hi)) W):=fun W k i hi=>by
   have hi2:i<o.length:=by unfold Zcv at hi;simpa using hi
   obtain ⟨_,h2⟩:=Ze7 (calls:=calls) hi2
   rw [h2]
   exact Zoy _ _ _ _ _ _ _ _ i hi2 W (hHf.ext k)
  have hc1:∀W,Ext wf W->∀i (hi:i<(ans.map (Zev o (X0 o V4 ⟨[],1⟩))).length),Calls Tryz.prog 116 #[.int .i64 (i:Int),.pointer (some ⟨b1,0,none⟩),.pointer (some ⟨b2,0,none⟩)] W (Ret (.int .u8 ((ans.map (Zev o (X0 o V4 ⟨[],1⟩)))[i]'hi)) W):=fun W k i hi=>by
   have hi2:i<ans.length:=by simpa using hi
   have h:=Znd _ _ _ _ _ _ _ _ _ _ _ _ i hi2 W (hHf.ext k) (k.at hb1f) (k.at hb2f) (hrsf.ext k) hrl
   rw [hmap] at h
   rw [List.getElem_map]
   exact h
  have hc2:∀W,Ext wf W->∀i (hi:i<(ans.map (Zhq calls o)).length),Calls Tryz.prog 66 #[.pointer (some ⟨w.heap.size+1,0,none⟩),.int .i64 (i:Int)] W (Ret (.int .u8 ((ans.map (Zhq calls o))[i]'hi)) W):=fun W k i hi=>by
   have hi2:i<ans.length:=by simpa using hi
   rw [List.getElem_map]
   exact Zre _ _ _ _ _ _ _ _ i hi2 W (hHf.ext k)
  have hl0:(Zcv calls o).length=o.length:=by unfold Zcv;simp
  have hl1:(ans.map (Zev o (X0 o V4 ⟨[],1⟩))).length=ans.length:=List.length_map _
  have hl2:(ans.map (Zhq calls o)).length=ans.length:=List.length_map _
  have ldq:∀W,Ext wf W->∀k n f1 a1 a2,k<3->(∀j v,[Value.int .i64 n,.func f1 a1 a2][j]? =some v->(#[.int .i64 o.length,.func (.func 64) #[.pointer (some ⟨w.heap.size+1,0,none⟩)] #[],.int .i64 ans.length,.func (.func 116) #[] (Zsf b1 b2),.int .i64 ans.length,.func (.func 66) #[.pointer (some ⟨w.heap.size+1,0,none⟩)] #[]]:Array Value)[k*2+j]? =some v)->(loadVar 168 ⟨bl,k*2,none⟩).run Tryz.prog W= .ok (.agg #[.int .i64 n,.func f1 a1 a2]) W:=fun W kw k n f1 a1 a2 hk hj=>
   Zm W bl (k*2) 168 [.int .i64 n,.func f1 a1 a2] _ (fun j u hu=>Za (kw.at hblf) (hj j u hu)) Tryz.underlying168 rfl (by kernel_rfl)
  have hres:JN calls ans o 3->Y6 calls ans o=(0,-1):=fun h=>by unfold Y6;rw [h.a (by decide)];simp only;rw [h.b (by decide)];simp only;rw [h.c (by decide)]
  generalize hjr:Y6 calls ans o=jr at *
  have HJR:=Lib.hid hjr
  have HRES:=Lib.hid hres
  clear hjr hres hmap hrs hb1 hb2 hbl hH hD h8 hcs has hos hc ha ho h0a h0b h0c h0d h0e ha2 eb ed he ef
  go_wp2_with fail
  go_loopw [12,13,14,51,52,53,54,55,56,57,58,59,60,61,62,63,64,65,66,67,68,69] (fun _ _ _ kv _ _ _ _ _ _ _ _ _ _ _ _ _ _ _ _ _ _ wr=>∃k:Nat,k<=3/\kv= .int .i64 k/\Ext wf wr/\JN calls ans o k) (fun _ _ _ kv _ _ _ _ _ _ _ _ _ _ _ _ _ _ _ _ _ _ _=>3-(intOf kv).toNat)
  case atStart=>exact ⟨0,by omega,rfl,Ext.refl _,⟨fun h=>by omega,fun h=>by omega,fun h=>by omega⟩⟩
  obtain ⟨k,hk,rfl,er,hjn⟩:=hrel
  rcases (show k=0\/k=1\/k=2\/k=3 by omega) with rfl | rfl | rfl | rfl
  focus
   have ldk:=ldq wr er 0 o.length _ _ _ (by omega) (fun j v hv=>by rcases (show j=0\/j=1 by have:=(List.getElem?_eq_some_iff.1 hv).1;simp at this;omega) with rfl | rfl<;>exact hv)
   obtain ⟨LL,hLL⟩:∃LL,LL=Zcv calls o:=⟨_,rfl⟩
   have hcal:=And.intro hl0 hc0
   rw [<-hLL] at hcal
   have HRS:=Lib.hid (show ∀x (i:Nat),Xl LL 0=some (x,i)->jr=(x,(i:Int)) from fun x i h=>by rw [<-HJR.out];unfold Y6;rw [<-hLL,h])
   have HNX:=Lib.hid (show Xl LL 0=none->JN calls ans o 1 from fun h=>⟨fun _=>hLL▸h,fun h=>by omega,fun h=>by omega⟩)
  rotate_left
  focus
   have ldk:=ldq wr er 1 ans.length _ _ _ (by omega) (fun j v hv=>by rcases (show j=0\/j=1 by have:=(List.getElem?_eq_some_iff.1 hv).1;simp at this;omega) with rfl | rfl<;>exact hv)
   obtain ⟨LL,hLL⟩:∃LL,LL=ans.map (Zev o (X0 o V4 ⟨[],1⟩)):=⟨_,rfl⟩
   have hcal:=And.intro hl1 hc1
   rw [<-hLL] at hcal
   have HRS:=Lib.hid (show ∀x (i:Nat),Xl LL 0=some (x,i)->jr=(x,(i:Int)) from fun x i h=>by rw [<-HJR.out];unfold Y6;rw [hjn.a (by decide)];simp only;rw [<-hLL,h])
   have HNX:=Lib.hid (show Xl LL 0=none->JN calls ans o 2 from fun h=>⟨fun _=>hjn.a (by decide),fun _=>hLL▸h,fun h=>by omega⟩)
  rotate_left
  focus
   have ldk:=ldq wr er 2 ans.length _ _ _ (by omega) (fun j v hv=>by rcases (show j=0\/j=1 by have:=(List.getElem?_eq_some_iff.1 hv).1;simp at this;omega) with rfl | rfl<;>exact hv)
   obtain ⟨LL,hLL⟩:∃LL,LL=ans.map (Zhq calls o):=⟨_,rfl⟩
   have hcal:=And.intro hl2 hc2
   rw [<-hLL] at hcal
   have HRS:=Lib.hid (show ∀x (i:Nat),Xl LL 0=some (x,i)->jr=(x,(i:Int)) from fun x i h=>by rw [<-HJR.out];unfold Y6;rw [hjn.a (by decide)];simp only;rw [hjn.b (by decide)];simp only;rw [<-hLL,h])
   have HNX:=Lib.hid (show Xl LL 0=none->JN calls ans o 3 from fun h=>⟨fun _=>hjn.a (by decide),fun _=>hjn.b (by decide),fun _=>hLL▸h⟩)
  rotate_left
  ·have HJ3:=Lib.hid hjn
   clear hjn hc0 hc1 hc2 ldq hl0 hl1 hl2
   go_wp2_with fail
   refine ⟨by simp,.inl ⟨_,_,rfl,run_takeDeferred (er.at hDf),?_⟩⟩
   refine ⟨_,Zi0 _ _,?_,(Keep.trans_fresh (S:=[]) (Kx (Xt EWf er)) (Yk (S:=[W4.heap.size]) _ (by simp)) (fun x hx=>by simp at hx;right;omega)).ext⟩
   rw [HRES.out HJ3.out]
   rfl
  all_goals
   clear hLL hc0 hc1 hc2 ldq hl0 hl1 hl2 hjn
   have hln:=hcal.1
   have hn63:(LL.length:Int)<=9223372036854775807:=by omega
   rw [<-hln] at ldk
   go_wp2_with (first
    | (refine Zd rfl 168 _ _ _ rfl rfl ldk ?_)
    | (refine Zr rfl 168 rfl (.cells #[.int .i64 0,.nilFunc] 168) _ rfl (by go_simp) ?_
       intro w2 e2 h2)
    | (refine Ze rfl rfl 168 _ _ rfl wr.heap.size _ rfl rfl 168 _ h2 (by kernel_rfl) (by rfl) (by rfl) ?_
       intro w3 hb3 ho3 h3
       have y0:=Za (j:=0) h3 rfl))
   have e3:Ext wr w3:=hb3 _ _ (Nat.le_refl _) e2
   have E3:=Xt er e3
   have ew:=wr.heap.size
   clear ldk y0 ho3 hb3 h2 e2 er e3
   go_loopw [13,14,57,58,59,60,61,62,63,64,65,66,67,68] (fun _ _ jv _ _ _ _ _ _ _ _ _ _ _ wr=>∃j:Nat,j<=LL.length/\jv= .int .i64 j/\Ext w3 wr/\Xl LL 0=Xl (LL.drop j) j) (fun _ _ jv _ _ _ _ _ _ _ _ _ _ _ _=>LL.length-(intOf jv).toNat)
   case atStart=>exact ⟨0,Nat.zero_le _,rfl,Ext.refl _,rfl⟩
   obtain ⟨j,hj,rfl,ej,hfj⟩:=hrel
   by_cases hjn:j<LL.length
   ·have hstep:=Zpe hjn hfj
    have hcj:=hcal.2 _ (Xt E3 ej) j hjn
    have y1:=Za (j:=1) (ej.at h3) rfl
    generalize (LL[j]'hjn)=x at *
    have HST:=Lib.hid hstep
    clear hstep hfj
    by_cases hx:x=0
    ·subst hx
     go_wp2_with fail
     refine hcj.mono ?_
     rintro e w7 ⟨rfl,e7⟩
     clear y1 hcj
     go_wp2_with fail
     exact ⟨⟨j+1,by omega,by go_num,Xt ej e7,by first | exact HST.out.1 rfl | exact HST.out.1 trivial⟩,by simp [intOf];omega⟩
    have hx2:(x !=0)=true:=by simpa using hx
    go_wp2_with fail
    refine hcj.mono ?_
    rintro e w7 ⟨rfl,e7⟩
    clear y1 hcj
    go_wp2_with fail
    have E7:=Xt E3 (Xt ej e7)
    refine ⟨by simp,.inl ⟨_,_,rfl,run_takeDeferred (E7.at hDf),?_⟩⟩
    refine ⟨_,Zi0 _ _,?_,(Keep.trans_fresh (S:=[]) (Kx (Xt EWf E7)) (Yk (S:=[W4.heap.size]) _ (by simp)) (fun x hx=>by simp at hx;right;omega)).ext⟩
    rw [HRS.out _ _ (HST.out.2 hx)]
    rfl
   have hj':j=LL.length:=by omega
   subst hj'
   rw [List.drop_length] at hfj
   have HF:=Lib.hid hfj
   clear hfj hjn
   go_wp2_with fail
   exact ⟨⟨_,by omega,by first | rfl | go_num,Xt E3 ej,HNX.out HF.out⟩,by simp [intOf]⟩
 case stop=>
  rintro cd W hF hD
  exact hF.elim
theorem U1 (v:Value) (o:List Cl) (w:World) (h:Z4 w 3 v o.length (o.flatMap Cl.cells)) (hok:∀c∈o,J2 w c):
 Calls Tryz.prog 26 #[.slice none 0 0,.slice none 0 0,v] w (fun e w'=>(∃b,e= .returned (.bool b))/\Ext w w'):=by
 obtain ⟨A,cap,rfl,h1,h2,h3,h4⟩:=h
 have hn63:(o.length:Int)<=9223372036854775807:=by unfold maxLen at h2;omega
 by_cases hg:(o.length:Int) > 150
 ·have hg':decide ((o.length:Int) > 150)=true:=by simpa using hg
  go_enter Tryz.func26,Tryz.ntmps26
  go_wp2
  go_ret
  exact ⟨⟨_,rfl⟩,Ext.refl _⟩
 have hg':decide ((o.length:Int) > 150)=false:=by simpa using hg
 go_enter Tryz.func26,Tryz.ntmps26
 go_wp2
 go_loopw [7,8,21,22,23,24,25,26,27,28,29,30,31,32,33,34,35,36] (fun nv iv _ _ _ _ _ _ _ _ _ _ _ _ _ _ _ _ wr=>∃(z:Int),nv= .int .i64 z/\iv= .int .i64 0/\Ext w wr) (fun _ _ _ _ _ _ _ _ _ _ _ _ _ _ _ _ _ _ _=>0)
 case atStart=>exact ⟨_,rfl,rfl,Ext.refl _⟩
 obtain ⟨z,rfl,rfl,er⟩:=hrel
 go_wp2
 go_loopw [7,9,37,38,39,40,41,42,43,44,45,46,47,48,49,50,51] (fun nv iv _ _ _ _ _ _ _ _ _ _ _ _ _ _ _ wr=>∃(z:Int) (k:Nat),k<=o.length/\nv= .int .i64 z/\iv= .int .i64 k/\Ext w wr) (fun _ iv _ _ _ _ _ _ _ _ _ _ _ _ _ _ _ _=>o.length-(intOf iv).toNat)
 case atStart=>exact ⟨_,0,Nat.zero_le _,rfl,rfl,er⟩
 clear er
 obtain ⟨z,k,hk,rfl,rfl,er⟩:=hrel
 by_cases hkn:k<o.length
 ·rcases h4 with h4 | ⟨g,off,rfl,hlt,hcell⟩
  ·omega
  have hj1:(0:Int)<=(k:Int):=by omega
  have hj2:(k:Int)<(o.length:Int):=by omega
  have hc:wr.cell? ⟨g,off+(k*3+2),none⟩=some (o[k]'hkn).v:=(Zh (er.block hlt)).trans (hcell (k*3+2) _ (Ug o k 2 hkn (by omega)))
  obtain ⟨⟨B,cap',hv,_⟩,_⟩:=hok _ (List.getElem_mem hkn)
  rw [hv,<-Nat.add_assoc] at hc
  generalize (o[k]'hkn).st.length=n' at *
  clear hcell hok hv h3
  go_wp2
  exact ⟨⟨_,k+1,by omega,rfl,by go_num,er⟩,by simp [intOf];omega⟩
 have hk':k=o.length:=by omega
 subst hk'
 clear h4 h3 hok hg hg'
 go_wp2
 go_loopw [7,10,52,53,54,55,56,57,58,59,60,61,62,63,64,65,66] (fun nv iv _ _ _ _ _ _ _ _ _ _ _ _ _ _ _ wr=>∃(z:Int),nv= .int .i64 z/\iv= .int .i64 0/\Ext w wr) (fun _ _ _ _ _ _ _ _ _ _ _ _ _ _ _ _ _ _=>0)
 case atStart=>exact ⟨_,rfl,rfl,er⟩
 clear er
 obtain ⟨z,rfl,rfl,er⟩:=hrel
 go_wp2
 go_ret
 exact ⟨⟨_,rfl⟩,er⟩
theorem Zm9:(Tryz.prog.info? 73).map (fun i=>(i.zero,i.size,i.bytes))=some (some (.agg #[.int .u8 0,.int .u64 0,.slice none 0 0]),3,40):=by kernel_rfl
def numC (i:Nat) (x:Cmd):Cl:=⟨1+(i:Int)%8,1+(i:Int) / 8,x.1,x.2⟩
def Zb8 (l:List Cmd):List Cl:=l.zipIdx.map fun x=>numC x.2 x.1
theorem Ua (l:List Cmd):(Zb8 l).length=l.length:=by unfold Zb8;simp
theorem Zja (l:List Cmd) (k:Nat) (hk:k<l.length):(Zb8 l)[k]'(by rw [Ua];exact hk)=numC k (l[k]'hk):=by
 unfold Zb8
 simp
theorem numR_next (l:List Cmd) (k:Nat) (hk:k<l.length):((Zb8 l).take (k+1)).flatMap Cl.cells=((Zb8 l).take k).flatMap Cl.cells++(numC k (l[k]'hk)).cells:=by
 rw [List.take_succ_eq_append_getElem (by rw [Ua];exact hk),List.flatMap_append,Zja l k hk]
 simp
theorem Zbx {l:List Cmd} {c:Cl} (h:c∈Zb8 l):∃x∈l,c.v=x.1/\c.st=x.2:=by
 unfold Zb8 at h
 obtain ⟨⟨x,i⟩,hm,rfl⟩:=List.mem_map.1 h
 exact ⟨x,(List.mem_zipIdx' hm).2▸List.getElem_mem _,rfl,rfl⟩
theorem Vr (va:Value) (l:List Cmd) (w:World) (ha:Z4 w 1 va l.length (l.flatMap Cmd.cells)) (hla:∀x∈l,Za9 w x) (hn:l.length<=1048576):
 Calls Tryz.prog 25 #[va] w (fun e w'=>∃v,e= .returned v/\Ext w w'/\w'.ownsRow w.heap.size 73 3 v l.length ((Zb8 l).flatMap Cl.cells)):=by
 obtain ⟨A,cap,rfl,q1,q2,q3,q4⟩:=ha
 obtain ⟨i0,hi,hz0,hz1,hz2⟩:=info_parts Zm9
 have hn63:(l.length:Int)<=9223372036854775807:=by omega
 go_enter Tryz.func25,Tryz.ntmps25
 go_wp2_with fail
 go_loopw [3,4,5,6,7,8,9,10,11,12,13,14,15,16,17,18,19,20,21,22,23,24,25,26] (fun ov iv _ _ _ _ _ _ _ _ _ _ _ _ _ _ _ _ _ _ _ _ _ _ wr=>∃k:Nat,k<=l.length/\iv= .int .i64 k/\Ext w wr/\wr.ownsRow w.heap.size 73 3 ov k (((Zb8 l).take k).flatMap Cl.cells)) (fun _ iv _ _ _ _ _ _ _ _ _ _ _ _ _ _ _ _ _ _ _ _ _ _ _=>l.length-(intOf iv).toNat)
 case atStart=>exact ⟨0,Nat.zero_le _,rfl,Ext.refl _,World.ownsRow_nil _ _ _ _⟩
 obtain ⟨k,hk,rfl,er,hown⟩:=hrel
 by_cases hkn:k<l.length
 ·rcases q4 with q4 | ⟨ga,off,rfl,hlt,hcell⟩
  ·omega
  have hj1:(0:Int)<=(k:Int):=by omega
  have hj2:(k:Int)<(l.length:Int):=by omega
  have hld:=load_cmd ((Zh (er.block hlt)).trans (hcell k _ (Zpq l k hkn)))
  have HNX:=Lib.hid (numR_next l k hkn)
  obtain ⟨⟨B,cap',hv,_⟩,_⟩:=hla _ (List.getElem_mem hkn)
  generalize (l[k]'hkn)=x at *
  obtain ⟨vx,sx⟩:=x
  simp only at hv hld
  subst hv
  obtain ⟨A0,cap0,rfl⟩:=Yb hown
  clear hcell hla q3
  have hws:=er.size
  go_wp2_with (first
   | (refine Zd rfl 42 _ _ _ rfl rfl hld ?_)
   | (at_builtin;refine wpList_append_own _ rfl _ _ 59 rfl w.heap.size 73 i0 (.agg #[.int .u8 0,.int .u64 0,.slice none 0 0]) 3 40 Tryz.underlying59 hi hz0 hz1 hz2 rfl (by decide) (.slice A0 k cap0) k _ rfl (Zn hown (Zc _ _)) ⟨wr.heap.size,0,none⟩ 1 1 [.int .u8 (1+(k:Int)%8),.int .u64 (1+(k:Int) / 8),.slice B sx.length cap'] rfl rfl (Zax wr [.int .u8 (1+(k:Int)%8),.int .u64 (1+(k:Int) / 8),.slice B sx.length cap'] _) (fun x hx=>by simp only [List.mem_cons,List.not_mem_nil,or_false] at hx;rcases hx with rfl | rfl | rfl<;>rfl) (by unfold maxLen;omega) (by omega) (by simp;omega) ?_
      intro v' w3 hown' hgrow3 hnil3
      have E3:Ext w w3:=(Yy (S:=[]) (Kx (Xt er (Zc wr (.cells #[.int .u8 (1+(k:Int)%8),.int .u64 (1+(k:Int) / 8),.slice B sx.length cap'] 73)))) hgrow3 (fun q hq=>.inr (hown.lt q hq).1)).ext))
  exact ⟨⟨k+1,by omega,by go_num,E3,by rw [HNX.out];exact hown'⟩,by simp [intOf];omega⟩
 have hk':k=l.length:=by omega
 subst hk'
 rw [<-Ua l,List.take_length,Ua] at hown
 clear q4 hkn
 go_wp2_with fail
 go_ret
 exact ⟨_,rfl,er,hown⟩
theorem ca_info:(Tryz.prog.info? 155).map (fun i=>(i.zero,i.size,i.bytes))=some (some (.agg #[.int .u8 0,.int .u64 0,.slice none 0 0,.int .u64 0]),4,48):=by kernel_rfl
theorem an_info:(Tryz.prog.info? 71).map (fun i=>(i.zero,i.size,i.bytes))=some (some (.agg #[.int .u8 0,.int .u64 0,.int .i64 0,.int .i64 0,.slice none 0 0,.int .u64 0]),6,64):=by kernel_rfl
theorem Ze6 {w w':World} {base size n base2 size2 n2:Nat} {e e2:TypeId} {v v2:Value} {xs xs2:List Value} (h1:w.ownsRow base e size v n xs) (h2:w.ownsRow base2 e2 size2 v2 n2 xs2) (hne:e≠e2) (hg:w.grownBy w' v.ownBlock):w'.ownsRow base2 e2 size2 v2 n2 xs2:=by
 refine ⟨h2.1,?_⟩
 rcases h2.2 with h4 | ⟨b,cap,cur,rfl,hb,hh,rest⟩
 ·exact .inl h4
 exact .inr ⟨b,cap,cur,rfl,hb,(hg.block b (Zg hh) (fun he=>Yh h1 hh hne he.symm)).trans hh,rest⟩
def Zbs (o:List Cl) (rs:List (Rep×Value)) (ts:List Int) (k:Nat):Option An:=
 match o[k]?,rs[k]? with
 | some c,some r=>if ts[k]? =some 0 then none else some ⟨c.cl,c.nu,r.1.1,r.1.2.1,r.2,r.1.2.2,10*(k:Int)+(ts[k]?).getD 0⟩
 | _,_=>none
def Uo (o:List Cl) (rs:List (Rep×Value)) (ts:List Int) (k:Nat):List An:=(List.range k).filterMap (Zbs o rs ts)
theorem Zk7 (o:List Cl) (rs:List (Rep×Value)) (ts:List Int) (k:Nat):Uo o rs ts (k+1)=Uo o rs ts k++(Zbs o rs ts k).toList:=by
 unfold Uo
 rw [List.range_succ,List.filterMap_append]
 cases h:Zbs o rs ts k<;>simp [h]
theorem Vc (o:List Cl):(Ya o).length=o.length:=by unfold Ya;simp
theorem Znb (o:List Cl) (k:Nat) (hk:k<o.length):((Ya o).take (k+1)).flatMap Yr=((Ya o).take k).flatMap Yr++Yr (o[k]'hk,10*(k:Int)):=by
 rw [List.take_succ_eq_append_getElem (by rw [Vc];exact hk),List.flatMap_append]
 unfold Ya
 simp
theorem Zdm (ov tv:Value) (o:List Cl) (ts:List Int) (w:World) (ho:Z4 w 3 ov o.length (o.flatMap Cl.cells)) (hoc:∀c∈o,J2 w c) (hn:o.length<=1000) (ht:Z4 w 1 tv ts.length (ts.map (Value.int .u8))) (hts:∀t∈ts,0<=t/\t<=255):
 Calls Tryz.prog 28 #[ov,tv] w (fun e w'=>∃cv av rs wb,e= .returned (.tuple #[cv,av])/\Ext w wb/\Ext wb w'/\w'.ownsRow wb.heap.size 155 4 cv o.length ((Ya o).flatMap Yr)/\
  w'.ownsRow wb.heap.size 71 6 av (Uo o rs ts o.length).length ((Uo o rs ts o.length).flatMap An.cells)/\(∀x∈rs,Zs wb w.heap.size 2 x.2 x.1.2.2.length (gtC x.1.2.2))/\rs.map (·.1)=X0 o V4 ⟨[],1⟩):=by
 have hrep:=Zi2 ov o w ho hoc hn
 obtain ⟨OA,ocap,rfl,o1,o2,o3,o4⟩:=ho
 obtain ⟨TA,tcap,rfl,t1,t2,t3,t4⟩:=ht
 obtain ⟨i0,hi,hz0,hz1,hz2⟩:=info_parts ca_info
 obtain ⟨i1,yi,yz0,yz1,yz2⟩:=info_parts an_info
 have hn63:(o.length:Int)<=9223372036854775807:=by omega
 have hm63:(ts.length:Int)<=9223372036854775807:=by unfold maxLen at t2;omega
 have HOC:=Lib.hid hoc
 have HTS:=Lib.hid hts
 clear hoc hts
 go_enter Tryz.func28,Tryz.ntmps28
 go_wp2_with fail
 refine hrep.mono ?_
 rintro e wb ⟨rv,rs,rfl,e1,hrs,hmap,hlo⟩
 have HLO:=Lib.hid hlo
 clear hlo
 have hrl:rs.length=o.length:=by rw [<-Uy o V4 ⟨[],1⟩,<-hmap,List.length_map]
 obtain ⟨RA,rcap,rfl,r1,r2,r3,r4⟩:=hrs.1
 have HRS:=Lib.hid hrs
 have HMAP:=Lib.hid hmap
 obtain ⟨base,hbase⟩:∃base,wb.heap.size=base:=⟨_,rfl⟩
 rw [hrl] at r4
 clear hrep hrs hmap r3 o3 t3
 go_wp2_with fail
 go_loopw [7,8,9,10,13,14,15,16,17,18,19,20,21,22,23,24,25,26,27,28,29,30,31,32,33,34,35,36,37,38,39,40,41,42,43,44,45,46,47,48,49,50,51,52,53,54,55,56,57,58,59,60,61,62,63,64,65,66,67,68,69,70,71,72,73,74,75,76,77] (fun cv av iv _ _ _ _ _ _ _ _ _ _ _ _ _ _ _ _ _ _ _ _ _ _ _ _ _ _ _ _ _ _ _ _ _ _ _ _ _ _ _ _ _ _ _ _ _ _ _ _ _ _ _ _ _ _ _ _ _ _ _ _ _ _ _ _ _ _ wr=>∃k:Nat,k<=o.length/\iv= .int .i64 k/\Ext wb wr/\wr.ownsRow base 155 4 cv k (((Ya o).take k).flatMap Yr)/\wr.ownsRow base 71 6 av (Uo o rs ts k).length ((Uo o rs ts k).flatMap An.cells)) (fun _ _ iv _ _ _ _ _ _ _ _ _ _ _ _ _ _ _ _ _ _ _ _ _ _ _ _ _ _ _ _ _ _ _ _ _ _ _ _ _ _ _ _ _ _ _ _ _ _ _ _ _ _ _ _ _ _ _ _ _ _ _ _ _ _ _ _ _ _ _=>o.length-(intOf iv).toNat)
 case atStart=>exact ⟨0,Nat.zero_le _,rfl,Ext.refl _,World.ownsRow_nil _ _ _ _,World.ownsRow_nil _ _ _ _⟩
 obtain ⟨k,hk,rfl,er,hown,hans⟩:=hrel
 by_cases hkn:k<o.length
 ·rcases o4 with o4 | ⟨go,off,rfl,hlt,hcell⟩
  ·omega
  rcases r4 with r4 | ⟨gr,offr,rfl,hltr,hcellr⟩
  ·omega
  have hj1:(0:Int)<=(k:Int):=by omega
  have hj2:(k:Int)<(o.length:Int):=by omega
  have hld:=Zds wr go off k o hkn (fun j u hu=>(Zh ((Xt e1 er).block hlt)).trans (hcell j u hu))
  have hkr:k<rs.length:=by omega
  have hlr:=fun W (kw:Ext wb W)=>Zfb W gr offr k rs hkr (fun j u hu=>(Zh (kw.block hltr)).trans (hcellr j u hu))
  have hnc:=Znb o k hkn
  have hna:=Zk7 o rs ts k
  have hra:Zbs o rs ts k=if ts[k]? =some 0 then none else some ⟨(o[k]'hkn).cl,(o[k]'hkn).nu,(rs[k]'hkr).1.1,(rs[k]'hkr).1.2.1,(rs[k]'hkr).2,(rs[k]'hkr).1.2.2,10*(k:Int)+(ts[k]?).getD 0⟩:=by
   unfold Zbs
   rw [List.getElem?_eq_getElem hkn,List.getElem?_eq_getElem hkr]
  have hcx:=HOC.out _ (List.getElem_mem hkn)
  have hrx:=HRS.out.2 _ (List.getElem_mem hkr)
  have hc0:=fun W (kw:Ext wb W)=>(Zh (a:=⟨go,off+(k*3+0),none⟩) ((Xt e1 kw).block hlt)).trans (hcell (k*3+0) _ (Ug o k 0 hkn (by omega)))
  have hc1:=fun W (kw:Ext wb W)=>(Zh (a:=⟨go,off+(k*3+1),none⟩) ((Xt e1 kw).block hlt)).trans (hcell (k*3+1) _ (Ug o k 1 hkn (by omega)))
  generalize (o[k]'hkn)=c at *
  generalize (rs[k]'hkr)=r at *
  obtain ⟨cc,cn,cv,cs⟩:=c
  obtain ⟨⟨re,ri,rg⟩,rv⟩:=r
  have hcs:∃A n cap,cv= .slice A n cap:=let ⟨A,cap,h,_⟩:=hcx.1;⟨A,_,cap,h⟩
  obtain ⟨CV,cvn,cvc,rfl⟩:=hcs
  have hrvs:∃A n cap,rv= .slice A n cap:=let ⟨A,cap,h,_⟩:=hrx;⟨A,_,cap,h⟩
  obtain ⟨RV,rvn,rvc,rfl⟩:=hrvs
  obtain ⟨A0,cap0,rfl⟩:=Yb hown
  obtain ⟨A1,cap1,rfl⟩:=Yb hans
  simp only [Jf,Yr,Zn1,Nat.add_zero,<-Nat.add_assoc] at hld hnc hra hlr hc0 hc1
  have HNC:=Lib.hid hnc
  have HNA:=Lib.hid hna
  have HRA:=Lib.hid hra
  clear hcell hcellr hcx hrx hnc hna hra
  by_cases hkt:k<ts.length
  focus
   rcases t4 with t4 | ⟨gt,offt,rfl,hltt,hcellt⟩
   ·omega
   have hj3:(k:Int)<(ts.length:Int):=by omega
   have hct:=fun W (kw:Ext wb W)=>(Zh (a:=⟨gt,offt+k,none⟩) ((Xt e1 kw).block hltt)).trans (hcellt k _ (by rw [List.getElem?_map,List.getElem?_eq_getElem hkt];rfl))
   have htb:=HTS.out _ (List.getElem_mem hkt)
   have hra:=HRA.out
   rw [List.getElem?_eq_getElem hkt] at hra
   generalize (ts[k]'hkt)=t at *
   clear hcellt
   have hc3:=hct wr er
   by_cases ht0:t=0
   ·subst ht0
    rw [if_pos rfl] at hra
    have HNX:=Lib.hid (HNA.out.trans (by rw [hra,Option.toList_none,List.append_nil]))
    clear hra htb
    have hws:=er.size
    have E0:=Zc wr (.cells #[.int .u8 cc,.int .u64 cn,.slice CV cvn cvc,.int .u64 (10*(k:Int))] 155)
    go_wp2_with (first
     | (refine Zd rfl 73 _ _ _ rfl rfl hld ?_)
     | (at_builtin;refine wpList_append_own _ rfl _ _ 62 rfl base 155 i0 (.agg #[.int .u8 0,.int .u64 0,.slice none 0 0,.int .u64 0]) 4 48 Tryz.underlying62 hi hz0 hz1 hz2 rfl (by decide) (.slice A0 k cap0) k _ rfl (Zn hown (Zc _ _)) ⟨wr.heap.size,0,none⟩ 1 1 [.int .u8 cc,.int .u64 cn,.slice CV cvn cvc,.int .u64 (10*(k:Int))] rfl rfl (Zax wr [.int .u8 cc,.int .u64 cn,.slice CV cvn cvc,.int .u64 (10*(k:Int))] _) (fun x hx=>by simp only [List.mem_cons,List.not_mem_nil,or_false] at hx;rcases hx with rfl | rfl | rfl | rfl<;>rfl) (by unfold maxLen;omega) (by omega) (by simp;omega) ?_
        intro v' w3 hown' hgrow3 hnil3
        have E3:Ext wb w3:=(Yy (S:=[]) (Kx (Xt er E0)) hgrow3 (fun q hq=>.inr (by have:=(hown.lt q hq).1;omega))).ext
        have hans3:=Ze6 (Zn hown E0) (Zn hans E0) (by decide) hgrow3))
    have hc4:=hct w3 E3
    go_wp2_with fail
    exact ⟨⟨k+1,by omega,by go_num,E3,by rw [HNC.out];exact hown',by rw [HNX.out];exact hans3⟩,by simp [intOf];omega⟩
   rw [if_neg (by simpa using ht0)] at hra
   have ht1:(t==0)=false:=by simpa using ht0
   have ht2:0<=t:=htb.1
   have ht3:t<=255:=htb.2
   obtain ⟨at_,hat⟩:∃at_,10*(k:Int)+t=at_:=⟨_,rfl⟩
   have HRAT:=Lib.hid (show Zbs o rs ts k=some ⟨cc,cn,re,ri,.slice RV rvn rvc,rg,at_⟩ by rw [hra,<-hat];rfl)
   have HAT:=Lib.hid hat
   clear hra htb hat
   have hws:=er.size
   have E0:=Zc wr (.cells #[.int .u8 cc,.int .u64 cn,.slice CV cvn cvc,.int .u64 (10*(k:Int))] 155)
   go_wp2_with (first
    | (refine Zd rfl 73 _ _ _ rfl rfl hld ?_)
    | (at_builtin;refine wpList_append_own _ rfl _ _ 62 rfl base 155 i0 (.agg #[.int .u8 0,.int .u64 0,.slice none 0 0,.int .u64 0]) 4 48 Tryz.underlying62 hi hz0 hz1 hz2 rfl (by decide) (.slice A0 k cap0) k _ rfl (Zn hown (Zc _ _)) ⟨wr.heap.size,0,none⟩ 1 1 [.int .u8 cc,.int .u64 cn,.slice CV cvn cvc,.int .u64 (10*(k:Int))] rfl rfl (Zax wr [.int .u8 cc,.int .u64 cn,.slice CV cvn cvc,.int .u64 (10*(k:Int))] _) (fun x hx=>by simp only [List.mem_cons,List.not_mem_nil,or_false] at hx;rcases hx with rfl | rfl | rfl | rfl<;>rfl) (by unfold maxLen;omega) (by omega) (by simp;omega) ?_
       intro v' w3 hown' hgrow3 hnil3
       have E3:Ext wb w3:=(Yy (S:=[]) (Kx (Xt er E0)) hgrow3 (fun q hq=>.inr (by have:=(hown.lt q hq).1;omega))).ext
       have hans3:=Ze6 (Zn hown E0) (Zn hans E0) (by decide) hgrow3))
   have hc4:=hct w3 E3
   go_wp2_with fail
  rotate_left
  focus
   have hra:=HRA.out
   rw [List.getElem?_eq_none (by omega),if_neg (by simp),Option.getD_none,Int.add_zero] at hra
   obtain ⟨at_,hat⟩:∃at_,10*(k:Int)=at_:=⟨_,rfl⟩
   have HRAT:=Lib.hid (show Zbs o rs ts k=some ⟨cc,cn,re,ri,.slice RV rvn rvc,rg,at_⟩ by rw [hra,hat])
   have HAT:=Lib.hid hat
   clear hra hat
   have hws:=er.size
   have E0:=Zc wr (.cells #[.int .u8 cc,.int .u64 cn,.slice CV cvn cvc,.int .u64 (10*(k:Int))] 155)
   go_wp2_with (first
    | (refine Zd rfl 73 _ _ _ rfl rfl hld ?_)
    | (at_builtin;refine wpList_append_own _ rfl _ _ 62 rfl base 155 i0 (.agg #[.int .u8 0,.int .u64 0,.slice none 0 0,.int .u64 0]) 4 48 Tryz.underlying62 hi hz0 hz1 hz2 rfl (by decide) (.slice A0 k cap0) k _ rfl (Zn hown (Zc _ _)) ⟨wr.heap.size,0,none⟩ 1 1 [.int .u8 cc,.int .u64 cn,.slice CV cvn cvc,.int .u64 (10*(k:Int))] rfl rfl (Zax wr [.int .u8 cc,.int .u64 cn,.slice CV cvn cvc,.int .u64 (10*(k:Int))] _) (fun x hx=>by simp only [List.mem_cons,List.not_mem_nil,or_false] at hx;rcases hx with rfl | rfl | rfl | rfl<;>rfl) (by unfold maxLen;omega) (by omega) (by simp;omega) ?_
       intro v' w3 hown' hgrow3 hnil3
       have E3:Ext wb w3:=(Yy (S:=[]) (Kx (Xt er E0)) hgrow3 (fun q hq=>.inr (by have:=(hown.lt q hq).1;omega))).ext
       have hans3:=Ze6 (Zn hown E0) (Zn hans E0) (by decide) hgrow3))
  all_goals
   rw [HAT.out]
   have hal:(Uo o rs ts k).length<=k:=by
    unfold Uo
    exact Nat.le_trans (List.length_filterMap_le _ _) (by simp)
   have hnx:Uo o rs ts (k+1)=Uo o rs ts k++[⟨cc,cn,re,ri,.slice RV rvn rvc,rg,at_⟩]:=by rw [HNA.out,HRAT.out];rfl
   have HNX:=Lib.hid hnx
   have HAL:=Lib.hid hal
   generalize Uo o rs ts k=al at *
   clear hnx hal
   refine Zf Zk 18 [17] (by kernel_rfl) (by kernel_rfl) ?_
   intro w1 hw1
   have c0u:∀u:ExtOf w1,u.to.cell? ⟨go,off+k*3,none⟩=_:=fun u=>hc0 u.to (Xt E3 (Xt hw1 u.h))
   have c1u:∀u:ExtOf w1,u.to.cell? ⟨go,off+k*3+1,none⟩=_:=fun u=>hc1 u.to (Xt E3 (Xt hw1 u.h))
   have l1:=fun wq (hq:Cls w1 wq)=>hlr wq (Xt E3 (Xt hw1 (Xe hq)))
   simp only [Zj,Rg.hsB,Nat.reduceBEq,Nat.reduceAdd,↓reduceIte]
   repeat (first | go_big_quiet_step (fail) | (go_big_quiet_want;(refine Zu 38 _ _ _ rfl rfl l1 ?_);go_big_quiet_on;simp only [Act.put,Rg.puB]))
   refine wpQuiet_nil ?_
   clear c0u c1u l1
   refine Yt 17 _ (.cells #[.int .u8 cc,.int .u64 cn,.int .i64 re,.int .i64 ri,.slice RV rvn rvc,.int .u64 at_] 71) (fun p=>.slice (some ⟨p,0,none⟩) 1 1) (by intro w;go_simp) rfl (by kernel_rfl) (by decide) rfl ?_
   intro bl w4 h04 h4 hle0 hle1 hbl
   refine Zi (by kernel_rfl) ?_
   intro w5 e5 e5'
   simp only [Act.put,Rg.puB]
   have hbl5:=e5'.at hbl
   have E5:=Xt E3 e5
   have hown5:=Zn hown' e5
   have hans5:=Zn hans3 e5
   have hb5:=E5.size
   clear hbl h04 h4 hle0 hle1 hans hans3 hown
   go_wp2_with (first
    | (at_builtin;refine wpList_append_own _ rfl _ _ 63 rfl base 71 i1 (.agg #[.int .u8 0,.int .u64 0,.int .i64 0,.int .i64 0,.slice none 0 0,.int .u64 0]) 6 64 Tryz.underlying63 yi yz0 yz1 yz2 rfl (by decide) (.slice A1 al.length cap1) al.length _ rfl hans5 ⟨bl,0,none⟩ 1 1 [.int .u8 cc,.int .u64 cn,.int .i64 re,.int .i64 ri,.slice RV rvn rvc,.int .u64 at_] rfl rfl (fun j u hu=>by rw [Addr.add_mid,Nat.zero_add];exact Za hbl5 (by simpa using hu)) (fun x hx=>by simp only [List.mem_cons,List.not_mem_nil,or_false] at hx;rcases hx with rfl | rfl | rfl | rfl | rfl | rfl<;>rfl) (by have:=HAL.out;unfold maxLen;omega) (by have:=HAL.out;omega) (by omega) ?_
       intro v6 w6 hown6 hgrow6 hnil6
       have E6:Ext wb w6:=(Yy (S:=[]) (Kx E5) hgrow6 (fun q hq=>.inr (by have:=(hans5.lt q hq).1;omega))).ext
       have hcal6:=Ze6 hans5 hown5 (by decide) hgrow6))
   exact ⟨⟨k+1,by omega,by go_num,E6,by rw [HNC.out];exact hcal6,by rw [HNX.out,List.length_append,List.flatMap_append];simpa [An.cells] using hown6⟩,by simp [intOf];omega⟩
 have hk':k=o.length:=by omega
 subst hk'
 rw [<-Vc o,List.take_length,Vc] at hown
 clear o4 r4 t4 hkn
 go_wp2_with fail
 go_ret2
 exact ⟨_,_,rs,wb,rfl,e1,er,Vx hown (by omega),Vx hans (by omega),HLO.out,HMAP.out⟩
theorem ran_any (ov tv:Value) (o:List Cl) (ts:List Int) (w:World) (ho:Z4 w 3 ov o.length (o.flatMap Cl.cells)) (hoc:∀c∈o,J2 w c) (hn:o.length<=1000) (ht:Z4 w 1 tv ts.length (ts.map (Value.int .u8))) (hts:∀t∈ts,0<=t/\t<=255):
 Calls Tryz.prog 28 #[ov,tv] w (fun e w'=>∃cv av rs,e= .returned (.tuple #[cv,av])/\Ext w w'/\w'.ownsRow w.heap.size 155 4 cv o.length ((Ya o).flatMap Yr)/\
  w'.ownsRow w.heap.size 71 6 av (Uo o rs ts o.length).length ((Uo o rs ts o.length).flatMap An.cells)/\(∀x∈rs,RpOk w' x)/\rs.map (·.1)=X0 o V4 ⟨[],1⟩):=
 (Zdm ov tv o ts w ho hoc hn ht hts).mono fun _e _w' ⟨cv,av,rs,_wb,he,k,k2,h1,h2,h3,h4⟩=>⟨cv,av,rs,he,Xt k k2,Vx h1 k.size,Vx h2 k.size,fun x hx=>Z4.ext (h3 x hx).arg k2,h4⟩
end Go.Proofs.YtipjchbdogmccaaGreat
