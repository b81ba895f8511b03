/- The words that all walks of this seat share: what a call returns, which blocks it keeps, and the ledger's map as a list of pairs. -/
import Derived.Test.YtipjchbdogmccaaGreatRows
import Derived.Test.YtipjchbdogmccaaGreatRgK
import Derived.WalkKit
import Derived.WalkSpells
import Derived.WalkLawsBesides
import Derived.Lib.Hide
import Derived.BigRegion
import Derived.Deep.QuietTactic
import Derived.Deep.DeepFit
namespace Go.Proofs.YtipjchbdogmccaaGreat
open Go.RowKit Go.Rg Go.BigFrame
theorem Zl:Y2 Tryz.prog:=⟨165,2,Tryz.f165,Tryz.func165,by kernel_rfl,by kernel_rfl⟩
def Ret (v:Value) (w:World) (e:Ending) (w':World):Prop:=e= .returned v/\Ext w w'
theorem Ret.cls {v:Value} {w1:World} {p:ExtOf w1} {f:FuncId} {args:Array Value} {P:Program} (h:Calls P f args p.to (Ret v p.to)):
 Calls P f args p.to fun e w''=>e= .returned v/\∃q:ExtOf w1,w''=q.to:=
 h.mono fun _ _ ⟨h1,h2⟩=>⟨h1,⟨_,Xt p.h h2⟩,rfl⟩
def Znq (v:Value) (S:List Nat) (R:World->Prop) (w:World) (e:Ending) (w':World):Prop:=e= .returned v/\Keep S w w'/\R w'
abbrev K3:=Int×Int×Int
abbrev V2:=Int×Int
abbrev Zr:=List (K3×V2)
def Xm (k:K3):Value:= .agg #[.int .u8 k.1,.int .u8 k.2.1,.int .u8 k.2.2]
def U7 (v:V2):Value:= .agg #[.int .i64 v.1,.int .i64 v.2]
def lkO (l:Zr) (k:K3):Option V2:=(l.find? (fun e=>e.1==k)).map (·.2)
def lk (l:Zr) (k:K3):V2:=(lkO l k).getD (0,0)
def upd:Zr->K3->V2->Zr
 | [],k,v=>[(k,v)]
 | x::xs,k,v=>if x.1==k then (k,v)::xs else x::upd xs k v
def del:Zr->K3->Zr
 | [],_=>[]
 | x::xs,k=>if x.1==k then xs else x::del xs k
structure MapRep (es:Array MapEntry) (clock:Nat) (l:Zr):Prop where
 same:es.toList.map (fun e=>(e.key,e.val))=l.map (fun x=>(Xm x.1,U7 x.2))
 keys:(l.map (·.1)).Nodup
 born:(es.toList.map (·.born)).Nodup
 clock:∀e∈es.toList,e.born<clock
def Zdb (w:World) (m:Nat) (l:Zr):Prop:=∃es clock,w.heap[m]? =some (.map es clock)/\MapRep es clock l
def J2 (w:World) (m:Nat) (l:Zr):Prop:=∃l0,l0.Perm l/\Zdb w m l0
theorem J2.keep {S:List Nat} {w w':World} {m:Nat} {l:Zr} (h:J2 w m l) (k:Keep S w w') (hn:m∉S):J2 w' m l:=
 let ⟨l0,hp,es,c,h1,h2⟩:=h
 ⟨l0,hp,es,c,k.at h1 hn,h2⟩
theorem J2.lt {w:World} {m:Nat} {l:Zr} (h:J2 w m l):m<w.heap.size:=let ⟨_,_,_,_,h1,_⟩:=h;Zg h1
theorem J2.keys {w:World} {m:Nat} {l:Zr} (h:J2 w m l):(l.map (·.1)).Nodup:=let ⟨_,hp,_,_,_,h2⟩:=h;(hp.map (·.1)).nodup_iff.1 h2.keys
theorem Zdb.any {w:World} {m:Nat} {l:Zr} (h:Zdb w m l):J2 w m l:=⟨l,List.Perm.refl _,h⟩
theorem Zot {l:Zr} (hn:(l.map (·.1)).Nodup) (k:K3) (v:V2):lkO l k=some v↔(k,v)∈l:=by
 unfold lkO
 rw [Option.map_eq_some_iff]
 constructor
 ·rintro ⟨x,hx,rfl⟩
  have h1:=List.mem_of_find?_eq_some hx
  have h2:=List.find?_some hx
  have h3:x.1=k:=by simpa using h2
  rw [<-h3]
  exact h1
 intro hm
 induction l with
 | nil=>simp at hm
 | cons x xs ih=>
   rw [List.map_cons,List.nodup_cons] at hn
   by_cases hx:x.1=k
   ·rw [List.find?_cons_of_pos (by simpa using hx)]
    rcases List.mem_cons.1 hm with hm | hm
    ·exact ⟨x,rfl,by rw [<-hm]⟩
    exact absurd (by rw [hx];exact List.mem_map_of_mem hm) hn.1
   rw [List.find?_cons_of_neg (by simpa using hx)]
   rcases List.mem_cons.1 hm with hm | hm
   ·exact absurd (by rw [<-hm]) hx
   exact ih hn.2 hm
theorem lkO_perm {l l':Zr} (hn:(l.map (·.1)).Nodup) (hp:l.Perm l') (k:K3):lkO l k=lkO l' k:=by
 have hn':=(hp.map (·.1)).nodup_iff.1 hn
 refine Option.ext fun v=> ?_
 rw [Zot hn,Zot hn',hp.mem_iff]
theorem Zen (k:K3):∀{l:Zr},(l.map (·.1)).Nodup->del l k=l.filter (fun x=> !(x.1==k))
 | [],_=>rfl
 | x::xs,hn=>by
   rw [List.map_cons,List.nodup_cons] at hn
   unfold del
   by_cases hx:x.1==k
   ·have hx':x.1=k:=by simpa using hx
    rw [if_pos hx,List.filter_cons_of_neg (by simp [hx'])]
    refine (List.filter_eq_self.2 fun y hy=> ?_).symm
    have:y.1≠k:=fun e=>hn.1 (by rw [hx',<-e];exact List.mem_map_of_mem hy)
    simpa using this
   rw [if_neg hx,List.filter_cons_of_pos (by simpa using hx),Zen k hn.2]
theorem Zpk {l l':Zr} (hn:(l.map (·.1)).Nodup) (hp:l.Perm l') (k:K3):(del l k).Perm (del l' k):=by
 rw [Zen k hn,Zen k ((hp.map (·.1)).nodup_iff.1 hn)]
 exact hp.filter _
theorem Zml (k:K3) (v:V2):∀l:Zr,(upd l k v).Perm ((k,v)::del l k)
 | []=>List.Perm.refl _
 | x::xs=>by
   unfold upd del
   by_cases hx:x.1==k
   ·rw [if_pos hx,if_pos hx]
   rw [if_neg hx,if_neg hx]
   exact ((Zml k v xs).cons x).trans (List.Perm.swap _ _ _)
theorem upd_perm {l l':Zr} (hn:(l.map (·.1)).Nodup) (hp:l.Perm l') (k:K3) (v:V2):(upd l k v).Perm (upd l' k v):=
 ((Zml k v l).trans ((Zpk hn hp k).cons _)).trans (Zml k v l').symm
theorem eq_key (k k':K3) (w:World):(Op.equal 209 (Xm k) (Xm k')).run Tryz.prog w= .ok (k==k') w:=by
 have hS:Tryz.prog.underlying 209=some (.struct (Tryz.prog.fieldsOf 209)):=by kernel_rfl
 have hp:Tryz.prog.stoodInHeld 209=false:=by kernel_rfl
 unfold Op.equal Op.maxDepth Xm
 rw [show (10000:Nat)=9999+1 from rfl,run_equalIn_agg w 9999 209 _ _ hS hp]
 simp only [Program.fieldsOf,Tryz.underlying209]
 obtain ⟨a,b,c⟩:=k
 obtain ⟨a',b',c'⟩:=k'
 go_simp
 by_cases h1:a=a'<;>by_cases h2:b=b'<;>by_cases h3:c=c'<;>simp [h1,h2,h3]
theorem Znk (n:Nat) (e:Bool) (k:K3) (w:World):(Instr.checkKey e (n+1+1) 209 (Xm k)).run Tryz.prog w= .ok () w:=by
 unfold Xm
 simp only [Instr.checkKey]
 go_simp
theorem Zgp (e:Bool) (k:K3) (w:World):(Instr.checkKey e 10000 209 (Xm k)).run Tryz.prog w= .ok () w:=Znk 9998 e k w
def X5:Zr->K3->Nat->Option (Nat×V2)
 | [],_,_=>none
 | x::xs,k,i=>if x.1==k then some (i,x.2) else X5 xs k (i+1)
theorem Zrs (l:Zr) (k:K3) (i:Nat):(X5 l k i).map (·.2)=lkO l k:=by
 induction l generalizing i with
 | nil=>rfl
 | cons x xs ih=>
   unfold X5 lkO
   by_cases h:x.1==k
   ·simp [h]
   simp only [h,Bool.false_eq_true,if_false,ih]
   unfold lkO
   simp [h]
theorem beq_key (a b:K3):(a==b)=(b==a):=by
 rw [Bool.eq_iff_iff];simp only [beq_iff_eq];exact eq_comm
theorem Zck (k:K3) (w:World):∀(es:List MapEntry) (l:Zr) (i:Nat),es.map (fun e=>(e.key,e.val))=l.map (fun x=>(Xm x.1,U7 x.2))->
 (Instr.findAsking 209 (Xm k) es i).run Tryz.prog w= .ok ((X5 l k i).map (fun r=>(r.1,U7 r.2))) w
 | [],[],_,_=>by simp [Instr.findAsking,X5]
 | [],_::_,_,h=>by simp at h
 | _::_,[],_,h=>by simp at h
 | e::es,x::xs,i,h=>by
   simp only [List.map_cons,List.cons.injEq,Prod.mk.injEq] at h
   obtain ⟨⟨hk,hv⟩,ht⟩:=h
   have ih:=Zck k w es xs (i+1) ht
   unfold Instr.findAsking X5
   rw [Sem.run_bind,hk,eq_key k x.1 w,Result.andThen_ok,beq_key k x.1]
   by_cases hx:x.1==k
   ·simp [hx,hv]
   simp only [hx,Bool.false_eq_true,if_false]
   exact ih
theorem Zcj (k:K3) (w:World) (es:List MapEntry) (l:Zr) (h:es.map (fun e=>(e.key,e.val))=l.map (fun x=>(Xm x.1,U7 x.2))):
 (Instr.findKey 209 (Xm k) es).run Tryz.prog w= .ok ((X5 l k 0).map (fun r=>(r.1,U7 r.2))) w:=by
 unfold Instr.findKey
 rw [Sem.run_bind,run_underlying Tryz.underlying209 w,Result.andThen_ok]
 cases es with
 | nil=>
   cases l with
   | nil=>simp [Instr.findNow,X5]
   | cons x xs=>simp at h
 | cons e es=>
   have hn:Instr.sameNow (.struct (Tryz.prog.fieldsOf 209)) (Xm k) e.key=none:=by
    unfold Instr.sameNow
    rfl
   simp only [Program.fieldsOf,Tryz.underlying209] at hn
   simp only [Instr.findNow,hn]
   exact Zck k w (e::es) l 0 h
theorem Zho (m:Nat) (l:Zr) (k:K3) (ok:Bool) (w:World) (h:Zdb w m l):
 (Instr.lookup 200 (.map (some m)) (Xm k) ok).run Tryz.prog w= .ok (if ok then .tuple #[U7 (lk l k),.bool (lkO l k).isSome] else U7 (lk l k)) w:=by
 obtain ⟨es,clock,hm,hr⟩:=h
 have hf:=Zcj k w es.toList l hr.same
 have hg:(getObj m).run Tryz.prog w= .ok (.map es clock) w:=by simp [getObj,Sem.run,hm]
 have hz:(zeroValue 211).run Tryz.prog w= .ok (U7 (0,0)) w:=by simp [U7,go_sem]
 unfold Instr.lookup
 simp only [Sem.run_bind,run_underlying Tryz.underlying200 w,Result.andThen_ok,hg,Sem.run_pure,Zgp,hf]
 have hlk:=Zrs l k 0
 cases hc:X5 l k 0 with
 | none=>
   rw [hc] at hlk
   simp only [Option.map_none] at hlk
   simp only [Option.map_none,Sem.run_bind,hz,Result.andThen_ok,Sem.run_pure,lk,<-hlk,Option.getD_none,Option.isSome_none]
 | some r=>
   rw [hc] at hlk
   simp only [Option.map_some] at hlk
   simp only [Option.map_some,Sem.run_pure,Sem.run_bind,Result.andThen_ok,lk,<-hlk,Option.getD_some,Option.isSome_some]
theorem same_bits (n:Nat) (k:K3):Instr.sameBits (n+1) (Xm k) (Xm k)=true:=by
 unfold Xm
 simp [Instr.sameBits]
theorem key_stays (k:K3) (w:World):(Instr.keyThatStays (Xm k) (Xm k)).run Tryz.prog w= .ok (Xm k) w:=by
 unfold Instr.keyThatStays
 rw [show (10000:Nat)=9999+1 from rfl,same_bits]
 rfl
abbrev kv (e:MapEntry):Value×Value:=(e.key,e.val)
abbrev enc (x:K3×V2):Value×Value:=(Xm x.1,U7 x.2)
theorem Zk0 (k:K3) (v:V2):∀(l:Zr) (es:List MapEntry) (n i:Nat) (v0:V2),es.map kv=l.map enc->X5 l k n=some (i,v0)->
 n<=i/\(es[i-n]?.map (·.key))=some (Xm k)/\(es.modify (i-n) fun e=>{ e with key:=Xm k,val:=U7 v }).map kv=(upd l k v).map enc/\(upd l k v).map (·.1)=l.map (·.1)
 | [],_,_,_,_,_,h=>by simp [X5] at h
 | x::xs,[],_,_,_,he,_=>by simp at he
 | x::xs,e::es,n,i,v0,he,h=>by
   simp only [List.map_cons,List.cons.injEq,Prod.mk.injEq] at he
   obtain ⟨⟨hk,hv⟩,ht⟩:=he
   unfold X5 at h
   by_cases hx:x.1==k
   ·simp only [hx,if_true,Option.some.injEq,Prod.mk.injEq] at h
    obtain ⟨rfl,_⟩:=h
    have hk':x.1=k:=by simpa using hx
    refine ⟨Nat.le_refl _,by simp [hk,hk'],?_,by simp [upd,hk']⟩
    simp [upd,hk',ht]
   simp only [hx,Bool.false_eq_true,if_false] at h
   obtain ⟨h1,h2,h3,h4⟩:=Zk0 k v xs es (n+1) i v0 ht h
   have hs:i-n=(i-(n+1))+1:=by omega
   refine ⟨by omega,by rw [hs];simpa using h2,?_,by simp [upd,hx,h4]⟩
   rw [hs]
   have hkv:kv e=enc x:=by unfold kv enc;rw [hk,hv]
   simp only [List.modify_succ_cons,List.map_cons,upd,hx,Bool.false_eq_true,if_false,h3,hkv]
theorem upd_new (k:K3) (v:V2) (b:Nat):∀(l:Zr) (es:List MapEntry) (n:Nat),es.map kv=l.map enc->X5 l k n=none->
 (es++[({ key:=Xm k,val:=U7 v,born:=b }:MapEntry)]).map kv=(upd l k v).map enc/\(upd l k v).map (·.1)=l.map (·.1)++[k]/\k∉l.map (·.1)
 | [],[],_,_,_=>by simp [upd]
 | [],_::_,_,he,_=>by simp at he
 | _::_,[],_,he,_=>by simp at he
 | x::xs,e::es,n,he,h=>by
   simp only [List.map_cons,List.cons.injEq,Prod.mk.injEq] at he
   obtain ⟨⟨hk,hv⟩,ht⟩:=he
   unfold X5 at h
   by_cases hx:x.1==k
   ·simp [hx] at h
   simp only [hx,Bool.false_eq_true,if_false] at h
   obtain ⟨h1,h2,h3⟩:=upd_new k v b xs es (n+1) ht h
   refine ⟨?_,by simp [upd,hx,h2],?_⟩
   ·have hkv:kv e=enc x:=by unfold kv enc;rw [hk,hv]
    simp only [List.cons_append,List.map_cons,upd,hx,Bool.false_eq_true,if_false,hkv]
    rw [h1]
   simp only [List.map_cons,List.mem_cons,not_or]
   exact ⟨fun e=>hx (by simp [e]),h3⟩
theorem Zl9 (k:K3):∀(l:Zr) (es:List MapEntry) (n i:Nat) (v0:V2),es.map kv=l.map enc->X5 l k n=some (i,v0)->
 n<=i/\(es.eraseIdx (i-n)).map kv=(del l k).map enc
 | [],_,_,_,_,_,h=>by simp [X5] at h
 | x::xs,[],_,_,_,he,_=>by simp at he
 | x::xs,e::es,n,i,v0,he,h=>by
   simp only [List.map_cons,List.cons.injEq,Prod.mk.injEq] at he
   obtain ⟨⟨hk,hv⟩,ht⟩:=he
   unfold X5 at h
   by_cases hx:x.1==k
   ·simp only [hx,if_true,Option.some.injEq,Prod.mk.injEq] at h
    obtain ⟨rfl,_⟩:=h
    exact ⟨Nat.le_refl _,by simp [del,hx,ht]⟩
   simp only [hx,Bool.false_eq_true,if_false] at h
   obtain ⟨h1,h2⟩:=Zl9 k xs es (n+1) i v0 ht h
   have hs:i-n=(i-(n+1))+1:=by omega
   refine ⟨by omega,?_⟩
   rw [hs]
   simp [del,hx,h2,hk,hv]
theorem Zpl (k:K3):∀(l:Zr) (n:Nat),X5 l k n=none->del l k=l
 | [],_,_=>rfl
 | x::xs,n,h=>by
   unfold X5 at h
   by_cases hx:x.1==k
   ·simp [hx] at h
   simp only [hx,Bool.false_eq_true,if_false] at h
   simp [del,hx,Zpl k xs (n+1) h]
theorem Zh8 (k:K3):∀l:Zr,(del l k).Sublist l
 | []=>.slnil
 | x::xs=>by
   unfold del
   split
   ·exact .cons _ (List.Sublist.refl _)
   exact .cons_cons _ (Zh8 k xs)
theorem Jz {w:World} {m:Nat} {ob ob':Obj} (h:w.heap[m]? =some ob):Keep [m] w { w with heap:=w.heap.setIfInBounds m ob' }/\({ w with heap:=w.heap.setIfInBounds m ob' }:World).heap[m]? =some ob':=by
 have hlt:=Zg h
 refine ⟨⟨rfl,rfl,rfl,by simp,fun k hk hn=> ?_⟩,by simp [hlt]⟩
 have:m≠k:=fun e=>hn (by simp [e])
 simp [Array.getElem?_setIfInBounds_ne this]
theorem Zis (m:Nat) (l:Zr) (k:K3) (v:V2) (w:World) (h:Zdb w m l):
 ∃w',(Instr.mapUpdate 200 (.map (some m)) (Xm k) (U7 v)).run Tryz.prog w= .ok () w'/\Zdb w' m (upd l k v)/\Keep [m] w w'/\w'.heap.size=w.heap.size:=by
 obtain ⟨es,clock,hm,hr⟩:=h
 have hf:=Zcj k w es.toList l hr.same
 have hg:(getObj m).run Tryz.prog w= .ok (.map es clock) w:=by simp [getObj,Sem.run,hm]
 have hset:∀ob',(setObj m ob').run Tryz.prog w= .ok () { w with heap:=w.heap.setIfInBounds m ob' }:=fun ob'=>by simp [setObj,Sem.run,hm]
 unfold Instr.mapUpdate
 simp only [Sem.run_bind,run_underlying Tryz.underlying200 w,Result.andThen_ok,hg,Zgp,hf]
 cases hc:X5 l k 0 with
 | none=>
   obtain ⟨h1,h2,h3⟩:=upd_new k v clock l es.toList 0 hr.same hc
   simp only [Option.map_none,hset]
   obtain ⟨k1,k2⟩:=Jz (ob':= .map (es.push { key:=Xm k,val:=U7 v,born:=clock }) (clock+1)) hm
   refine ⟨_,rfl,⟨_,_,k2,⟨by simpa using h1,?_,?_,?_⟩⟩,k1,by simp⟩
   ·rw [h2]
    refine List.nodup_append.2 ⟨hr.keys,by simp,fun x hx y hy=> ?_⟩
    have:y=k:=by simpa using hy
    subst this
    exact fun e=>h3 (e▸hx)
   ·simp only [Array.toList_push,List.map_append,List.map_cons,List.map_nil]
    refine List.nodup_append.2 ⟨hr.born,by simp,fun x hx y hy=> ?_⟩
    have:y=clock:=by simpa using hy
    subst this
    obtain ⟨e,he,rfl⟩:=List.mem_map.1 hx
    have:=hr.clock e he
    omega
   intro e he
   simp only [Array.toList_push,List.mem_append,List.mem_singleton] at he
   rcases he with he | rfl
   ·have:=hr.clock e he;omega
   simp
 | some r=>
   obtain ⟨i,v0⟩:=r
   obtain ⟨_,h2,h3,h4⟩:=Zk0 k v l es.toList 0 i v0 hr.same hc
   simp only [Nat.sub_zero] at h2 h3
   have hkey:((es[i]?).map (·.key)).getD (Xm k)=Xm k:=by
    rw [<-Array.getElem?_toList,h2];rfl
   simp only [Option.map_some,Sem.run_bind,hkey,key_stays,Result.andThen_ok,hset]
   obtain ⟨k1,k2⟩:=Jz (ob':= .map (es.modify i fun e=>{ e with key:=Xm k,val:=U7 v }) clock) hm
   have hb:((es.modify i fun e=>{ e with key:=Xm k,val:=U7 v }).toList.map (·.born))=es.toList.map (·.born):=by
    rw [Array.toList_modify]
    apply List.ext_getElem?
    intro j
    simp only [List.getElem?_map,List.getElem?_modify]
    cases es.toList[j]? with
    | none=>simp
    | some e=>by_cases hij:i=j<;>simp [hij]
   refine ⟨_,rfl,⟨_,_,k2,⟨by simpa using h3,by rw [h4];exact hr.keys,by rw [hb];exact hr.born,fun e he=> ?_⟩⟩,k1,by simp⟩
   have:e.born∈es.toList.map (·.born):=by rw [<-hb];exact List.mem_map_of_mem he
   obtain ⟨e',he',hbe⟩:=List.mem_map.1 this
   rw [<-hbe]
   exact hr.clock e' he'
theorem Zhp (m:Nat) (l:Zr) (k:K3) (w:World) (h:Zdb w m l) (ty:TypeId) (ts:Array TypeId) (hts:ts[0]? =some 200):
 ∃w',(Builtin.delete_ ts ty #[.map (some m),Xm k]).run Tryz.prog w= .ok (.tuple #[]) w'/\Zdb w' m (del l k)/\Keep [m] w w'/\w'.heap.size=w.heap.size:=by
 obtain ⟨es,clock,hm,hr⟩:=h
 have hf:=Zcj k w es.toList l hr.same
 have hg:(getObj m).run Tryz.prog w= .ok (.map es clock) w:=by simp [getObj,Sem.run,hm]
 have hset:∀ob',(setObj m ob').run Tryz.prog w= .ok () { w with heap:=w.heap.setIfInBounds m ob' }:=fun ob'=>by simp [setObj,Sem.run,hm]
 have e0:(#[Value.map (some m),Xm k]:Array Value)[0]? =some (.map (some m)):=rfl
 have e1:(#[Value.map (some m),Xm k]:Array Value)[1]? =some (Xm k):=rfl
 unfold Builtin.delete_
 simp only [hts,e0,e1,Sem.run_bind,run_underlying Tryz.underlying200 w,Result.andThen_ok,hg,Zgp,hf]
 cases hc:X5 l k 0 with
 | none=>
   simp only [Option.map_none,hset,Sem.run_bind,Result.andThen_ok,Sem.run_pure]
   obtain ⟨k1,k2⟩:=Jz (ob':= .map es clock) hm
   exact ⟨_,rfl,⟨_,_,k2,by rw [Zpl k l 0 hc];exact hr⟩,k1,by simp⟩
 | some r=>
   obtain ⟨i,v0⟩:=r
   obtain ⟨_,h2⟩:=Zl9 k l es.toList 0 i v0 hr.same hc
   simp only [Nat.sub_zero] at h2
   simp only [Option.map_some,hset,Sem.run_bind,Result.andThen_ok,Sem.run_pure]
   obtain ⟨k1,k2⟩:=Jz (ob':= .map (es.eraseIdxIfInBounds i) clock) hm
   have hsub:(es.eraseIdxIfInBounds i).toList=es.toList.eraseIdx i:=by simp
   refine ⟨_,rfl,⟨_,_,k2,⟨by rw [hsub];exact h2,hr.keys.sublist ((Zh8 k l).map _),by rw [hsub];exact hr.born.sublist ((List.eraseIdx_sublist _ _).map _),fun e he=>hr.clock e ?_⟩⟩,k1,by simp⟩
   rw [hsub] at he
   exact List.mem_of_mem_eraseIdx he
theorem Vb (m:Nat) (l:Zr) (k:K3) (ok:Bool) (w:World) (h:J2 w m l):
 (Instr.lookup 200 (.map (some m)) (Xm k) ok).run Tryz.prog w= .ok (if ok then .tuple #[U7 (lk l k),.bool (lkO l k).isSome] else U7 (lk l k)) w:=by
 have hk:=h.keys
 obtain ⟨l0,hp,h0⟩:=h
 have e:=lkO_perm hk hp.symm k
 have:=Zho m l0 k ok w h0
 unfold lk at this ⊢
 rwa [<-e] at this
theorem Zdw (m:Nat) (l:Zr) (k:K3) (v:V2) (w:World) (h:J2 w m l):
 ∃w',(Instr.mapUpdate 200 (.map (some m)) (Xm k) (U7 v)).run Tryz.prog w= .ok () w'/\J2 w' m (upd l k v)/\Keep [m] w w'/\w'.heap.size=w.heap.size:=by
 have hk:=h.keys
 obtain ⟨l0,hp,h0⟩:=h
 obtain ⟨w',h1,h2,h3⟩:=Zis m l0 k v w h0
 exact ⟨w',h1,⟨_,(upd_perm hk hp.symm k v).symm,h2⟩,h3⟩
theorem Zit (m:Nat) (l:Zr) (k:K3) (w:World) (h:J2 w m l) (ty:TypeId) (ts:Array TypeId) (hts:ts[0]? =some 200):
 ∃w',(Builtin.delete_ ts ty #[.map (some m),Xm k]).run Tryz.prog w= .ok (.tuple #[]) w'/\J2 w' m (del l k)/\Keep [m] w w'/\w'.heap.size=w.heap.size:=by
 have hk:=h.keys
 obtain ⟨l0,hp,h0⟩:=h
 obtain ⟨w',h1,h2,h3⟩:=Zhp m l0 k w h0 ty ts hts
 exact ⟨w',h1,⟨_,(Zpk hk hp.symm k).symm,h2⟩,h3⟩
end Go.Proofs.YtipjchbdogmccaaGreat
