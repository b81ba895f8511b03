/- The walks of Great and of what makes a house of a world: acts on a ledger, offers that are placed. Openers: what comes in (worlds, asks, slices of acts and of offers), as the walks want it. A call under a guard, in a region. What a row of another kind is not; numbers of offers rise. An offer that comes in, opened, with what bounds its numbers. -/
import Derived.Test.YtipjchbdogmccaaGreatWf
import Derived.ProofKit
import Derived.Lib.SmallJoins
import Derived.OpenShut
import Derived.Test.YtipjchbdogmccaaGreatAll
import Derived.Test.YtipjchbdogmccaaGreatLed6
import Derived.Test.YtipjchbdogmccaaGreatPlaceP
import Derived.Test.YtipjchbdogmccaaGreatRows
namespace Go.Proofs.YtipjchbdogmccaaGreat
open Go.RowKit Go.Rg Go.BigFrame
structure Act5 where
 kind:Int
 a:Int
 b:Int
 c:Int
 n:Int
def Act5.ok (x:Act5):Prop:=0<=x.kind/\x.kind<=255/\x.n<=9223372036854775807
def stepB (B:Bk) (o:Off):Bk:=(Xh B o.owner o.sell o.buy o.left o.num o.den).2.2
open Go.Joins Go.Deep Go.WideElems Go.Maps Go.ChangeShapes Go.WideShapes Go.ChangeAt Go.RowKit Go.Rg Go.BigFrame
section
variable {H:Type} {enc:TypeId×Value->H} {P:Program} {w:World} {base:Nat} {spare:Nat->Bool} {held:Bool}
end
theorem Za8 {α:Type} (f:α->List Value) (size:Nat) (hs:∀x,(f x).length=size) (l:List α) (k j:Nat) (hk:k<l.length) (hj:j<size):(l.flatMap f)[k*size+j]? =(f (l[k]'hk))[j]? :=by
 induction l generalizing k with
 | nil=>simp at hk
 | cons o l ih=>
   cases k with
   | zero=>
     simp only [List.flatMap_cons,Nat.zero_mul,Nat.zero_add,List.getElem_cons_zero]
     rw [List.getElem?_append_left (by rw [hs];exact hj)]
   | succ k=>
     have h2:(k+1)*size=k*size+size:=Nat.succ_mul k size
     simp only [List.flatMap_cons,List.getElem_cons_succ]
     rw [List.getElem?_append_right (by rw [hs];omega),hs,show (k+1)*size+j-size=k*size+j by omega]
     exact ih k (by simpa using hk)
theorem Zap {α:Type} (f:α->List Value) (size:Nat) (hs:∀x,(f x).length=size) (l:List α):(l.flatMap f).length=l.length*size:=by
 induction l with
 | nil=>simp
 | cons o l ih=>rw [List.flatMap_cons,List.length_append,ih,hs,List.length_cons,Nat.succ_mul,Nat.add_comm]
theorem addr_at {a:Addr} (h:a.spot=none) (i:Nat):a.add i=⟨a.block,a.off+i,none⟩:=by
 unfold Addr.add
 split
 ·rename_i hi
  subst hi
  obtain ⟨b,o,s⟩:=a
  simp only at h
  subst h
  rfl
 rfl
theorem Zhg {α:Type} (q:Nat->α->Prop):∀n:Nat,(∀i,i<n->∃x,q i x)->∃l:List α,l.length=n/\∀i (hi:i<l.length),q i (l[i]'hi)
 | 0,_=>⟨[],rfl,fun i hi=>by simp at hi⟩
 | n+1,h=>by
   obtain ⟨l,hl,hq⟩:=Zhg q n (fun i hi=>h i (by omega))
   obtain ⟨x,hx⟩:=h n (by omega)
   refine ⟨l++[x],by simp [hl],fun i hi=> ?_⟩
   by_cases hi2:i<l.length
   ·rw [List.getElem_append_left hi2];exact hq i hi2
   have:i=l.length:=by simp at hi;omega
   subst this
   simp
   rw [hl];exact hx
section
variable {H:Type} {enc:TypeId×Value->H} {P:Program} {w:World} {base:Nat} {spare:Nat->Bool} {held:Bool}
theorem V0 {t:TypeId} {fs:Array Field} {fuel:Nat} {cs:List Value} {x:DataW H×List MemPlace} (ht:P.underlying t=some (.struct fs)) (h:DataW.trod enc P w base spare held fuel t cs=some x) (i off k:Nat) (u:TypeId)
 (hf:(fs[i]?).map (fun f=>(f.type,f.offset))=some (u,off)) (hc:P.cellsOf u=k):∃n y,DataW.trod enc P w base spare held n u ((cs.drop off).take k)=some y:=by
 obtain ⟨xs,n,_,_,_,hlen,hfs⟩:=DataW.trod_struct ht h
 rw [Option.map_eq_some_iff] at hf
 obtain ⟨f,hf,e⟩:=hf
 simp only [Prod.mk.injEq] at e
 obtain ⟨e1,e2⟩:=e
 subst e1 e2 hc
 have hi:i<fs.size:=(Array.getElem?_eq_some_iff.1 hf).1
 exact ⟨n,_,(hfs i f hf).trans (List.getElem?_eq_getElem (by omega))⟩
theorem Zlj {α:Type} (f:α->List Value) (ok:α->Prop) (size:Nat) (hsz:0<size) (hs:∀x,(f x).length=size) {t e:TypeId} (ht:P.underlying t=some (.slice e)) (hc:P.cellsOf e=size)
 (hop:∀n cs y,DataW.trod enc P w base spare held n e cs=some y->∃x,cs=f x/\ok x) {fuel:Nat} {cs:List Value} {x:DataW H×List MemPlace} (h:DataW.trod enc P w base spare held fuel t cs=some x):
 ∃(v:Value) (l:List α),cs=[v]/\Zbu w size v l.length (l.flatMap f)/\∀x∈l,ok x:=by
 rcases DataW.trod_slice ht h with ⟨rfl,_⟩ | ⟨a,len,cap,elems,rest,n,_,rfl,_,_,hl,hm,hlen,hel,_,_⟩
 ·exact ⟨_,[],rfl,⟨none,0,rfl,Nat.le_refl _,by unfold maxLen;omega,by simp,.inl rfl⟩,fun x hx=>by simp at hx⟩
 obtain ⟨l,hll,hq⟩:=Zhg (fun i y=>ok y/\∀j,j<size->w.cell? ((a.add (i*size)).add j)=(f y)[j]?) len (fun i hi=>by
  have hb:=hel i hi
  rw [hc,List.getElem?_eq_getElem (by omega),Option.bind_eq_some_iff] at hb
  obtain ⟨cs',hcs,hy⟩:=hb
  obtain ⟨y,rfl,hok⟩:=hop _ _ _ hy
  exact ⟨y,hok,fun j hj=>(World.cells?_some hcs).2.2 j hj⟩)
 subst hll
 refine ⟨_,l,rfl,⟨some a,cap,rfl,hl,hm,Zap f size hs l,?_⟩,fun y hy=>by obtain ⟨i,hi,rfl⟩:=List.getElem_of_mem hy;exact (hq i hi).1⟩
 rcases Nat.eq_zero_or_pos l.length with h0 | h0
 ·exact .inl h0
 have hfirst:=(hq 0 h0).2 0 hsz
 rw [Nat.zero_mul] at hfirst
 have hz:(a.add 0).add 0=a:=by simp [Addr.add]
 rw [hz,List.getElem?_eq_getElem (by rw [hs];exact hsz)] at hfirst
 have hsp:a.spot=none:=by
  unfold World.cell? at hfirst
  split at hfirst
  ·split at hfirst
   ·cases hfirst
   rename_i hn
   simpa using hn
  cases hfirst
 have hlt:a.block<w.heap.size:=by
  unfold World.cell? at hfirst
  split at hfirst
  ·rename_i hh
   exact (Array.getElem?_eq_some_iff.1 hh).1
  cases hfirst
 refine .inr ⟨a.block,a.off,?_,hlt,fun j u hu=> ?_⟩
 ·obtain ⟨b,o,s⟩:=a
  simp only at hsp
  subst hsp
  rfl
 have hj:j<l.length*size:=by
  rw [<-Zap f size hs l]
  exact (List.getElem?_eq_some_iff.1 hu).1
 have hk:j / size<l.length:=(Nat.div_lt_iff_lt_mul hsz).2 hj
 have hm':j%size<size:=Nat.mod_lt _ hsz
 have hjj:j / size*size+j%size=j:=by rw [Nat.mul_comm];exact Nat.div_add_mod j size
 have h1:=(hq (j / size) hk).2 (j%size) hm'
 rw [<-Za8 f size hs l (j / size) (j%size) hk hm',hjj,hu,addr_at hsp,addr_at (a:=⟨a.block,a.off+j / size*size,none⟩) rfl] at h1
 rw [<-h1]
 congr 1
 simp only [Nat.add_assoc,hjj]
end
theorem list5 {α:Type} {cs:List α} (h:cs.length=5):∃c0 c1 c2 c3 c4,cs=[c0,c1,c2,c3,c4]:=by
 match cs,h with
 | [c0,c1,c2,c3,c4],_=>exact ⟨c0,c1,c2,c3,c4,rfl⟩
section
variable {H:Type} {enc:TypeId×Value->H} {w:World} {base:Nat} {spare:Nat->Bool} {held:Bool}
theorem Vh {k:IntKind} {t:TypeId} {n:Nat} {v:Value} {y:DataW H×List MemPlace} (ht:Tryz.prog.underlying t=some (.int k)) (h:DataW.trod enc Tryz.prog w base spare held n t [v]=some y):∃i,v= .int k i/\(Lit.int k i).wf=true:=by
 obtain ⟨i,e,_,hw⟩:=DataW.trod_int ht h
 cases e
 exact ⟨i,rfl,hw⟩
end
end Go.Proofs.YtipjchbdogmccaaGreat
namespace Go.Rg
open Go.RowKit
section
variable {P:Program} {ops:Array Oper} {md:Region.Mode}
end
end Go.Rg
namespace Go.Proofs.YtipjchbdogmccaaGreat
open Go.RowKit Go.Rg Go.BigFrame
theorem Zgc {w:World} {p m x:Nat} {L:Led} {cs:Array Value} {t:TypeId} {fr:Nat×Nat} (h:IsLed w p m L) (hr:w.heap[x]? =some (.cells cs t fr)) (ht:t≠203):p∉[x]/\m∉[x]:=by
 obtain ⟨_,_,es,c,hm,_⟩:=h.map
 refine ⟨fun hx=> ?_,fun hx=> ?_⟩
 ·have:p=x:=by simpa using hx
  subst this
  rw [h.row] at hr
  simp only [Option.some.injEq,Obj.cells.injEq] at hr
  exact ht hr.2.1.symm
 have:m=x:=by simpa using hx
 subst this
 rw [hm] at hr
 cases hr
theorem Zdq {w:World} {p x:Nat} {g:Option Nat} {B:Bk} {cs:Array Value} {t:TypeId} {fr:Nat×Nat} (h:IsBook w p g B) (hr:w.heap[x]? =some (.cells cs t fr)) (ht:t≠205) (ht2:t≠153):p∉[x]/\∀y,g=some y->y∉[x]:=by
 obtain ⟨v,hv,hg,hob⟩:=h.row
 refine ⟨fun hx=> ?_,fun y hy hx=> ?_⟩
 ·have:p=x:=by simpa using hx
  subst this
  rw [hv] at hr
  simp only [Option.some.injEq,Obj.cells.injEq] at hr
  exact ht hr.2.1.symm
 have:y=x:=by simpa using hx
 subst this
 rcases hob.2 with ⟨rfl,_⟩ | ⟨b,cap,cur,rfl,_,hh,_⟩
 ·rw [<-hg] at hy;simp [Value.ownBlock] at hy
 rw [<-hg] at hy
 simp only [Value.ownBlock,Option.some.injEq] at hy
 subst hy
 rw [hh] at hr
 simp only [Option.some.injEq,Obj.cells.injEq] at hr
 exact ht2 hr.2.1.symm
theorem Zn.keepS {S:List Nat} {w w':World} {base size n:Nat} {v:Value} {xs:List Value} (h:Zn w base size v n xs) (k:Keep S w w') (hS:∀x∈S,x<base):Zn w' base size v n xs:=by
 obtain ⟨A,cap,h0,h1,h2,h3,h4⟩:=h
 refine ⟨A,cap,h0,h1,h2,h3,?_⟩
 rcases h4 with h4 | ⟨g,h4,h5,h6,h7⟩
 ·exact .inl h4
 exact .inr ⟨g,h4,h5,Nat.lt_of_lt_of_le h6 k.size,fun j u hu=>by
  rw [Zf (k.block g h6 (fun hx=>by have:=hS g hx;omega))]
  exact h7 j u hu⟩
def Zax (B:Bk):Prop:=Jm B/\∀o∈B.offs,o.seq<B.next
theorem Zqe {B:Bk} (h:Zax B) (o:Off):Zax (stepB B o):=by
 unfold stepB Xh
 split
 ·exact h
 split
 ·exact h
 obtain ⟨h1,h2⟩:=h
 refine ⟨?_,fun x hx=> ?_⟩
 ·unfold Jm at *
  simp only [List.map_append,List.map_cons,List.map_nil]
  rw [List.nodup_append]
  refine ⟨h1,by simp,fun a ha b hb e=> ?_⟩
  obtain ⟨y,hy,rfl⟩:=List.mem_map.1 ha
  have:=h2 y hy
  simp at hb
  omega
 simp only [List.mem_append,List.mem_singleton] at hx
 rcases hx with hx | rfl
 ·have:=h2 x hx
  simp only
  omega
 simp only
 omega
open Go.Joins Go.Deep Go.WideElems Go.Maps Go.ChangeShapes Go.WideShapes Go.ChangeAt Go.RowKit Go.Rg Go.BigFrame
section
variable {H:Type} {enc:TypeId×Value->H} {w:World} {base:Nat} {spare:Nat->Bool} {held:Bool}
end
end Go.Proofs.YtipjchbdogmccaaGreat
