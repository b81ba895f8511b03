/- Machines that are none; two replies compared; one command. Machines: the chapter's example. -/
import Derived.Test.YtipjchbdogmccaaGreatAp
import Derived.Test.YtipjchbdogmccaaGreatAll
namespace Go.Rg
open Go.RowKit Go.BigFrame
variable {P:Program} {ops:Array Oper} {Q:Exit->Act->World->Prop} {rest:List Oper} {o:Oper} {a:Act} {w:World}
theorem J4 {t:TypeId} {len:Nat} {parts:Array (Nat×Operand)} (_hop:o.op= .buildSlice t len parts) (hg:Region.wanted o (yielded ops a.tmps)=true) (ob:Obj) (v:Value) (dst:Option Tmp) (hdst:o.dst=dst)
 (hm:(execOp a.eval o).run P w= .ok (.value v) (w.alloc ob))
 (h:∀w':World,Ext w w'->w'.heap[w.heap.size]? =some ob->wpList P ops Q rest (a.put dst v) w'):wpList P ops Q (o::rest) a w:=
 wpList_want hg fun K hK=>by
  unfold Oper.wp
  rw [hm,Oper.upon_value,hdst]
  exact hK _ _ (h _ (Zc w ob) (Zb w ob))
end Go.Rg
namespace Go.Proofs.YtipjchbdogmccaaGreat
open Go.RowKit Go.Rg Go.BigFrame
theorem Zcu {w:World} {b base size n:Nat} {cs:List Value} {e:TypeId} (h:w.heap[b]? =some (.cells cs.toArray e (0,0))) (hl:cs.length=n*size) (hn:n<=maxLen) (hb:base<=b):Zt w base size (.slice (some ⟨b,0,none⟩) n n) n cs:=
 ⟨_,_,rfl,Nat.le_refl _,hn,hl,.inr ⟨b,rfl,hb,Ze h,fun j u hu=>by rw [cell_of_row w b j _ e _ h];simpa using hu⟩⟩
def xs1:Stp:=⟨1,1,0,0,0,0,0,0,0,0⟩
def xs2:Stp:=⟨1,2,0,0,0,0,0,0,0,0⟩
def xd:Stp:=⟨8,1,2,3,0,0,0,0,0,0⟩
theorem FrA.trans {A:Nat->Prop} {a b c:World} (h:FrA A a b) (k:FrA A b c):FrA A a c:=
 ⟨k.os.trans h.os,k.tape.trans h.tape,k.output.trans h.output,Nat.le_trans h.size k.size,fun i hi hA=>(k.block i (Nat.lt_of_lt_of_le hi h.size) hA).trans (h.block i hi hA)⟩
theorem FrA.mono {A B:Nat->Prop} {a b:World} (h:FrA A a b) (hAB:∀x,A x->B x):FrA B a b:=⟨h.os,h.tape,h.output,h.size,fun i hi hB=>h.block i hi fun ha=>hB (hAB _ ha)⟩
theorem Zt.fra2 {A:Nat->Prop} {w w':World} {base size n:Nat} {v:Value} {xs:List Value} (h:Zt w base size v n xs) (k:FrA A w w') (hS:∀x,A x->x<base\/w.heap.size<=x):Zt w' base size v n xs:=by
 obtain ⟨B,cap,hv,h1,h2,h3,h4⟩:=h
 refine ⟨B,cap,hv,h1,h2,h3,?_⟩
 rcases h4 with h4 | ⟨g,hA,hb,hlt,hc⟩
 ·exact .inl h4
 refine .inr ⟨g,hA,hb,Nat.lt_of_lt_of_le hlt k.size,fun j u hu=> ?_⟩
 rw [Zd (k.block g hlt (fun hg=>by have:=hS g hg;omega))]
 exact hc j u hu
theorem ap_at {l:List Stp} {L L':Led} {B B':Bk} {e i:Int} {gl:List Gt} (hr:Yd l L B=((e,i,gl),L',B')) (n:Nat) (hn:gl.length=n) (q p m pb:Nat) (g:Option Nat) (v:Value) (w:World) (h:IsM w q p m pb g L B) (hs:Zt w 0 10 v l.length (Vr l)) (hin:∀s∈l,Zf4 s):
 Calls Tryz.prog 17 #[.pointer (some ⟨q,0,none⟩),.agg #[v]] w (fun en w'=>∃A cap p m pb g,en= .returned (.agg #[.int .i64 e,.int .i64 i,.slice A n cap])/\FrA (fun x=>x=q) w w'/\Zt w' w.heap.size 2 (.slice A n cap) gl.length (gtC gl)/\IsM w' q p m pb g L' B'):=by
 subst hn
 refine (Zd8 q p m pb g L B l v w h hs.arg hin).mono ?_
 rw [hr]
 rintro en w' ⟨v',p',m',pb',g',rfl,f,hs',hM⟩
 have hs2:=hs'
 obtain ⟨A,cap,hv,_⟩:=hs2
 simp only at hv hs' hM
 subst hv
 exact ⟨A,cap,p',m',pb',g',rfl,f,hs',hM⟩
end Go.Proofs.YtipjchbdogmccaaGreat
