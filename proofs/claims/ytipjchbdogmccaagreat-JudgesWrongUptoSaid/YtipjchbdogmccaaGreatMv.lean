/- Machines that are none; two replies compared; one command. Machines: the chapter's example. -/
import Derived.Test.YtipjchbdogmccaaGreatAp
import Derived.Test.YtipjchbdogmccaaGreatAll
namespace Go.Rg
open Go.RowKit Go.BigFrame
variable {P:Program} {ops:Array Oper} {Q:Exit->Act->World->Prop} {rest:List Oper} {o:Oper} {a:Act} {w:World}
theorem Yf {t:TypeId} {len:Nat} {parts:Array (Nat×Operand)} (_hop:o.op= .buildSlice t len parts) (hg:Region.wanted o (yielded ops a.tmps)=true) (ob:Obj) (v:Value) (dst:Option Tmp) (hdst:o.dst=dst)
 (hm:(execOp a.eval o).run P w= .ok (.value v) (w.alloc ob))
 (h:∀w':World,Ext w w'->w'.heap[w.heap.size]? =some ob->wpList P ops Q rest (a.put dst v) w'):wpList P ops Q (o::rest) a w:=
 wpList_want hg fun K hK=>by
  unfold Oper.wp
  rw [hm,Oper.upon_value,hdst]
  exact hK _ _ (h _ (Zc w ob) (Zb w ob))
end Go.Rg
namespace Go.Proofs.YtipjchbdogmccaaGreat
open Go.RowKit Go.Rg Go.BigFrame
theorem Zs.fra {A:Nat->Prop} {w w':World} {base size n:Nat} {v:Value} {xs:List Value} (h:Zs w base size v n xs) (k:FrA A w w') (hS:∀x,A x->x<base):Zs w' base size v n xs:=by
 obtain ⟨B,cap,hv,h1,h2,h3,h4⟩:=h
 refine ⟨B,cap,hv,h1,h2,h3,?_⟩
 rcases h4 with h4 | ⟨g,hA,hb,hlt,hc⟩
 ·exact .inl h4
 refine .inr ⟨g,hA,hb,Nat.lt_of_lt_of_le hlt k.size,fun j u hu=> ?_⟩
 rw [Zh (k.block g hlt (fun hg=>by have:=hS g hg;omega))]
 exact hc j u hu
theorem X9 {w:World} {b base size n:Nat} {cs:List Value} {e:TypeId} (h:w.heap[b]? =some (.cells cs.toArray e (0,0))) (hl:cs.length=n*size) (hn:n<=maxLen) (hb:base<=b):Zs w base size (.slice (some ⟨b,0,none⟩) n n) n cs:=
 ⟨_,_,rfl,Nat.le_refl _,hn,hl,.inr ⟨b,rfl,hb,Zg h,fun j u hu=>by rw [cell_of_row w b j _ e _ h];simpa using hu⟩⟩
def Zfj (x:Gt):Value:= .agg #[.int .i64 x.1,.int .i64 x.2]
def xs1:Stp:=⟨1,1,0,0,0,0,0,0,0,0⟩
def xs2:Stp:=⟨1,2,0,0,0,0,0,0,0,0⟩
def xd:Stp:=⟨8,1,2,3,0,0,0,0,0,0⟩
end Go.Proofs.YtipjchbdogmccaaGreat
