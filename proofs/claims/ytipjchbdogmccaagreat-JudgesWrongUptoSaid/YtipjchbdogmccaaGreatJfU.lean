/- What comes in, of bulk at most 1048576: commands, bytes. -/
import Derived.Test.YtipjchbdogmccaaGreatBatch
import Derived.Test.YtipjchbdogmccaaGreatRows
import Derived.OpenShut
set_option maxRecDepth 100000
namespace Go.Proofs.YtipjchbdogmccaaGreat
open Go.Joins Go.Deep Go.WideElems Go.Maps Go.ChangeShapes Go.WideShapes Go.ChangeAt Go.RowKit Go.Rg Go.BigFrame
theorem bulk_one {H:Type} (d:DataW H):1<=Rows.uptoBulk d:=by
 cases d with
 | lit l=>cases l<;>simp [Rows.uptoBulk]
 | nil=>simp [Rows.uptoBulk]
 | ptr d=>simp [Rows.uptoBulk]
 | slice elems spare=>simp [Rows.uptoBulk]
 | agg parts=>simp [Rows.uptoBulk]
 | iface t d=>simp [Rows.uptoBulk]
 | map entries=>simp [Rows.uptoBulk]
 | held h=>simp [Rows.uptoBulk]
theorem bulk_len {H:Type} (l:List (DataW H)):l.length<=Rows.uptoBulkAll l:=by
 induction l with
 | nil=>simp [Rows.uptoBulkAll]
 | cons x r ih=>have:=bulk_one x;simp only [Rows.uptoBulkAll,List.length_cons];omega
theorem Zsa {H:Type} (elems spare:List (DataW H)):elems.length<=Rows.uptoBulk (.slice elems spare):=by
 have h1:=bulk_len elems
 simp only [Rows.uptoBulk]
 omega
section
variable {H:Type} {enc:TypeId×Value->H} {w:World} {base:Nat} {spare:Nat->Bool} {held:Bool}
theorem Zip {t e:TypeId} {A:Option Addr} {n cap:Nat} {d:DataW H} {p:List MemPlace} (ht:Tryz.prog.underlying t=some (.slice e)) (h:DataW.Trod enc Tryz.prog w base spare held t (.slice A n cap) d p):n<=Rows.uptoBulk d:=by
 obtain ⟨fuel,hf⟩:=h
 rcases open_slice ht hf with ⟨h1,_⟩ | ⟨a,len,cap',m,k,D,Pl,h1,_,_,_,_,h2,_⟩
 ·simp [Value.cells] at h1
  omega
 simp [Value.cells] at h1
 simp only [Prod.mk.injEq] at h2
 have:=Zsa ((List.range len).map D) ((List.range (m-len)).map fun j=>D (len+j))
 rw [List.length_map,List.length_range,<-h2.1] at this
 omega
theorem open_u8 {b0:Nat} {r:Reach} {v:Value} {d:DataW H} {p:List MemPlace} (hv:Value.okWide Tryz.prog w r b0 5 v) (h:DataW.Trod enc Tryz.prog w base spare held 5 v d p):∃n,v= .int .u8 n/\0<=n/\n<=255:=by
 obtain ⟨n,rfl⟩:=okWide_int Tryz.underlying5 hv
 obtain ⟨fuel,hf⟩:=h
 obtain ⟨i,e,_,hw⟩:=DataW.trod_int Tryz.underlying5 hf
 simp only [Value.cells] at e
 cases e
 exact ⟨n,rfl,bounds_u8 hw⟩
theorem open_u8s {b0:Nat} {r:Reach} {v:Value} {d:DataW H} {p:List MemPlace} (hv:Value.okWide Tryz.prog w r b0 58 v) (h:DataW.Trod enc Tryz.prog w base spare held 58 v d p):
 ∃l:List Int,Z4 w 1 v l.length (l.map (Value.int .u8))/\∀x∈l,0<=x/\x<=255:=by
 obtain ⟨A,n,cap,rfl⟩:=okWide_slice Tryz.underlying58 hv
 obtain ⟨fuel,hf⟩:=h
 obtain ⟨v',l,e,ha,ho⟩:=Zgb (fun x:Int=>[Value.int .u8 x]) (fun x=>0<=x/\x<=255) 1 (by omega) (fun _=>rfl) Tryz.underlying58 (by kernel_rfl) (fun n cs y hy=>by
  obtain ⟨i,e,_,hw⟩:=DataW.trod_int Tryz.underlying5 hy
  exact ⟨i,e,bounds_u8 hw⟩) hf
 simp only [Value.cells] at e
 cases e
 rw [<-List.map_eq_flatMap] at ha
 exact ⟨l,ha,ho⟩
end
end Go.Proofs.YtipjchbdogmccaaGreat
