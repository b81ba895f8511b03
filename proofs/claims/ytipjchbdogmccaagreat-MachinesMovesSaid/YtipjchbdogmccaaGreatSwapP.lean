/- Swaps: what is given in all; which offer is filled next; the closure behind it all; no house. Swaps, plainly; what holds between two fills. -/
import Derived.Test.YtipjchbdogmccaaGreatPlace4
import Derived.Laws.Externs
import Derived.Defers
set_option maxHeartbeats 1600000
set_option maxRecDepth 100000
namespace Go.Proofs.YtipjchbdogmccaaGreat
open Go.RowKit Go.Rg Go.BigFrame
theorem Zlj (x y c:Int) (hx:0<=x) (hy:0<=y) (hc0:0<=c) (hc:c<=1) (w:World):
 (callFunc 266 #[.int .u64 x,.int .u64 y,.int .u64 c]).run Tryz.prog w= .ok (.value (.tuple #[.int .u64 ((x+y+c)%18446744073709551616),.int .u64 ((x+y+c) / 18446744073709551616)])) w:=by
 rw [run_callFunc_extern Tryz.func266 (by kernel_rfl) (by kernel_rfl) (by kernel_rfl) (e:=add64Entry) (by kernel_rfl),run_add64 x y c hx hy hc0 hc]
 rfl
theorem Zbv (n:Int):0<=IntKind.u64.wrap n:=by rw [IntKind.wrap_u64];omega
theorem Zmt (n:Int):IntKind.u64.wrap n<18446744073709551616:=by rw [IntKind.wrap_u64];omega
def J6 (h:Int×Int) (n:Int):Int×Int:=
 ((h.1+IntKind.u64.wrap (n / 9223372036854775808)+(h.2+IntKind.u64.wrap n) / 18446744073709551616)%18446744073709551616,(h.2+IntKind.u64.wrap n)%18446744073709551616)
theorem plus_any (hi lo n:Int) (w:World) (h1:0<=hi) (h2:0<=lo) (h3:lo<18446744073709551616):Calls Tryz.prog 233 #[.agg #[.int .u64 hi,.int .u64 lo],.int .i64 n] w (Ret (.agg #[.int .u64 (J6 (hi,lo) n).1,.int .u64 (J6 (hi,lo) n).2]) w):=by
 have wn:=Zbv n
 have wl:=Zmt n
 have c1:=fun wq=>Zlj lo (IntKind.u64.wrap n) 0 h2 wn (by omega) (by omega) wq
 simp only [Int.add_zero] at c1
 have c2:=fun wq=>Zlj hi (IntKind.u64.wrap (n / 9223372036854775808)) ((lo+IntKind.u64.wrap n) / 18446744073709551616) h1 (Zbv _) (by omega) (by omega) wq
 unfold J6
 simp only
 have z0:=Zc w (.cells #[.int .u64 hi,.int .u64 lo] 352)
 have zs:=size_alloc w (.cells #[.int .u64 hi,.int .u64 lo] 352)
 have z1:=Zc (w.alloc (.cells #[.int .u64 hi,.int .u64 lo] 352)) (.cells #[.int .u64 0,.int .u64 0] 352)
 have y1:=Zb (w.alloc (.cells #[.int .u64 hi,.int .u64 lo] 352)) (.cells #[.int .u64 0,.int .u64 0] 352)
 rw [zs] at y1
 have zz:=Xt z0 z1
 clear z0 z1
 go_enter Tryz.func233,Tryz.ntmps233
 go_wp2_with (refine Ze rfl rfl 352 _ _ rfl (w.heap.size+1) _ rfl rfl 352 _ y1 (by kernel_rfl) (by rfl) (by rfl) ?_;intro w3 hb3 ho3 hs3)
 exact Yw (w.heap.size+1) 352 _ _ _ rfl rfl hs3 Tryz.underlying352 rfl (by kernel_rfl) rfl ⟨rfl,hb3 _ _ (by omega) zz⟩
def Zbz (l:List Int):Int×Int:=l.foldl J6 (0,0)
def sumW (h:Int×Int):Int×Int:=
 if h.1==IntKind.u64.wrap (wrap64 h.2 / 9223372036854775808) then (wrap64 h.2,0) else (0,10)
def Zo9 (l:List Int):Int×Int:=sumW (Zbz l)
theorem plusR_bd (h:Int×Int) (n:Int):0<=(J6 h n).1/\0<=(J6 h n).2/\(J6 h n).2<18446744073709551616:=by
 unfold J6
 simp only
 omega
theorem Zqj (l:List Int) (k:Nat) (hk:k<l.length):Zbz (l.take (k+1))=J6 (Zbz (l.take k)) (l[k]'hk):=by
 unfold Zbz
 rw [List.take_succ_eq_append_getElem hk,List.foldl_append]
 rfl
theorem Zk3:∀(l:List Int) (h:Int×Int),0<=h.1/\0<=h.2/\h.2<18446744073709551616->0<=(l.foldl J6 h).1/\0<=(l.foldl J6 h).2/\(l.foldl J6 h).2<18446744073709551616
 | [],_,h=>h
 | n::l,h,_=>Zk3 l (J6 h n) (plusR_bd h n)
theorem foldW_bd (l:List Int):0<=(Zbz l).1/\0<=(Zbz l).2/\(Zbz l).2<18446744073709551616:=Zk3 l (0,0) (by decide)
def J1 (l:List Int):List Value:=l.map fun n=>.int .i64 n
theorem sum_any (base:Nat) (v:Value) (l:List Int) (w:World) (h:Zs w base 1 v l.length (J1 l)):Calls Tryz.prog 181 #[v] w (Ret (.tuple #[.int .i64 (Zo9 l).1,.int .i64 (Zo9 l).2]) w):=by
 obtain ⟨A,cap,rfl,h1,h2,h3,h4⟩:=h
 have hn63:(l.length:Int)<=9223372036854775807:=by unfold maxLen at h2;omega
 have z0:=Zc w (.cells #[.int .u64 0,.int .u64 0] 352)
 have y0:=Zb w (.cells #[.int .u64 0,.int .u64 0] 352)
 go_enter Tryz.func181,Tryz.ntmps181
 go_wp2
 generalize w.alloc (.cells #[.int .u64 0,.int .u64 0] 352)=wa at *
 go_loopw [10] (fun i wr=>∃k:Nat,k<=l.length/\i= .int .i64 k/\Ext w wr/\wr.heap[w.heap.size]? =some (.cells #[.int .u64 (Zbz (l.take k)).1,.int .u64 (Zbz (l.take k)).2] 352 (0,0))) (fun i _=>l.length-(intOf i).toNat)
 case atStart=>exact ⟨0,Nat.zero_le _,rfl,z0,y0⟩
 obtain ⟨k,hk,rfl,e1,hrow⟩:=hrel
 have hlt2:=Zg hrow
 have c0:=Za (j:=0) hrow rfl
 have c1:=Za (j:=1) hrow rfl
 by_cases hkn:k<l.length
 ·rcases h4 with h4 | ⟨g,rfl,hb,hlt,hcell⟩
  ·omega
  have hc:wr.cell? ⟨g,k,none⟩=some (.int .i64 (l[k]'hkn)):=by
   rw [Zh (e1.block hlt)]
   exact hcell k _ (by unfold J1;rw [List.getElem?_map,List.getElem?_eq_getElem hkn];rfl)
  have hf:=Zqj l k hkn
  have hb2:=foldW_bd (l.take k)
  generalize l[k]'hkn=n at *
  generalize Zbz (l.take k)=fk at *
  obtain ⟨hi,lo⟩:=fk
  simp only at c0 c1 hb2
  have HF:=Lib.hid hf
  clear hf
  go_wp2_with fail
  refine (plus_any hi lo n _ hb2.1 hb2.2.1 hb2.2.2).mono ?_
  rintro e w5 ⟨rfl,e5⟩
  have hrow5:=e5.at hrow
  go_wp2_with (refine Ze rfl rfl 352 _ _ rfl w.heap.size _ rfl rfl 352 _ hrow5 (by kernel_rfl) (by rfl) (by rfl) ?_;intro w6 hb6 ho6 hs6)
  exact ⟨⟨k+1,by omega,by go_num,hb6 _ _ (Nat.le_refl _) (Xt e1 e5),by rw [HF.out];exact hs6⟩,by simp [intOf];omega⟩
 have hk':k=l.length:=by omega
 subst hk'
 rw [List.take_length] at hrow c0 c1
 obtain ⟨fw,hfw⟩:∃fw,Zbz l=fw:=⟨_,rfl⟩
 have HS:=Lib.hid (show Zo9 l=sumW fw by unfold Zo9;rw [hfw])
 rw [hfw] at hrow c0 c1
 clear hfw
 obtain ⟨hi,lo⟩:=fw
 simp only at c0 c1
 cases hq:(hi==IntKind.u64.wrap (wrap64 lo / 9223372036854775808)) with
 | true=>
   go_wp2
   go_ret2
   exact ⟨by rw [HS.out];simp only [sumW,hq];rfl,e1⟩
 | false=>
   go_wp2
   go_ret2
   exact ⟨by rw [HS.out];simp only [sumW,hq];rfl,e1⟩
def V8 (l:List Fl):Int:=(Zo9 (l.map fun f=>f.2.2.2.2)).1
def Zmm (f:Fl):List Value:=[.int .u64 f.1,.int .u8 f.2.1,.int .u8 f.2.2.1,.int .i64 f.2.2.2.1,.int .i64 f.2.2.2.2]
def Fagg (f:Fl):Value:= .agg #[.int .u64 f.1,.int .u8 f.2.1,.int .u8 f.2.2.1,.int .i64 f.2.2.2.1,.int .i64 f.2.2.2.2]
theorem Zqn (l:List Fl) (k j:Nat) (hk:k<l.length) (hj:j<5):(Yn l)[k*5+j]? =(Zmm (l[k]'hk))[j]? :=by
 induction l generalizing k with
 | nil=>simp at hk
 | cons o l ih=>
   have h5:(Zmm o).length=5:=rfl
   have hc:Yn (o::l)=Zmm o++Yn l:=rfl
   cases k with
   | zero=>
     simp only [hc,Nat.zero_mul,Nat.zero_add,List.getElem_cons_zero]
     rw [List.getElem?_append_left (by rw [h5];exact hj)]
   | succ k=>
     have:=ih k (by simpa using hk)
     simp only [hc,List.getElem_cons_succ] at this ⊢
     rw [List.getElem?_append_right (by rw [h5];omega),h5,show (k+1)*5+j-5=k*5+j by omega]
     exact this
theorem Zlw (w:World) (g k:Nat) (l:List Fl) (hk:k<l.length) (h:∀j u,(Yn l)[j]? =some u->w.cell? ⟨g,j,none⟩=some u):
 (loadVar 250 ⟨g,k*5,none⟩).run Tryz.prog w= .ok (Fagg (l[k]'hk)) w:=
 Zu w g (k*5) 250 (Zmm (l[k]'hk)) _ (fun j u hu=>by
  have hj:j<5:=(List.getElem?_eq_some_iff.1 hu).1
  exact h _ _ ((Zqn l k j hk hj).trans hu)) Tryz.underlying250 rfl (by kernel_rfl)
theorem i64_info:(Tryz.prog.info? 2).map (fun i=>(i.zero,i.size,i.bytes))=some (some (.int .i64 0),1,8):=by kernel_rfl
theorem Zbc (base:Nat) (v:Value) (l:List Fl) (w:World) (hl:l.length<=64) (h:Zs w base 5 v l.length (Yn l)):Calls Tryz.prog 147 #[v] w (Ret (.int .i64 (V8 l)) w):=by
 obtain ⟨A,cap,rfl,h1,h2,h3,h4⟩:=h
 obtain ⟨i0,hi,hz0,hz1,hz2⟩:=info_parts i64_info
 have hmk:=fun w3:World=>run_make (P:=Tryz.prog) w3 293 2 i0 (.int .i64 0) Tryz.underlying293 hi hz0 .i64 .i64 l.length l.length (by omega) (Int.le_refl _) (by rw [hz2];omega) (by omega)
 rw [hz1] at hmk
 simp only [Int.toNat_natCast,Nat.mul_one] at hmk
 have e0:=Zc w (.cells (madeCells #[.int .i64 0] l.length) 2)
 have y0:=Zb w (.cells (madeCells #[.int .i64 0] l.length) 2)
 obtain ⟨gs,hgs⟩:∃gs:List Int,gs=l.map fun f=>f.2.2.2.2:=⟨_,rfl⟩
 have hgl:gs.length=l.length:=by rw [hgs,List.length_map]
 have HG:=Lib.hid hgs
 have hsm:V8 l=(Zo9 gs).1:=by rw [hgs];rfl
 rw [hsm]
 clear hgs hsm
 go_enter Tryz.func147,Tryz.ntmps147
 go_wp2
 generalize w.alloc (.cells (madeCells #[.int .i64 0] l.length) 2)=wa at *
 clear hmk
 go_loopw [13] (fun i wr=>∃(k:Nat) (cur:Array Value),k<=l.length/\i= .int .i64 k/\Ext w wr/\wr.heap[w.heap.size]? =some (.cells cur 2 (0,0))/\cur.size=l.length/\∀j,j<k->cur[j]? =(J1 gs)[j]?) (fun i _=>l.length-(intOf i).toNat)
 case atStart=>exact ⟨0,_,Nat.zero_le _,rfl,e0,y0,by rw [size_madeCells],fun j hj=>absurd hj (by omega)⟩
 obtain ⟨k,cur,hk,rfl,e1,hrow,hcs,hcj⟩:=hrel
 have hlt2:=Zg hrow
 by_cases hkn:k<l.length
 ·rcases h4 with h4 | ⟨g,rfl,hb,hlt,hcell⟩
  ·omega
  have hld:=Zlw wr g k l hkn (fun j u hu=>by rw [Zh (e1.block hlt)];exact hcell j u hu)
  have hgk:(J1 gs)[k]? =some (.int .i64 (l[k]'hkn).2.2.2.2):=by
   unfold J1
   rw [HG.out,List.getElem?_map,List.getElem?_map,List.getElem?_eq_getElem hkn];rfl
  generalize (l[k]'hkn)=f at *
  obtain ⟨f0,f1,f2,f3,f4⟩:=f
  simp only [Fagg] at hld hgk
  have z6:=Zb wr (.cells #[.int .u64 0,.int .u8 0,.int .u8 0,.int .i64 0,.int .i64 0] 250)
  have ez6:=Zc wr (.cells #[.int .u64 0,.int .u8 0,.int .u8 0,.int .i64 0,.int .i64 0] 250)
  have HC:=Lib.hid hcj
  have HK:=Lib.hid hgk
  clear hcell hcj hgk
  go_wp2_with (first
   | (refine Zd rfl 250 _ _ _ rfl rfl hld ?_)
   | (refine Ze rfl rfl 250 _ _ rfl wr.heap.size _ rfl rfl 250 _ z6 (by kernel_rfl) (by rfl) (by rfl) ?_
      intro w6 hb6 _ hs6
      have e6:Ext wr w6:=hb6 _ _ (Nat.le_refl _) ez6
      have hrow6:=e6.at hrow
      have c4:=Za (j:=4) hs6 rfl
      have hck:=Za (j:=k) hrow6 (Array.getElem?_eq_getElem (by omega))
      have hfk:=frozen_of_row w6 w.heap.size k _ _ hrow6))
  exact ⟨⟨k+1,_,by omega,by go_num,Below.setCell (Xt e1 e6) (Nat.le_refl _) _,heap_setCell_same w6 w.heap.size k _ _ _ hrow6,by simp [hcs],fun j hj=>by
   rw [Array.getElem?_setIfInBounds]
   by_cases hjk:k=j
   ·subst hjk
    rw [if_pos rfl,if_pos (by omega),HK.out]
   rw [if_neg hjk]
   exact HC.out j (by omega)⟩,by simp [intOf];omega⟩
 have hk':k=l.length:=by omega
 subst hk'
 have hsl:Zs wr w.heap.size 1 (.slice (some ⟨w.heap.size,0,none⟩) gs.length l.length) gs.length (J1 gs):=by
  refine ⟨_,_,rfl,by omega,by unfold maxLen;omega,by unfold J1;rw [List.length_map];omega,.inr ⟨_,rfl,Nat.le_refl _,hlt2,fun j u hu=> ?_⟩⟩
  have hj:j<l.length:=by
   have:=(List.getElem?_eq_some_iff.1 hu).1
   unfold J1 at this
   rw [List.length_map] at this
   omega
  exact Za hrow (by rw [hcj j hj];exact hu)
 rw [hgl] at hsl
 have hsu:=sum_any w.heap.size _ gs wr (by rw [hgl];exact hsl)
 clear hsl hcj
 go_wp2_with fail
 refine hsu.mono ?_
 rintro e w5 ⟨rfl,e5⟩
 go_wp2
 go_ret
 exact ⟨rfl,Xt e1 e5⟩
end Go.Proofs.YtipjchbdogmccaaGreat
/- Swaps:which offer is filled next;the closure behind it all. -/
namespace Go.Proofs.YtipjchbdogmccaaGreat
open Go.RowKit Go.Rg Go.BigFrame
def Zl4 (F:Off->Bool):List Off->Nat->Int
 | [],_=>-1
 | o::l,k=>if F o then k else Zl4 F l (k+1)
theorem Zkz (F:Off->Bool):∀(l:List Off) (k:Nat),(Zl4 F l k= -1/\l.find? F=none)\/∃j,∃hj:j<l.length,Zl4 F l k=((k+j:Nat):Int)/\l.find? F=some (l[j]'hj)
 | [],_=>.inl ⟨rfl,rfl⟩
 | o::l,k=>by
   unfold Zl4
   cases h:F o with
   | true=>exact .inr ⟨0,by simp,by simp,by simp [h]⟩
   | false=>
     rcases Zkz F l (k+1) with ⟨h1,h2⟩ | ⟨j,hj,h1,h2⟩
     ·exact .inl ⟨by simpa [h] using h1,by simpa [h] using h2⟩
     refine .inr ⟨j+1,by simpa using hj,?_,by simpa [h] using h2⟩
     rw [if_neg (by simp),h1]
     congr 1
     omega
theorem sclo_any (b1 b2 b3 b4 p m pb:Nat) (g:Option Nat) (L:Led) (B:Bk) (o:Off) (fr to n:Int) (w:World) (h:IsLed w p m L) (hwf:WF L) (hB:IsBook w pb g B) (hok:OkB B)
 (k1:w.heap[b1]? =some (.cells #[.int .u8 fr] 24 (0,0))) (k2:w.heap[b2]? =some (.cells #[.int .u8 to] 24 (0,0))) (k3:w.heap[b3]? =some (.cells #[.int .i64 n] 2 (0,0)))
 (k4:w.heap[b4]? =some (.cells #[.pointer (some ⟨p,0,none⟩),.pointer (some ⟨pb,0,none⟩)] 103 (0,0))):
 Calls Tryz.prog 177 #[o.agg,.pointer (some ⟨b4,0,none⟩),.pointer (some ⟨b1,0,none⟩),.pointer (some ⟨b2,0,none⟩),.pointer (some ⟨b3,0,none⟩)] w (Ret (.bool (decide (0<Y1 L B o.seq fr to n 1099511627776))) w):=by
 obtain ⟨o0,o1,o2,o3,o4,o5,o6⟩:=o
 simp only [Off.agg]
 have e0:=Zc w (.cells #[.int .u64 o0,.int .u8 o1,.int .u8 o2,.int .u8 o3,.int .i64 o4,.int .i64 o5,.int .i64 o6] 153)
 have h0:=Zb w (.cells #[.int .u64 o0,.int .u8 o1,.int .u8 o2,.int .u8 o3,.int .i64 o4,.int .i64 o5,.int .i64 o6] 153)
 have c0:=Za (j:=0) h0 rfl
 have c1:=Za (j:=0) (e0.at k1) rfl
 have c2:=Za (j:=0) (e0.at k2) rfl
 have c3:=Za (j:=0) (e0.at k3) rfl
 have ld:=run_loadVar_row (P:=Tryz.prog) _ b4 _ 103 _ _ _ (e0.at k4) Tryz.underlying103 rfl (by kernel_rfl)
 have hL1:=h.ext e0
 have hB1:=hB.ext e0
 have hmy:=Ze7 p m pb g L B o0 fr to n 1099511627776 _ hL1 hwf hB1 hok
 clear h0 hL1 hB1 k1 k2 k3 k4
 go_enter Tryz.func177,Tryz.ntmps177
 go_wp2_with (first | (refine Zd rfl 103 _ _ _ rfl rfl ld ?_))
 refine hmy.mono ?_
 rintro e w5 ⟨rfl,e5⟩
 go_wp2
 go_ret
 exact ⟨rfl,Xt e0 e5⟩
theorem Zpd (base b1 b2 b3 b4:Nat) (v:Value) (l:List Off) (F:Off->Bool) (w:World) (h:Zb0 w base v l)
 (hF:∀w' o,Ext w w'->Calls Tryz.prog 177 #[o.agg,.pointer (some ⟨b4,0,none⟩),.pointer (some ⟨b1,0,none⟩),.pointer (some ⟨b2,0,none⟩),.pointer (some ⟨b3,0,none⟩)] w' (Ret (.bool (F o)) w')):
 Calls Tryz.prog 140 #[v,.func (.func 177) #[] #[.pointer (some ⟨b4,0,none⟩),.pointer (some ⟨b1,0,none⟩),.pointer (some ⟨b2,0,none⟩),.pointer (some ⟨b3,0,none⟩)]] w (Ret (.int .i64 (Zl4 F l 0)) w):=by
 obtain ⟨A,cap,rfl,h1,h2,h3,h4⟩:=h
 have hn63:(l.length:Int)<=9223372036854775807:=by unfold maxLen at h2;omega
 obtain ⟨R,hR⟩:∃R,R=Zl4 F l 0:=⟨_,rfl⟩
 rw [<-hR]
 have HR:=Lib.hid hR
 clear hR
 go_enter Tryz.func140,Tryz.ntmps140
 go_wp2
 go_loopw [8] (fun i wr=>∃k:Nat,k<=l.length/\i= .int .i64 k/\Ext w wr/\R=Zl4 F (l.drop k) k) (fun i _=>l.length-(intOf i).toNat)
 case atStart=>exact ⟨0,Nat.zero_le _,rfl,Ext.refl _,HR.out⟩
 obtain ⟨k,hk,rfl,e1,hid⟩:=hrel
 by_cases hkn:k<l.length
 ·rw [List.drop_eq_getElem_cons hkn] at hid
  unfold Zl4 at hid
  rcases h4 with h4 | ⟨g,rfl,hb,hlt,hcell⟩
  ·omega
  have hld:=Zai wr g k l hkn (fun j u hu=>by rw [Zh (e1.block hlt)];exact hcell j u hu)
  have cp1:=hF wr (l[k]'hkn) e1
  cases hq:F (l[k]'hkn) with
  | true=>
    rw [if_pos hq] at hid
    rw [hq] at cp1
    have HI:=Lib.hid hid
    generalize (l[k]'hkn)=o at *
    clear hid hcell hF
    go_wp2_with (first | (refine Zd rfl 153 _ _ _ rfl rfl hld ?_))
    refine cp1.mono ?_
    rintro e w5 ⟨rfl,e5⟩
    go_wp2
    go_ret
    exact ⟨by rw [HI.out];rfl,Xt e1 e5⟩
  | false=>
    rw [if_neg (by rw [hq];simp)] at hid
    rw [hq] at cp1
    have HI:=Lib.hid hid
    generalize (l[k]'hkn)=o at *
    clear hid hcell hF
    go_wp2_with (first | (refine Zd rfl 153 _ _ _ rfl rfl hld ?_))
    refine cp1.mono ?_
    rintro e w5 ⟨rfl,e5⟩
    go_wp2
    exact ⟨⟨k+1,by omega,by go_num,Xt e1 e5,HI.out⟩,by simp [intOf];omega⟩
 have hk':k=l.length:=by omega
 subst hk'
 rw [List.drop_length] at hid
 have HI:=Lib.hid hid
 clear hid hF
 go_wp2
 go_ret
 exact ⟨by rw [HI.out];rfl,e1⟩
end Go.Proofs.YtipjchbdogmccaaGreat
/- Swaps:the door of Swap;what its closing regions need. -/
namespace Go.Proofs.YtipjchbdogmccaaGreat
open Go.RowKit Go.Rg Go.BigFrame
theorem sdef_ok (b4 b5 b6:Nat) (w:World) (k6:w.heap[b6]? =some (.cells #[.int .i64 0] 35 (0,0))):
 CallsD Tryz.prog 171 #[.pointer (some ⟨b6,0,none⟩),.pointer (some ⟨b4,0,none⟩),.pointer (some ⟨b5,0,none⟩)] .returning w (fun e u' w'=>u'= .returning/\(e= .returned (.tuple #[])/\w'=w)):=by
 have c6:=Za (j:=0) k6 rfl
 clear k6
 go_enter_d Tryz.func171,Tryz.ntmps171
 go_wp2
 go_end0
 exact ⟨rfl,rfl⟩
theorem sdef_bad (b4 b5 b6:Nat) (x y sv:Value) (er:Int) (w:World) (h45:b4≠b5) (he:(er==0)=false) (k4:w.heap[b4]? =some (.cells #[x,y] 103 (0,0))) (k5:w.heap[b5]? =some (.cells #[sv] 243 (0,0)))
 (k6:w.heap[b6]? =some (.cells #[.int .i64 er] 35 (0,0))):
 CallsD Tryz.prog 171 #[.pointer (some ⟨b6,0,none⟩),.pointer (some ⟨b4,0,none⟩),.pointer (some ⟨b5,0,none⟩)] .returning w (fun e u' w'=>u'= .returning/\(e= .returned (.tuple #[])/\
  (Keep [b4,b5] w w'/\w'.heap[b4]? =some (.cells #[.pointer none,.pointer none] 103 (0,0))/\w'.heap[b5]? =some (.cells #[.slice none 0 0] 243 (0,0))))):=by
 have c6:=Za (j:=0) k6 rfl
 have hne:(er !=0)=true:=by simp only [bne,he,Bool.not_false]
 have hl:=Zg k4
 clear k6
 go_enter_d Tryz.func171,Tryz.ntmps171
 go_wp2_with (refine Ze rfl rfl 103 _ _ rfl b4 _ rfl rfl 103 _ k4 (by kernel_rfl) (by rfl) (by rfl) ?_;intro w3 hb3 ho3 hs3;have k53:=(ho3 b5 (Ne.symm h45)).trans k5;have c53:=Za (j:=0) k53 rfl;have f53:=frozen_of_row w3 b5 0 _ _ k53)
 go_end0
 have hsz:w.heap.size<=w3.heap.size:=(hb3 0 w (Nat.zero_le _) (Below.refl _ _)).size
 have hbw:=hb3 0 w (Nat.zero_le _) (Below.refl _ _)
 have kk:Keep [b4,b5] w w3:=⟨hbw.os,hbw.tape,hbw.output,hsz,fun i hi hn=>ho3 i (by simp at hn;exact hn.1)⟩
 refine ⟨rfl,kk.setCell (Or.inl (by simp)) _,?_,heap_setCell_same w3 b5 0 _ _ _ k53⟩
 rw [Below.heap_setCell _ _ _ _ (by exact h45)]
 exact hs3
theorem X0 (tmps:Array Value) (b4 b5 b6:Nat) (x y sv:Value) (er:Int) (W:World) (R:Ending->World->Prop) (h45:b4≠b5) (h46:b6≠b4) (h56:b6≠b5)
 (t4:tmps.getD 14 undef= .pointer (some ⟨b4,0,none⟩)) (t5:tmps.getD 15 undef= .pointer (some ⟨b5,0,none⟩)) (t6:tmps.getD 16 undef= .pointer (some ⟨b6,0,none⟩))
 (k4:W.heap[b4]? =some (.cells #[x,y] 103 (0,0))) (k5:W.heap[b5]? =some (.cells #[sv] 243 (0,0))) (k6:W.heap[b6]? =some (.cells #[.int .i64 er] 35 (0,0)))
 (hok:er=0->R (.returned (.tuple #[.agg #[x,y],sv,.int .i64 er])) W)
 (hbad:er≠0->∀W',Keep [b4,b5] W W'->R (.returned (.tuple #[.agg #[.pointer none,.pointer none],.slice none 0 0,.int .i64 er])) W'):
 Leaves Tryz.prog Tryz.f146 tmps R [{ target:= .fn (.func 171) #[.pointer (some ⟨b6,0,none⟩),.pointer (some ⟨b4,0,none⟩),.pointer (some ⟨b5,0,none⟩)],args:=#[] }] .returning W:=by
 have hr:Tryz.f146.results=#[.cell 14 103,.cell 15 243,.cell 16 35]:=rfl
 have hres:∀(w:World) (x y sv:Value),w.heap[b4]? =some (.cells #[x,y] 103 (0,0))->w.heap[b5]? =some (.cells #[sv] 243 (0,0))->w.heap[b6]? =some (.cells #[.int .i64 er] 35 (0,0))->
  (results Tryz.f146 tmps).run Tryz.prog w= .ok (.tuple #[.agg #[x,y],sv,.int .i64 er]) w:=by
  intro w x y sv g4 g5 g6
  have l4:(loadVar 103 ⟨b4,0,none⟩).run Tryz.prog w= .ok (.agg #[x,y]) w:=run_loadVar_row w b4 _ _ _ _ _ g4 Tryz.underlying103 rfl (by kernel_rfl)
  have c5:=Za (j:=0) g5 rfl
  have c6:=Za (j:=0) g6 rfl
  have l5:(loadVar 243 ⟨b5,0,none⟩).run Tryz.prog w= .ok sv w:=by go_simp
  have l6:(loadVar 35 ⟨b6,0,none⟩).run Tryz.prog w= .ok (.int .i64 er) w:=by go_simp
  simp only [Array.getD_eq_getD_getElem?] at t4 t5 t6
  simp only [results,hr]
  simp [Sem.run_bind,Result.andThen,t4,t5,t6,asAddr,l4,l5,l6]
 refine leaves_cons (f:=171) (args:=#[.pointer (some ⟨b6,0,none⟩),.pointer (some ⟨b4,0,none⟩),.pointer (some ⟨b5,0,none⟩)]) (by simp) (by simp [go_sem]) ?_
 by_cases h0:er=0
 ·subst h0
  refine (sdef_ok b4 b5 b6 W k6).mono ?_
  rintro e u' w'' ⟨rfl,rfl,rfl⟩
  exact ⟨_,hres _ _ _ _ k4 k5 k6,hok rfl⟩
 refine (sdef_bad b4 b5 b6 x y sv er W h45 (by simpa using h0) k4 k5 k6).mono ?_
 rintro e u' w'' ⟨rfl,rfl,kk,g4,g5⟩
 exact ⟨_,hres _ _ _ _ g4 g5 (kk.at k6 (by simp [h46,h56])),hbad h0 _ kk⟩
theorem clipS_any (base n cap:Nat) (A:Option Addr) (xs:List Value) (w:World) (h:Zs w base 5 (.slice A n cap) n xs):Calls Tryz.prog 180 #[.slice A n cap] w (Ret (.slice A n n) w):=by
 obtain ⟨A',cap',hv,h1,h2,h3,h4⟩:=h
 injection hv with hv1 _ hv2
 subst hv1 hv2
 rcases h4 with rfl | ⟨g,rfl,hb,hlt,hc⟩
 ·cases A with
  | none=>
    go_enter Tryz.func180,Tryz.ntmps180
    go_wp2
    go_ret
    exact ⟨rfl,Ext.refl _⟩
  | some a=>
    go_enter Tryz.func180,Tryz.ntmps180
    go_wp2
    go_ret
    exact ⟨rfl,Ext.refl _⟩
 have hn63:(n:Int)<=9223372036854775807:=by unfold maxLen at h2;omega
 go_enter Tryz.func180,Tryz.ntmps180
 go_wp2
 go_ret
 exact ⟨rfl,Ext.refl _⟩
theorem Zs.clip {w:World} {base size n cap:Nat} {A:Option Addr} {xs:List Value} (h:Zs w base size (.slice A n cap) n xs):Zs w base size (.slice A n n) n xs:=by
 obtain ⟨A',cap',hv,h1,h2,h3,h4⟩:=h
 injection hv with hv1 _ hv2
 subst hv1 hv2
 exact ⟨_,_,rfl,Nat.le_refl _,Nat.le_trans h1 h2,h3,h4⟩
end Go.Proofs.YtipjchbdogmccaaGreat
namespace Go.RgK
open Go.RowKit Go.Rg
section
variable {S:List Nat} {P:Program} {ops:Array Oper} {md:Region.Mode}
theorem Zh3 {n f:Nat} {L:Array Bool->Act->World->Prop} {listed:Array Bool} {a:Act} {w0 w:World} (i:Nat) (o:Oper) (ty:TypeId) (x:Operand) (v:Value) (p:Addr) (hop:o.op= .load ty x) (hg:o.guard=none)
 (hr:Region.ready md ops listed=[i]) (hin:i<n) (ho:ops[i]? =some o) (hx:a.eval x= .pointer (some p)) (hl:∀w',Ext w w'->(loadVar ty p).run P w'= .ok v w')
 (h:∀w':World,Keep S w0 w'->Ext w w'->wpX S P md ops w0 n L f (listed.setIfInBounds i true) (a.put o.dst v) w'):wpX S P md ops w0 n L (f+1) listed a w:=by
 refine V0 i o hr hin ho (by simp [Region.wanted,hg]) fun w' h0 hw'=> ?_
 unfold X6
 rw [Vm ty x v p hop hx (hl w' hw')]
 exact ⟨h0,h w' h0 hw'⟩
end
end Go.RgK
/- Swaps:Swap. -/
namespace Go.Proofs.YtipjchbdogmccaaGreat
open Go.RowKit Go.Rg Go.BigFrame
theorem rows7 (w:World) (a0 a1 a2 a3 a4 a5 a6:Array Value) (t0 t1 t2 t3 t4 t5 t6:TypeId) (W:World)
 (hW:W=(((((((w.alloc (.cells a0 t0)).alloc (.cells a1 t1)).alloc (.cells a2 t2)).alloc (.cells a3 t3)).alloc (.cells a4 t4)).alloc (.cells a5 t5)).alloc (.cells a6 t6))):
 Ext w W/\W.heap.size=w.heap.size+1+1+1+1+1+1+1/\W.heap[w.heap.size]? =some (.cells a0 t0 (0,0))/\W.heap[w.heap.size+1]? =some (.cells a1 t1 (0,0))/\W.heap[w.heap.size+1+1]? =some (.cells a2 t2 (0,0))/\
 W.heap[w.heap.size+1+1+1]? =some (.cells a3 t3 (0,0))/\W.heap[w.heap.size+1+1+1+1]? =some (.cells a4 t4 (0,0))/\W.heap[w.heap.size+1+1+1+1+1]? =some (.cells a5 t5 (0,0))/\W.heap[w.heap.size+1+1+1+1+1+1]? =some (.cells a6 t6 (0,0)):=by
 have one:∀(w:World) (a:Array Value) (t:TypeId),Ext w (w.alloc (.cells a t))/\(w.alloc (.cells a t)).heap.size=w.heap.size+1/\(w.alloc (.cells a t)).heap[w.heap.size]? =some (.cells a t (0,0)):=fun w a t=>⟨Zc w _,size_alloc w _,Zb w _⟩
 obtain ⟨e0,s0,h0⟩:=one w a0 t0
 generalize w.alloc (.cells a0 t0)=w1 at *
 obtain ⟨e1,s1,h1⟩:=one w1 a1 t1
 generalize w1.alloc (.cells a1 t1)=w2 at *
 obtain ⟨e2,s2,h2⟩:=one w2 a2 t2
 generalize w2.alloc (.cells a2 t2)=w3 at *
 obtain ⟨e3,s3,h3⟩:=one w3 a3 t3
 generalize w3.alloc (.cells a3 t3)=w4 at *
 obtain ⟨e4,s4,h4⟩:=one w4 a4 t4
 generalize w4.alloc (.cells a4 t4)=w5 at *
 obtain ⟨e5,s5,h5⟩:=one w5 a5 t5
 generalize w5.alloc (.cells a5 t5)=w6 at *
 obtain ⟨e6,s6,h6⟩:=one w6 a6 t6
 generalize w6.alloc (.cells a6 t6)=w7 at *
 subst hW
 rw [s0] at s1 h1
 rw [s1] at s2 h2
 rw [s2] at s3 h3
 rw [s3] at s4 h4
 rw [s4] at s5 h5
 rw [s5] at s6 h6
 have x5:=Xt e5 e6
 have x4:=Xt e4 x5
 have x3:=Xt e3 x4
 have x2:=Xt e2 x3
 have x1:=Xt e1 x2
 exact ⟨Xt e0 x1,s6,x1.at h0,x2.at h1,x3.at h2,x4.at h3,x5.at h4,e6.at h5,h6⟩
def Ug (c:Int):Bool:=decide (1<=c)&&decide (c<=8)
def Xl (c:Int):Bool:=decide (1<=c)&&decide (c<=16)
def Xj (c:Int):Bool:=decide (1<=c)&&decide (c<=1099511627776)
def Zdh (L:Led) (B:Bk) (fr to get give n:Int):Option Off:=(Vp B.offs get give).find? fun o=>decide (0<Y1 L B o.seq fr to n 1099511627776)
def Y6 (fr to get give:Int):Nat->Led->Bk->Int->List Fl->Int×Led×Bk×Int×List Fl
 | 0,L,B,n,all=>(0,L,B,n,all)
 | f+1,L,B,n,all=>
   if n<=0 then (0,L,B,n,all)
   else match Zdh L B fr to get give n with
    | none=>(11,L,B,n,all)
    | some o=>
      if all.length=64 then (13,L,B,n,all)
      else Y6 fr to get give f (doR L B o.seq fr to (Y1 L B o.seq fr to n 1099511627776)).2.2.1 (doR L B o.seq fr to (Y1 L B o.seq fr to n 1099511627776)).2.2.2
       (n-(doR L B o.seq fr to (Y1 L B o.seq fr to n 1099511627776)).1.2.2.2.1) (all++[(doR L B o.seq fr to (Y1 L B o.seq fr to n 1099511627776)).1])
def Y3 (L:Led) (B:Bk) (fr to get give n most:Int):Int×Led×Bk×List Fl:=
 if (Xl fr&&Xl to&&Ug get&&Ug give&& !(get==give)&&Xj n&&Xj most)=false then (1,L,B,[])
 else if (Yp L fr&&Yp L to)=false then (7,L,B,[])
 else if (Y6 fr to get give 65 L B n []).1≠0 then ((Y6 fr to get give 65 L B n []).1,L,B,[])
 else if most<V8 (Y6 fr to get give 65 L B n []).2.2.2.2 then (12,L,B,[])
 else (0,(Y6 fr to get give 65 L B n []).2.1,(Y6 fr to get give 65 L B n []).2.2.1,(Y6 fr to get give 65 L B n []).2.2.2.2)
def RetSwap (r:Int×Led×Bk×List Fl) (w:World) (e:Ending) (w':World):Prop:=
 ∃hv av,e= .returned (.tuple #[hv,av,.int .i64 r.1])/\Ext w w'/\(r.1≠0->hv= .agg #[.pointer none,.pointer none]/\av= .slice none 0 0)/\
  (r.1=0->∃p m pb g,hv= .agg #[.pointer (some ⟨p,0,none⟩),.pointer (some ⟨pb,0,none⟩)]/\IsLed w' p m r.2.1/\IsBook w' pb g r.2.2.1/\Zs w' w.heap.size 5 av r.2.2.2.length (Yn r.2.2.2))
theorem Zaz {W:World} {p m pb base:Nat} {g:Option Nat} {L:Led} {B:Bk} {av:Value} {n:Nat} {xs:List Value} (hL:IsLed W p m L) (hB:IsBook W pb g B) (ho:W.ownsRow base 250 5 av n xs):
 ∀q,av.ownBlock=some q->q∉m::pb::g.toList/\q≠p:=by
 obtain ⟨v,hv,hg,hob⟩:=hB.row
 obtain ⟨_,_,es,ck,hm,_⟩:=hL.map
 have hp:=hL.row
 have key:∀x,g=some x->∃cur,W.heap[x]? =some (.cells cur 153 (0,0)):=by
  intro x hx
  rcases hob.2 with ⟨rfl,_⟩ | ⟨b,cap,cur,rfl,_,hh,_⟩
  ·rw [<-hg] at hx;simp [Value.ownBlock] at hx
  rw [<-hg] at hx
  simp only [Value.ownBlock,Option.some.injEq] at hx
  subst hx
  exact ⟨cur,hh⟩
 have keyq:∀q,av.ownBlock=some q->∃cur,W.heap[q]? =some (.cells cur 250 (0,0)):=by
  intro q hq
  rcases ho.2 with ⟨rfl,_⟩ | ⟨b,cap,cur,rfl,_,hh,_⟩
  ·simp [Value.ownBlock] at hq
  simp only [Value.ownBlock,Option.some.injEq] at hq
  subst hq
  exact ⟨cur,hh⟩
 intro q hq
 obtain ⟨cq,hq2⟩:=keyq q hq
 refine ⟨fun hx=> ?_,fun e=>by subst e;rw [hq2] at hp;simp at hp⟩
 rcases List.mem_cons.1 hx with rfl | hx
 ·rw [hm] at hq2;simp at hq2
 rcases List.mem_cons.1 hx with rfl | hx
 ·rw [hv] at hq2;simp at hq2
 obtain ⟨cur,hh⟩:=key q (by simpa using hx)
 rw [hh] at hq2;simp at hq2
structure SRow (b:Nat) (fr to n:Int) (p pb:Nat) (av:Value) (W:World):Prop where
 k1:W.heap[b+1]? =some (.cells #[.int .u8 fr] 24 (0,0))
 k2:W.heap[b+1+1]? =some (.cells #[.int .u8 to] 24 (0,0))
 k3:W.heap[b+1+1+1]? =some (.cells #[.int .i64 n] 2 (0,0))
 k4:W.heap[b+1+1+1+1]? =some (.cells #[.pointer (some ⟨p,0,none⟩),.pointer (some ⟨pb,0,none⟩)] 103 (0,0))
 k5:W.heap[b+1+1+1+1+1]? =some (.cells #[av] 243 (0,0))
 k6:W.heap[b+1+1+1+1+1+1]? =some (.cells #[.int .i64 0] 35 (0,0))
theorem SRow.keep {b:Nat} {fr to n:Int} {p pb:Nat} {av:Value} {W W':World} (h:SRow b fr to n p pb av W) (k:∀j ob,j<b+1+1+1+1+1+1+1->W.heap[j]? =some ob->W'.heap[j]? =some ob):SRow b fr to n p pb av W':=
 ⟨k _ _ (by omega) h.k1,k _ _ (by omega) h.k2,k _ _ (by omega) h.k3,k _ _ (by omega) h.k4,k _ _ (by omega) h.k5,k _ _ (by omega) h.k6⟩
structure SI (w:World) (fr to get give:Int) (r0:Int×Led×Bk×Int×List Fl) (p m pb:Nat) (g:Option Nat) (L:Led) (B:Bk) (n:Int) (all:List Fl) (av:Value) (W:World):Prop where
 row:SRow w.heap.size fr to n p pb av W
 led:IsLed W p m L
 book:IsBook W pb g B
 own:W.ownsRow (w.heap.size+1+1+1+1+1+1+1) 250 5 av all.length (Yn all)
 wf:WF L
 ok:OkB B
 sn:Uv B
 hn:n<=9223372036854775807
 ha:all.length<=64
 hp:w.heap.size+1+1+1+1+1+1+1<=p
 hm:w.heap.size+1+1+1+1+1+1+1<=m
 hb:w.heap.size+1+1+1+1+1+1+1<=pb
 hg:∀x,g=some x->w.heap.size+1+1+1+1+1+1+1<=x
 ex:Ext w W
 on:Y6 fr to get give (65-all.length) L B n all=r0
theorem SI.ext {w:World} {fr to get give:Int} {r0:Int×Led×Bk×Int×List Fl} {p m pb:Nat} {g:Option Nat} {L:Led} {B:Bk} {n:Int} {all:List Fl} {av:Value} {W W':World} (h:SI w fr to get give r0 p m pb g L B n all av W) (k:Ext W W'):SI w fr to get give r0 p m pb g L B n all av W':=
 { h with row:=h.row.keep fun _ _ _ hj=>k.at hj,led:=h.led.ext k,book:=h.book.ext k,own:=Zt h.own k,ex:=Xt h.ex k }
theorem SI.keepS {w:World} {fr to get give:Int} {r0:Int×Led×Bk×Int×List Fl} {p m pb:Nat} {g:Option Nat} {L:Led} {B:Bk} {n:Int} {all:List Fl} {av:Value} {W:World} (h:SI w fr to get give r0 p m pb g L B n all av W):
 ∀j,j<w.heap.size+1+1+1+1+1+1+1->j∉m::pb::g.toList:=fun j hj hx=>by
 have h1:=h.hm
 have h2:=h.hb
 rcases List.mem_cons.1 hx with rfl | hx
 ·omega
 rcases List.mem_cons.1 hx with rfl | hx
 ·omega
 have:=h.hg j (by simpa using hx);omega
theorem Zfu {w:World} {fr to get give:Int} {r0:Int×Led×Bk×Int×List Fl} {p m pb:Nat} {g g4:Option Nat} {L dL:Led} {B dB:Bk} {n:Int} {all:List Fl} {av:Value} {w2 wA w4 w5 w6 w7:World} {eb:Nat} (h:SI w fr to get give r0 p m pb g L B n all av w2)
 (hE:Ext w2 wA) (k4:Keep (m::pb::g.toList) wA w4) (hL:IsLed w4 p m dL) (hB:IsBook w4 pb g4 dB) (hx:Ext w4 w5) (k6:Keep [eb] w5 w6) (h7:Ext w6 w7) (heb:w2.heap.size<=eb) (heg:∀x,g4=some x->x≠eb):
 SRow w.heap.size fr to n p pb av w7/\IsLed w7 p m dL/\IsBook w7 pb g4 dB/\w7.ownsRow (w.heap.size+1+1+1+1+1+1+1) 250 5 av all.length (Yn all)/\Ext w w7:=by
 have hq:=Zaz h.led h.book h.own
 have hlp:=h.led.ltp
 have hlm:=h.led.ltm
 have hlb:=h.book.ltp
 have sz6:=Zg h.row.k6
 have ho4:=Zad (Zt h.own hE) k4 (fun q hq2=>(hq q hq2).1)
 have hqe:∀q,av.ownBlock=some q->q∉[eb]:=fun q hq2=>by have:=(h.own.lt q hq2).2;simp;omega
 refine ⟨h.row.keep fun j ob hj hh=>h7.at (k6.at (hx.at (k4.at (hE.at hh) (h.keepS j hj))) (by simp;omega)),((hL.ext hx).keep k6 (by simp;omega) (by simp;omega)).ext h7,((hB.ext hx).keep k6 (by simp;omega) (fun x hx=>by have:=heg x hx;simp;exact this)).ext h7,
  Zt (Zad (Zt ho4 hx) k6 hqe) h7,?_⟩
 have hw:=h.ex.size
 have a1:Keep [] w wA:=Kx (Xt h.ex hE)
 have a2:Keep [] w w4:=Keep.trans_fresh a1 k4 (fun x hx=>by
  right
  have h1:=h.hm
  have h2:=h.hb
  rcases List.mem_cons.1 hx with rfl | hx
  ·omega
  rcases List.mem_cons.1 hx with rfl | hx
  ·omega
  have:=h.hg x (by simpa using hx);omega)
 have a3:Keep [] w w5:=a2.trans (Kx hx)
 have a4:Keep [] w w6:=Keep.trans_fresh a3 k6 (fun x hx=>by right;simp at hx;omega)
 exact Xt a4.ext h7
theorem Zcs (c:Int) (w:World):Calls Tryz.prog 173 #[.int .u8 c] w (fun e w'=>e= .returned (.bool (Ug c))/\w'=w):=by
 unfold Ug
 by_cases h1:1<=c
 ·have q1:decide (1<=c)=true:=by simpa using h1
  go_enter Tryz.func173,Tryz.ntmps173
  go_wp2
  go_ret
  exact ⟨by simp [h1],rfl⟩
 have q1:decide (1<=c)=false:=by simpa using h1
 go_enter Tryz.func173,Tryz.ntmps173
 go_wp2
 go_ret
 exact ⟨by simp,rfl⟩
theorem Zc4 (c:Int) (w:World):Calls Tryz.prog 172 #[.int .u8 c] w (fun e w'=>e= .returned (.bool (Xl c))/\w'=w):=by
 unfold Xl
 by_cases h1:1<=c
 ·have q1:decide (1<=c)=true:=by simpa using h1
  go_enter Tryz.func172,Tryz.ntmps172
  go_wp2
  go_ret
  exact ⟨by simp [h1],rfl⟩
 have q1:decide (1<=c)=false:=by simpa using h1
 go_enter Tryz.func172,Tryz.ntmps172
 go_wp2
 go_ret
 exact ⟨by simp,rfl⟩
theorem Zdk (c:Int) (w:World):Calls Tryz.prog 174 #[.int .i64 c] w (fun e w'=>e= .returned (.bool (Xj c))/\w'=w):=by
 unfold Xj
 by_cases h1:1<=c
 ·have q1:decide (1<=c)=true:=by simpa using h1
  go_enter Tryz.func174,Tryz.ntmps174
  go_wp2
  go_ret
  exact ⟨by simp [h1],rfl⟩
 have q1:decide (1<=c)=false:=by simpa using h1
 go_enter Tryz.func174,Tryz.ntmps174
 go_wp2
 go_ret
 exact ⟨by simp,rfl⟩
end Go.Proofs.YtipjchbdogmccaaGreat
