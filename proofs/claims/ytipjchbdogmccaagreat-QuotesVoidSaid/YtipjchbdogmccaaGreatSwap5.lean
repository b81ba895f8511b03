/- Swaps: Swap of a house that is there. Swaps: what is given in all; which offer is filled next; the closure behind it all; no house. Swaps, plainly; what holds between two fills. -/
import Derived.Test.YtipjchbdogmccaaGreatPlace4
import Derived.Laws.Externs
import Derived.Defers
set_option maxHeartbeats 6400000
set_option maxRecDepth 100000
namespace Go.Proofs.YtipjchbdogmccaaGreat
open Go.RowKit Go.Rg Go.BigFrame
theorem Zmh (x y c:Int) (hx:0<=x) (hy:0<=y) (hc0:0<=c) (hc:c<=1) (w:World):
 (callFunc 266 #[.int .u64 x,.int .u64 y,.int .u64 c]).run Tryz.prog w= .ok (.value (.tuple #[.int .u64 ((x+y+c)%18446744073709551616),.int .u64 ((x+y+c) / 18446744073709551616)])) w:=by
 rw [run_callFunc_extern Tryz.func266 (by kernel_rfl) (by kernel_rfl) (by kernel_rfl) (e:=add64Entry) (by kernel_rfl),run_add64 x y c hx hy hc0 hc]
 rfl
theorem Zb8 (n:Int):0<=IntKind.u64.wrap n:=by rw [IntKind.wrap_u64];omega
theorem Znx (n:Int):IntKind.u64.wrap n<18446744073709551616:=by rw [IntKind.wrap_u64];omega
def J6 (h:Int×Int) (n:Int):Int×Int:=
 ((h.1+IntKind.u64.wrap (n / 9223372036854775808)+(h.2+IntKind.u64.wrap n) / 18446744073709551616)%18446744073709551616,(h.2+IntKind.u64.wrap n)%18446744073709551616)
theorem plus_any (hi lo n:Int) (w:World) (h1:0<=hi) (h2:0<=lo) (h3:lo<18446744073709551616):Calls Tryz.prog 233 #[.agg #[.int .u64 hi,.int .u64 lo],.int .i64 n] w (Ret (.agg #[.int .u64 (J6 (hi,lo) n).1,.int .u64 (J6 (hi,lo) n).2]) w):=by
 have wn:=Zb8 n
 have wl:=Znx n
 have c1:=fun wq=>Zmh lo (IntKind.u64.wrap n) 0 h2 wn (by omega) (by omega) wq
 simp only [Int.add_zero] at c1
 have c2:=fun wq=>Zmh hi (IntKind.u64.wrap (n / 9223372036854775808)) ((lo+IntKind.u64.wrap n) / 18446744073709551616) h1 (Zb8 _) (by omega) (by omega) wq
 unfold J6
 simp only
 have z0:=Zc w (.cells #[.int .u64 hi,.int .u64 lo] 352)
 have zs:=size_alloc w (.cells #[.int .u64 hi,.int .u64 lo] 352)
 have z1:=Zc (w.alloc (.cells #[.int .u64 hi,.int .u64 lo] 352)) (.cells #[.int .u64 0,.int .u64 0] 352)
 have y1:=Zb (w.alloc (.cells #[.int .u64 hi,.int .u64 lo] 352)) (.cells #[.int .u64 0,.int .u64 0] 352)
 rw [zs] at y1
 have zz:=Xt z0 z1
 clear z0 z1
 go_enter Tryz.func233,Tryz.ntmps233
 go_wp2_with (refine Ze rfl rfl 352 _ _ rfl (w.heap.size+1) _ rfl rfl 352 _ y1 (by kernel_rfl) (by rfl) (by rfl) ?_;intro w3 hb3 ho3 hs3)
 exact Yp (w.heap.size+1) 352 _ _ _ rfl rfl hs3 Tryz.underlying352 rfl (by kernel_rfl) rfl ⟨rfl,hb3 _ _ (by omega) zz⟩
def Zcc (l:List Int):Int×Int:=l.foldl J6 (0,0)
def sumW (h:Int×Int):Int×Int:=
 if h.1==IntKind.u64.wrap (wrap64 h.2 / 9223372036854775808) then (wrap64 h.2,0) else (0,10)
def Zp6 (l:List Int):Int×Int:=sumW (Zcc l)
theorem plusR_bd (h:Int×Int) (n:Int):0<=(J6 h n).1/\0<=(J6 h n).2/\(J6 h n).2<18446744073709551616:=by
 unfold J6
 simp only
 omega
theorem Zrk (l:List Int) (k:Nat) (hk:k<l.length):Zcc (l.take (k+1))=J6 (Zcc (l.take k)) (l[k]'hk):=by
 unfold Zcc
 rw [List.take_succ_eq_append_getElem hk,List.foldl_append]
 rfl
theorem Zl4:∀(l:List Int) (h:Int×Int),0<=h.1/\0<=h.2/\h.2<18446744073709551616->0<=(l.foldl J6 h).1/\0<=(l.foldl J6 h).2/\(l.foldl J6 h).2<18446744073709551616
 | [],_,h=>h
 | n::l,h,_=>Zl4 l (J6 h n) (plusR_bd h n)
theorem foldW_bd (l:List Int):0<=(Zcc l).1/\0<=(Zcc l).2/\(Zcc l).2<18446744073709551616:=Zl4 l (0,0) (by decide)
def J0 (l:List Int):List Value:=l.map fun n=>.int .i64 n
theorem sum_any (base:Nat) (v:Value) (l:List Int) (w:World) (h:Zn w base 1 v l.length (J0 l)):Calls Tryz.prog 181 #[v] w (Ret (.tuple #[.int .i64 (Zp6 l).1,.int .i64 (Zp6 l).2]) w):=by
 obtain ⟨A,cap,rfl,h1,h2,h3,h4⟩:=h
 have hn63:(l.length:Int)<=9223372036854775807:=by unfold maxLen at h2;omega
 have z0:=Zc w (.cells #[.int .u64 0,.int .u64 0] 352)
 have y0:=Zb w (.cells #[.int .u64 0,.int .u64 0] 352)
 go_enter Tryz.func181,Tryz.ntmps181
 go_wp2
 generalize w.alloc (.cells #[.int .u64 0,.int .u64 0] 352)=wa at *
 go_loopw [10] (fun i wr=>∃k:Nat,k<=l.length/\i= .int .i64 k/\Ext w wr/\wr.heap[w.heap.size]? =some (.cells #[.int .u64 (Zcc (l.take k)).1,.int .u64 (Zcc (l.take k)).2] 352 (0,0))) (fun i _=>l.length-(intOf i).toNat)
 case atStart=>exact ⟨0,Nat.zero_le _,rfl,z0,y0⟩
 obtain ⟨k,hk,rfl,e1,hrow⟩:=hrel
 have hlt2:=Zg hrow
 have c0:=Za (j:=0) hrow rfl
 have c1:=Za (j:=1) hrow rfl
 by_cases hkn:k<l.length
 ·rcases h4 with h4 | ⟨g,rfl,hb,hlt,hcell⟩
  ·omega
  have hc:wr.cell? ⟨g,k,none⟩=some (.int .i64 (l[k]'hkn)):=by
   rw [Zf (e1.block hlt)]
   exact hcell k _ (by unfold J0;rw [List.getElem?_map,List.getElem?_eq_getElem hkn];rfl)
  have hf:=Zrk l k hkn
  have hb2:=foldW_bd (l.take k)
  generalize l[k]'hkn=n at *
  generalize Zcc (l.take k)=fk at *
  obtain ⟨hi,lo⟩:=fk
  simp only at c0 c1 hb2
  have HF:=Lib.hid hf
  clear hf
  go_wp2_with fail
  refine (plus_any hi lo n _ hb2.1 hb2.2.1 hb2.2.2).mono ?_
  rintro e w5 ⟨rfl,e5⟩
  have hrow5:=e5.at hrow
  go_wp2_with (refine Ze rfl rfl 352 _ _ rfl w.heap.size _ rfl rfl 352 _ hrow5 (by kernel_rfl) (by rfl) (by rfl) ?_;intro w6 hb6 ho6 hs6)
  exact ⟨⟨k+1,by omega,by go_num,hb6 _ _ (Nat.le_refl _) (Xt e1 e5),by rw [HF.out];exact hs6⟩,by simp [intOf];omega⟩
 have hk':k=l.length:=by omega
 subst hk'
 rw [List.take_length] at hrow c0 c1
 obtain ⟨fw,hfw⟩:∃fw,Zcc l=fw:=⟨_,rfl⟩
 have HS:=Lib.hid (show Zp6 l=sumW fw by unfold Zp6;rw [hfw])
 rw [hfw] at hrow c0 c1
 clear hfw
 obtain ⟨hi,lo⟩:=fw
 simp only at c0 c1
 cases hq:(hi==IntKind.u64.wrap (wrap64 lo / 9223372036854775808))
 rotate_left
 all_goals
  go_wp2
  go_ret2
  exact ⟨by rw [HS.out];simp only [sumW,hq];rfl,e1⟩
def Y1 (l:List Fl):Int:=(Zp6 (l.map fun f=>f.2.2.2.2)).1
def Znr (f:Fl):List Value:=[.int .u64 f.1,.int .u8 f.2.1,.int .u8 f.2.2.1,.int .i64 f.2.2.2.1,.int .i64 f.2.2.2.2]
def Fagg (f:Fl):Value:= .agg #[.int .u64 f.1,.int .u8 f.2.1,.int .u8 f.2.2.1,.int .i64 f.2.2.2.1,.int .i64 f.2.2.2.2]
theorem Zrp (l:List Fl) (k j:Nat) (hk:k<l.length) (hj:j<5):(Yt l)[k*5+j]? =(Znr (l[k]'hk))[j]? :=by
 induction l generalizing k with
 | nil=>simp at hk
 | cons o l ih=>
   have h5:(Znr o).length=5:=rfl
   have hc:Yt (o::l)=Znr o++Yt l:=rfl
   cases k with
   | zero=>
     simp only [hc,Nat.zero_mul,Nat.zero_add,List.getElem_cons_zero]
     rw [List.getElem?_append_left (by rw [h5];exact hj)]
   | succ k=>
     have:=ih k (by simpa using hk)
     simp only [hc,List.getElem_cons_succ] at this ⊢
     rw [List.getElem?_append_right (by rw [h5];omega),h5,show (k+1)*5+j-5=k*5+j by omega]
     exact this
theorem Zmx (w:World) (g k:Nat) (l:List Fl) (hk:k<l.length) (h:∀j u,(Yt l)[j]? =some u->w.cell? ⟨g,j,none⟩=some u):
 (loadVar 250 ⟨g,k*5,none⟩).run Tryz.prog w= .ok (Fagg (l[k]'hk)) w:=
 Zs w g (k*5) 250 (Znr (l[k]'hk)) _ (fun j u hu=>by
  have hj:j<5:=(List.getElem?_eq_some_iff.1 hu).1
  exact h _ _ ((Zrp l k j hk hj).trans hu)) Tryz.underlying250 rfl (by kernel_rfl)
theorem i64_info:(Tryz.prog.info? 2).map (fun i=>(i.zero,i.size,i.bytes))=some (some (.int .i64 0),1,8):=by kernel_rfl
theorem Zbr (base:Nat) (v:Value) (l:List Fl) (w:World) (hl:l.length<=64) (h:Zn w base 5 v l.length (Yt l)):Calls Tryz.prog 147 #[v] w (Ret (.int .i64 (Y1 l)) w):=by
 obtain ⟨A,cap,rfl,h1,h2,h3,h4⟩:=h
 obtain ⟨i0,hi,hz0,hz1,hz2⟩:=info_parts i64_info
 have hmk:=fun w3:World=>run_make (P:=Tryz.prog) w3 293 2 i0 (.int .i64 0) Tryz.underlying293 hi hz0 .i64 .i64 l.length l.length (by omega) (Int.le_refl _) (by rw [hz2];omega) (by omega)
 rw [hz1] at hmk
 simp only [Int.toNat_natCast,Nat.mul_one] at hmk
 have e0:=Zc w (.cells (madeCells #[.int .i64 0] l.length) 2)
 have y0:=Zb w (.cells (madeCells #[.int .i64 0] l.length) 2)
 obtain ⟨gs,hgs⟩:∃gs:List Int,gs=l.map fun f=>f.2.2.2.2:=⟨_,rfl⟩
 have hgl:gs.length=l.length:=by rw [hgs,List.length_map]
 have HG:=Lib.hid hgs
 have hsm:Y1 l=(Zp6 gs).1:=by rw [hgs];rfl
 rw [hsm]
 clear hgs hsm
 go_enter Tryz.func147,Tryz.ntmps147
 go_wp2
 generalize w.alloc (.cells (madeCells #[.int .i64 0] l.length) 2)=wa at *
 clear hmk
 go_loopw [13] (fun i wr=>∃(k:Nat) (cur:Array Value),k<=l.length/\i= .int .i64 k/\Ext w wr/\wr.heap[w.heap.size]? =some (.cells cur 2 (0,0))/\cur.size=l.length/\∀j,j<k->cur[j]? =(J0 gs)[j]?) (fun i _=>l.length-(intOf i).toNat)
 case atStart=>exact ⟨0,_,Nat.zero_le _,rfl,e0,y0,by rw [size_madeCells],fun j hj=>absurd hj (by omega)⟩
 obtain ⟨k,cur,hk,rfl,e1,hrow,hcs,hcj⟩:=hrel
 have hlt2:=Zg hrow
 by_cases hkn:k<l.length
 ·rcases h4 with h4 | ⟨g,rfl,hb,hlt,hcell⟩
  ·omega
  have hld:=Zmx wr g k l hkn (fun j u hu=>by rw [Zf (e1.block hlt)];exact hcell j u hu)
  have hgk:(J0 gs)[k]? =some (.int .i64 (l[k]'hkn).2.2.2.2):=by
   unfold J0
   rw [HG.out,List.getElem?_map,List.getElem?_map,List.getElem?_eq_getElem hkn];rfl
  generalize (l[k]'hkn)=f at *
  obtain ⟨f0,f1,f2,f3,f4⟩:=f
  simp only [Fagg] at hld hgk
  have z6:=Zb wr (.cells #[.int .u64 0,.int .u8 0,.int .u8 0,.int .i64 0,.int .i64 0] 250)
  have ez6:=Zc wr (.cells #[.int .u64 0,.int .u8 0,.int .u8 0,.int .i64 0,.int .i64 0] 250)
  have HC:=Lib.hid hcj
  have HK:=Lib.hid hgk
  clear hcell hcj hgk
  go_wp2_with (first
   | (refine Zd rfl 250 _ _ _ rfl rfl hld ?_)
   | (refine Ze rfl rfl 250 _ _ rfl wr.heap.size _ rfl rfl 250 _ z6 (by kernel_rfl) (by rfl) (by rfl) ?_
      intro w6 hb6 _ hs6
      have e6:Ext wr w6:=hb6 _ _ (Nat.le_refl _) ez6
      have hrow6:=e6.at hrow
      have c4:=Za (j:=4) hs6 rfl
      have hck:=Za (j:=k) hrow6 (Array.getElem?_eq_getElem (by omega))
      have hfk:=frozen_of_row w6 w.heap.size k _ _ hrow6))
  exact ⟨⟨k+1,_,by omega,by go_num,Below.setCell (Xt e1 e6) (Nat.le_refl _) _,heap_setCell_same w6 w.heap.size k _ _ _ hrow6,by simp [hcs],fun j hj=>by
   rw [Array.getElem?_setIfInBounds]
   by_cases hjk:k=j
   ·subst hjk
    rw [if_pos rfl,if_pos (by omega),HK.out]
   rw [if_neg hjk]
   exact HC.out j (by omega)⟩,by simp [intOf];omega⟩
 have hk':k=l.length:=by omega
 subst hk'
 have hsl:Zn wr w.heap.size 1 (.slice (some ⟨w.heap.size,0,none⟩) gs.length l.length) gs.length (J0 gs):=by
  refine ⟨_,_,rfl,by omega,by unfold maxLen;omega,by unfold J0;rw [List.length_map];omega,.inr ⟨_,rfl,Nat.le_refl _,hlt2,fun j u hu=> ?_⟩⟩
  have hj:j<l.length:=by
   have:=(List.getElem?_eq_some_iff.1 hu).1
   unfold J0 at this
   rw [List.length_map] at this
   omega
  exact Za hrow (by rw [hcj j hj];exact hu)
 rw [hgl] at hsl
 have hsu:=sum_any w.heap.size _ gs wr (by rw [hgl];exact hsl)
 clear hsl hcj
 go_wp2_with fail
 refine hsu.mono ?_
 rintro e w5 ⟨rfl,e5⟩
 go_wp2
 go_ret
 exact ⟨rfl,Xt e1 e5⟩
end Go.Proofs.YtipjchbdogmccaaGreat
/- Swaps:which offer is filled next;the closure behind it all. -/
namespace Go.Proofs.YtipjchbdogmccaaGreat
open Go.RowKit Go.Rg Go.BigFrame
def Zm6 (F:Off->Bool):List Off->Nat->Int
 | [],_=>-1
 | o::l,k=>if F o then k else Zm6 F l (k+1)
theorem Zly (F:Off->Bool):∀(l:List Off) (k:Nat),(Zm6 F l k= -1/\l.find? F=none)\/∃j,∃hj:j<l.length,Zm6 F l k=((k+j:Nat):Int)/\l.find? F=some (l[j]'hj)
 | [],_=>.inl ⟨rfl,rfl⟩
 | o::l,k=>by
   unfold Zm6
   cases h:F o with
   | true=>exact .inr ⟨0,by simp,by simp,by simp [h]⟩
   | false=>
     rcases Zly F l (k+1) with ⟨h1,h2⟩ | ⟨j,hj,h1,h2⟩
     ·exact .inl ⟨by simpa [h] using h1,by simpa [h] using h2⟩
     refine .inr ⟨j+1,by simpa using hj,?_,by simpa [h] using h2⟩
     rw [if_neg (by simp),h1]
     congr 1
     omega
theorem sclo_any (b1 b2 b3 b4 p m pb:Nat) (g:Option Nat) (L:Led) (B:Bk) (o:Off) (fr to n:Int) (w:World) (h:IsLed w p m L) (hwf:WF L) (hB:IsBook w pb g B) (hok:OkB B)
 (k1:w.heap[b1]? =some (.cells #[.int .u8 fr] 24 (0,0))) (k2:w.heap[b2]? =some (.cells #[.int .u8 to] 24 (0,0))) (k3:w.heap[b3]? =some (.cells #[.int .i64 n] 2 (0,0)))
 (k4:w.heap[b4]? =some (.cells #[.pointer (some ⟨p,0,none⟩),.pointer (some ⟨pb,0,none⟩)] 103 (0,0))):
 Calls Tryz.prog 177 #[o.agg,.pointer (some ⟨b4,0,none⟩),.pointer (some ⟨b1,0,none⟩),.pointer (some ⟨b2,0,none⟩),.pointer (some ⟨b3,0,none⟩)] w (Ret (.bool (decide (0<Yl L B o.seq fr to n 1099511627776))) w):=by
 obtain ⟨o0,o1,o2,o3,o4,o5,o6⟩:=o
 simp only [Off.agg]
 have e0:=Zc w (.cells #[.int .u64 o0,.int .u8 o1,.int .u8 o2,.int .u8 o3,.int .i64 o4,.int .i64 o5,.int .i64 o6] 153)
 have h0:=Zb w (.cells #[.int .u64 o0,.int .u8 o1,.int .u8 o2,.int .u8 o3,.int .i64 o4,.int .i64 o5,.int .i64 o6] 153)
 have c0:=Za (j:=0) h0 rfl
 have c1:=Za (j:=0) (e0.at k1) rfl
 have c2:=Za (j:=0) (e0.at k2) rfl
 have c3:=Za (j:=0) (e0.at k3) rfl
 have ld:=run_loadVar_row (P:=Tryz.prog) _ b4 _ 103 _ _ _ (e0.at k4) Tryz.underlying103 rfl (by kernel_rfl)
 have hL1:=h.ext e0
 have hB1:=hB.ext e0
 have hmy:=Ze6 p m pb g L B o0 fr to n 1099511627776 _ hL1 hwf hB1 hok
 clear h0 hL1 hB1 k1 k2 k3 k4
 go_enter Tryz.func177,Tryz.ntmps177
 go_wp2_with (first | (refine Zd rfl 103 _ _ _ rfl rfl ld ?_))
 refine hmy.mono ?_
 rintro e w5 ⟨rfl,e5⟩
 go_wp2
 go_ret
 exact ⟨rfl,Xt e0 e5⟩
theorem Zqb (base b1 b2 b3 b4:Nat) (v:Value) (l:List Off) (F:Off->Bool) (w:World) (h:Zhk w base v l)
 (hF:∀w' o,Ext w w'->Calls Tryz.prog 177 #[o.agg,.pointer (some ⟨b4,0,none⟩),.pointer (some ⟨b1,0,none⟩),.pointer (some ⟨b2,0,none⟩),.pointer (some ⟨b3,0,none⟩)] w' (Ret (.bool (F o)) w')):
 Calls Tryz.prog 140 #[v,.func (.func 177) #[] #[.pointer (some ⟨b4,0,none⟩),.pointer (some ⟨b1,0,none⟩),.pointer (some ⟨b2,0,none⟩),.pointer (some ⟨b3,0,none⟩)]] w (Ret (.int .i64 (Zm6 F l 0)) w):=by
 obtain ⟨A,cap,rfl,h1,h2,h3,h4⟩:=h
 have hn63:(l.length:Int)<=9223372036854775807:=by unfold maxLen at h2;omega
 obtain ⟨R,hR⟩:∃R,R=Zm6 F l 0:=⟨_,rfl⟩
 rw [<-hR]
 have HR:=Lib.hid hR
 clear hR
 go_enter Tryz.func140,Tryz.ntmps140
 go_wp2
 go_loopw [8] (fun i wr=>∃k:Nat,k<=l.length/\i= .int .i64 k/\Ext w wr/\R=Zm6 F (l.drop k) k) (fun i _=>l.length-(intOf i).toNat)
 case atStart=>exact ⟨0,Nat.zero_le _,rfl,Ext.refl _,HR.out⟩
 obtain ⟨k,hk,rfl,e1,hid⟩:=hrel
 by_cases hkn:k<l.length
 ·rw [List.drop_eq_getElem_cons hkn] at hid
  unfold Zm6 at hid
  rcases h4 with h4 | ⟨g,rfl,hb,hlt,hcell⟩
  ·omega
  have hld:=Zbn wr g k l hkn (fun j u hu=>by rw [Zf (e1.block hlt)];exact hcell j u hu)
  have cp1:=hF wr (l[k]'hkn) e1
  cases hq:F (l[k]'hkn) with
  | true=>
    rw [if_pos hq] at hid
    rw [hq] at cp1
    have HI:=Lib.hid hid
    generalize (l[k]'hkn)=o at *
    clear hid hcell hF
    go_wp2_with (first | (refine Zd rfl 153 _ _ _ rfl rfl hld ?_))
    refine cp1.mono ?_
    rintro e w5 ⟨rfl,e5⟩
    go_wp2
    go_ret
    exact ⟨by rw [HI.out];rfl,Xt e1 e5⟩
  | false=>
    rw [if_neg (by rw [hq];simp)] at hid
    rw [hq] at cp1
    have HI:=Lib.hid hid
    generalize (l[k]'hkn)=o at *
    clear hid hcell hF
    go_wp2_with (first | (refine Zd rfl 153 _ _ _ rfl rfl hld ?_))
    refine cp1.mono ?_
    rintro e w5 ⟨rfl,e5⟩
    go_wp2
    exact ⟨⟨k+1,by omega,by go_num,Xt e1 e5,HI.out⟩,by simp [intOf];omega⟩
 have hk':k=l.length:=by omega
 subst hk'
 rw [List.drop_length] at hid
 have HI:=Lib.hid hid
 clear hid hF
 go_wp2
 go_ret
 exact ⟨by rw [HI.out];rfl,e1⟩
end Go.Proofs.YtipjchbdogmccaaGreat
/- Swaps:the door of Swap;what its closing regions need. -/
namespace Go.Proofs.YtipjchbdogmccaaGreat
open Go.RowKit Go.Rg Go.BigFrame
theorem sdef_ok (b4 b5 b6:Nat) (w:World) (k6:w.heap[b6]? =some (.cells #[.int .i64 0] 35 (0,0))):
 CallsD Tryz.prog 171 #[.pointer (some ⟨b6,0,none⟩),.pointer (some ⟨b4,0,none⟩),.pointer (some ⟨b5,0,none⟩)] .returning w (fun e u' w'=>u'= .returning/\(e= .returned (.tuple #[])/\w'=w)):=by
 have c6:=Za (j:=0) k6 rfl
 clear k6
 go_enter_d Tryz.func171,Tryz.ntmps171
 go_wp2
 go_end0
 exact ⟨rfl,rfl⟩
theorem sdef_bad (b4 b5 b6:Nat) (x y sv:Value) (er:Int) (w:World) (h45:b4≠b5) (he:(er==0)=false) (k4:w.heap[b4]? =some (.cells #[x,y] 103 (0,0))) (k5:w.heap[b5]? =some (.cells #[sv] 243 (0,0)))
 (k6:w.heap[b6]? =some (.cells #[.int .i64 er] 35 (0,0))):
 CallsD Tryz.prog 171 #[.pointer (some ⟨b6,0,none⟩),.pointer (some ⟨b4,0,none⟩),.pointer (some ⟨b5,0,none⟩)] .returning w (fun e u' w'=>u'= .returning/\(e= .returned (.tuple #[])/\
  (Keep [b4,b5] w w'/\w'.heap[b4]? =some (.cells #[.pointer none,.pointer none] 103 (0,0))/\w'.heap[b5]? =some (.cells #[.slice none 0 0] 243 (0,0))))):=by
 have c6:=Za (j:=0) k6 rfl
 have hne:(er !=0)=true:=by simp only [bne,he,Bool.not_false]
 have hl:=Zg k4
 clear k6
 go_enter_d Tryz.func171,Tryz.ntmps171
 go_wp2_with (refine Ze rfl rfl 103 _ _ rfl b4 _ rfl rfl 103 _ k4 (by kernel_rfl) (by rfl) (by rfl) ?_;intro w3 hb3 ho3 hs3;have k53:=(ho3 b5 (Ne.symm h45)).trans k5;have c53:=Za (j:=0) k53 rfl;have f53:=frozen_of_row w3 b5 0 _ _ k53)
 go_end0
 have hsz:w.heap.size<=w3.heap.size:=(hb3 0 w (Nat.zero_le _) (Below.refl _ _)).size
 have hbw:=hb3 0 w (Nat.zero_le _) (Below.refl _ _)
 have kk:Keep [b4,b5] w w3:=⟨hbw.os,hbw.tape,hbw.output,hsz,fun i hi hn=>ho3 i (by simp at hn;exact hn.1)⟩
 refine ⟨rfl,kk.setCell (Or.inl (by simp)) _,?_,heap_setCell_same w3 b5 0 _ _ _ k53⟩
 rw [Below.heap_setCell _ _ _ _ (by exact h45)]
 exact hs3
theorem Zfq (tmps:Array Value) (b4 b5 b6:Nat) (x y sv:Value) (er:Int) (W:World) (R:Ending->World->Prop) (h45:b4≠b5) (h46:b6≠b4) (h56:b6≠b5)
 (t4:tmps.getD 14 undef= .pointer (some ⟨b4,0,none⟩)) (t5:tmps.getD 15 undef= .pointer (some ⟨b5,0,none⟩)) (t6:tmps.getD 16 undef= .pointer (some ⟨b6,0,none⟩))
 (k4:W.heap[b4]? =some (.cells #[x,y] 103 (0,0))) (k5:W.heap[b5]? =some (.cells #[sv] 243 (0,0))) (k6:W.heap[b6]? =some (.cells #[.int .i64 er] 35 (0,0)))
 (hok:er=0->R (.returned (.tuple #[.agg #[x,y],sv,.int .i64 er])) W)
 (hbad:er≠0->∀W',Keep [b4,b5] W W'->R (.returned (.tuple #[.agg #[.pointer none,.pointer none],.slice none 0 0,.int .i64 er])) W'):
 Leaves Tryz.prog Tryz.f146 tmps R [{ target:= .fn (.func 171) #[.pointer (some ⟨b6,0,none⟩),.pointer (some ⟨b4,0,none⟩),.pointer (some ⟨b5,0,none⟩)],args:=#[] }] .returning W:=by
 have hr:Tryz.f146.results=#[.cell 14 103,.cell 15 243,.cell 16 35]:=rfl
 have hres:∀(w:World) (x y sv:Value),w.heap[b4]? =some (.cells #[x,y] 103 (0,0))->w.heap[b5]? =some (.cells #[sv] 243 (0,0))->w.heap[b6]? =some (.cells #[.int .i64 er] 35 (0,0))->
  (results Tryz.f146 tmps).run Tryz.prog w= .ok (.tuple #[.agg #[x,y],sv,.int .i64 er]) w:=by
  intro w x y sv g4 g5 g6
  have l4:(loadVar 103 ⟨b4,0,none⟩).run Tryz.prog w= .ok (.agg #[x,y]) w:=run_loadVar_row w b4 _ _ _ _ _ g4 Tryz.underlying103 rfl (by kernel_rfl)
  have c5:=Za (j:=0) g5 rfl
  have c6:=Za (j:=0) g6 rfl
  have l5:(loadVar 243 ⟨b5,0,none⟩).run Tryz.prog w= .ok sv w:=by go_simp
  have l6:(loadVar 35 ⟨b6,0,none⟩).run Tryz.prog w= .ok (.int .i64 er) w:=by go_simp
  simp only [Array.getD_eq_getD_getElem?] at t4 t5 t6
  simp only [results,hr]
  simp [Sem.run_bind,Result.andThen,t4,t5,t6,asAddr,l4,l5,l6]
 refine leaves_cons (f:=171) (args:=#[.pointer (some ⟨b6,0,none⟩),.pointer (some ⟨b4,0,none⟩),.pointer (some ⟨b5,0,none⟩)]) (by simp) (by simp [go_sem]) ?_
 by_cases h0:er=0
 ·subst h0
  refine (sdef_ok b4 b5 b6 W k6).mono ?_
  rintro e u' w'' ⟨rfl,rfl,rfl⟩
  exact ⟨_,hres _ _ _ _ k4 k5 k6,hok rfl⟩
 refine (sdef_bad b4 b5 b6 x y sv er W h45 (by simpa using h0) k4 k5 k6).mono ?_
 rintro e u' w'' ⟨rfl,rfl,kk,g4,g5⟩
 exact ⟨_,hres _ _ _ _ g4 g5 (kk.at k6 (by simp [h46,h56])),hbad h0 _ kk⟩
theorem clipS_any (base n cap:Nat) (A:Option Addr) (xs:List Value) (w:World) (h:Zn w base 5 (.slice A n cap) n xs):Calls Tryz.prog 180 #[.slice A n cap] w (Ret (.slice A n n) w):=by
 obtain ⟨A',cap',hv,h1,h2,h3,h4⟩:=h
 injection hv with hv1 _ hv2
 subst hv1 hv2
 rcases h4 with rfl | ⟨g,rfl,hb,hlt,hc⟩
 focus
  cases A
  rotate_left
  focus rename_i a
 rotate_left 2
 focus have hn63:(n:Int)<=9223372036854775807:=by unfold maxLen at h2;omega
 all_goals
  go_enter Tryz.func180,Tryz.ntmps180
  go_wp2
  go_ret
  exact ⟨rfl,Ext.refl _⟩
theorem Zn.clip {w:World} {base size n cap:Nat} {A:Option Addr} {xs:List Value} (h:Zn w base size (.slice A n cap) n xs):Zn w base size (.slice A n n) n xs:=by
 obtain ⟨A',cap',hv,h1,h2,h3,h4⟩:=h
 injection hv with hv1 _ hv2
 subst hv1 hv2
 exact ⟨_,_,rfl,Nat.le_refl _,Nat.le_trans h1 h2,h3,h4⟩
end Go.Proofs.YtipjchbdogmccaaGreat
namespace Go.RgK
open Go.RowKit Go.Rg
section
variable {S:List Nat} {P:Program} {ops:Array Oper} {md:Region.Mode}
theorem wpX_load {n f:Nat} {L:Array Bool->Act->World->Prop} {listed:Array Bool} {a:Act} {w0 w:World} (i:Nat) (o:Oper) (ty:TypeId) (x:Operand) (v:Value) (p:Addr) (hop:o.op= .load ty x) (hg:o.guard=none)
 (hr:Region.ready md ops listed=[i]) (hin:i<n) (ho:ops[i]? =some o) (hx:a.eval x= .pointer (some p)) (hl:∀w',Ext w w'->(loadVar ty p).run P w'= .ok v w')
 (h:∀w':World,Keep S w0 w'->Ext w w'->wpX S P md ops w0 n L f (listed.setIfInBounds i true) (a.put o.dst v) w'):wpX S P md ops w0 n L (f+1) listed a w:=by
 refine Vq i o hr hin ho (by simp [Region.wanted,hg]) fun w' h0 hw'=> ?_
 unfold Xn
 rw [Ve ty x v p hop hx (hl w' hw')]
 exact ⟨h0,h w' h0 hw'⟩
end
end Go.RgK
/- Swaps:Swap. -/
namespace Go.Proofs.YtipjchbdogmccaaGreat
open Go.RowKit Go.Rg Go.BigFrame
theorem rows7 (w:World) (a0 a1 a2 a3 a4 a5 a6:Array Value) (t0 t1 t2 t3 t4 t5 t6:TypeId) (W:World)
 (hW:W=(((((((w.alloc (.cells a0 t0)).alloc (.cells a1 t1)).alloc (.cells a2 t2)).alloc (.cells a3 t3)).alloc (.cells a4 t4)).alloc (.cells a5 t5)).alloc (.cells a6 t6))):
 Ext w W/\W.heap.size=w.heap.size+1+1+1+1+1+1+1/\W.heap[w.heap.size]? =some (.cells a0 t0 (0,0))/\W.heap[w.heap.size+1]? =some (.cells a1 t1 (0,0))/\W.heap[w.heap.size+1+1]? =some (.cells a2 t2 (0,0))/\
 W.heap[w.heap.size+1+1+1]? =some (.cells a3 t3 (0,0))/\W.heap[w.heap.size+1+1+1+1]? =some (.cells a4 t4 (0,0))/\W.heap[w.heap.size+1+1+1+1+1]? =some (.cells a5 t5 (0,0))/\W.heap[w.heap.size+1+1+1+1+1+1]? =some (.cells a6 t6 (0,0)):=by
 have one:∀(w:World) (a:Array Value) (t:TypeId),Ext w (w.alloc (.cells a t))/\(w.alloc (.cells a t)).heap.size=w.heap.size+1/\(w.alloc (.cells a t)).heap[w.heap.size]? =some (.cells a t (0,0)):=fun w a t=>⟨Zc w _,size_alloc w _,Zb w _⟩
 obtain ⟨e0,s0,h0⟩:=one w a0 t0
 generalize w.alloc (.cells a0 t0)=w1 at *
 obtain ⟨e1,s1,h1⟩:=one w1 a1 t1
 generalize w1.alloc (.cells a1 t1)=w2 at *
 obtain ⟨e2,s2,h2⟩:=one w2 a2 t2
 generalize w2.alloc (.cells a2 t2)=w3 at *
 obtain ⟨e3,s3,h3⟩:=one w3 a3 t3
 generalize w3.alloc (.cells a3 t3)=w4 at *
 obtain ⟨e4,s4,h4⟩:=one w4 a4 t4
 generalize w4.alloc (.cells a4 t4)=w5 at *
 obtain ⟨e5,s5,h5⟩:=one w5 a5 t5
 generalize w5.alloc (.cells a5 t5)=w6 at *
 obtain ⟨e6,s6,h6⟩:=one w6 a6 t6
 generalize w6.alloc (.cells a6 t6)=w7 at *
 subst hW
 rw [s0] at s1 h1
 rw [s1] at s2 h2
 rw [s2] at s3 h3
 rw [s3] at s4 h4
 rw [s4] at s5 h5
 rw [s5] at s6 h6
 have x5:=Xt e5 e6
 have x4:=Xt e4 x5
 have x3:=Xt e3 x4
 have x2:=Xt e2 x3
 have x1:=Xt e1 x2
 exact ⟨Xt e0 x1,s6,x1.at h0,x2.at h1,x3.at h2,x4.at h3,x5.at h4,e6.at h5,h6⟩
def Xy (c:Int):Bool:=decide (1<=c)&&decide (c<=8)
def Ys (c:Int):Bool:=decide (1<=c)&&decide (c<=16)
def Yn (c:Int):Bool:=decide (1<=c)&&decide (c<=1099511627776)
def V4 (L:Led) (B:Bk) (fr to get give n:Int):Option Off:=(X0 B.offs get give).find? fun o=>decide (0<Yl L B o.seq fr to n 1099511627776)
def Yd (fr to get give:Int):Nat->Led->Bk->Int->List Fl->Int×Led×Bk×Int×List Fl
 | 0,L,B,n,all=>(0,L,B,n,all)
 | f+1,L,B,n,all=>
   if n<=0 then (0,L,B,n,all)
   else match V4 L B fr to get give n with
    | none=>(11,L,B,n,all)
    | some o=>
      if all.length=64 then (13,L,B,n,all)
      else Yd fr to get give f (doR L B o.seq fr to (Yl L B o.seq fr to n 1099511627776)).2.2.1 (doR L B o.seq fr to (Yl L B o.seq fr to n 1099511627776)).2.2.2
       (n-(doR L B o.seq fr to (Yl L B o.seq fr to n 1099511627776)).1.2.2.2.1) (all++[(doR L B o.seq fr to (Yl L B o.seq fr to n 1099511627776)).1])
def Z4 (L:Led) (B:Bk) (fr to get give n most:Int):Int×Led×Bk×List Fl:=
 if (Ys fr&&Ys to&&Xy get&&Xy give&& !(get==give)&&Yn n&&Yn most)=false then (1,L,B,[])
 else if (Yr L fr&&Yr L to)=false then (7,L,B,[])
 else if (Yd fr to get give 65 L B n []).1≠0 then ((Yd fr to get give 65 L B n []).1,L,B,[])
 else if most<Y1 (Yd fr to get give 65 L B n []).2.2.2.2 then (12,L,B,[])
 else (0,(Yd fr to get give 65 L B n []).2.1,(Yd fr to get give 65 L B n []).2.2.1,(Yd fr to get give 65 L B n []).2.2.2.2)
def RetSwap (r:Int×Led×Bk×List Fl) (w:World) (e:Ending) (w':World):Prop:=
 ∃hv av,e= .returned (.tuple #[hv,av,.int .i64 r.1])/\Ext w w'/\(r.1≠0->hv= .agg #[.pointer none,.pointer none]/\av= .slice none 0 0)/\
  (r.1=0->∃p m pb g,hv= .agg #[.pointer (some ⟨p,0,none⟩),.pointer (some ⟨pb,0,none⟩)]/\IsLed w' p m r.2.1/\IsBook w' pb g r.2.2.1/\Zn w' w.heap.size 5 av r.2.2.2.length (Yt r.2.2.2))
theorem Zhf {W:World} {p m pb base:Nat} {g:Option Nat} {L:Led} {B:Bk} {av:Value} {n:Nat} {xs:List Value} (hL:IsLed W p m L) (hB:IsBook W pb g B) (ho:W.ownsRow base 250 5 av n xs):
 ∀q,av.ownBlock=some q->q∉m::pb::g.toList/\q≠p:=by
 obtain ⟨v,hv,hg,hob⟩:=hB.row
 obtain ⟨_,_,es,ck,hm,_⟩:=hL.map
 have hp:=hL.row
 have key:∀x,g=some x->∃cur,W.heap[x]? =some (.cells cur 153 (0,0)):=by
  intro x hx
  rcases hob.2 with ⟨rfl,_⟩ | ⟨b,cap,cur,rfl,_,hh,_⟩
  ·rw [<-hg] at hx;simp [Value.ownBlock] at hx
  rw [<-hg] at hx
  simp only [Value.ownBlock,Option.some.injEq] at hx
  subst hx
  exact ⟨cur,hh⟩
 have keyq:∀q,av.ownBlock=some q->∃cur,W.heap[q]? =some (.cells cur 250 (0,0)):=by
  intro q hq
  rcases ho.2 with ⟨rfl,_⟩ | ⟨b,cap,cur,rfl,_,hh,_⟩
  ·simp [Value.ownBlock] at hq
  simp only [Value.ownBlock,Option.some.injEq] at hq
  subst hq
  exact ⟨cur,hh⟩
 intro q hq
 obtain ⟨cq,hq2⟩:=keyq q hq
 refine ⟨fun hx=> ?_,fun e=>by subst e;rw [hq2] at hp;simp at hp⟩
 rcases List.mem_cons.1 hx with rfl | hx
 ·rw [hm] at hq2;simp at hq2
 rcases List.mem_cons.1 hx with rfl | hx
 ·rw [hv] at hq2;simp at hq2
 obtain ⟨cur,hh⟩:=key q (by simpa using hx)
 rw [hh] at hq2;simp at hq2
structure SRow (b:Nat) (fr to n:Int) (p pb:Nat) (av:Value) (W:World):Prop where
 k1:W.heap[b+1]? =some (.cells #[.int .u8 fr] 24 (0,0))
 k2:W.heap[b+1+1]? =some (.cells #[.int .u8 to] 24 (0,0))
 k3:W.heap[b+1+1+1]? =some (.cells #[.int .i64 n] 2 (0,0))
 k4:W.heap[b+1+1+1+1]? =some (.cells #[.pointer (some ⟨p,0,none⟩),.pointer (some ⟨pb,0,none⟩)] 103 (0,0))
 k5:W.heap[b+1+1+1+1+1]? =some (.cells #[av] 243 (0,0))
 k6:W.heap[b+1+1+1+1+1+1]? =some (.cells #[.int .i64 0] 35 (0,0))
theorem SRow.keep {b:Nat} {fr to n:Int} {p pb:Nat} {av:Value} {W W':World} (h:SRow b fr to n p pb av W) (k:∀j ob,j<b+1+1+1+1+1+1+1->W.heap[j]? =some ob->W'.heap[j]? =some ob):SRow b fr to n p pb av W':=
 ⟨k _ _ (by omega) h.k1,k _ _ (by omega) h.k2,k _ _ (by omega) h.k3,k _ _ (by omega) h.k4,k _ _ (by omega) h.k5,k _ _ (by omega) h.k6⟩
structure SI (w:World) (fr to get give:Int) (r0:Int×Led×Bk×Int×List Fl) (p m pb:Nat) (g:Option Nat) (L:Led) (B:Bk) (n:Int) (all:List Fl) (av:Value) (W:World):Prop where
 row:SRow w.heap.size fr to n p pb av W
 led:IsLed W p m L
 book:IsBook W pb g B
 own:W.ownsRow (w.heap.size+1+1+1+1+1+1+1) 250 5 av all.length (Yt all)
 wf:WF L
 ok:OkB B
 sn:Jm B
 hn:n<=9223372036854775807
 ha:all.length<=64
 hp:w.heap.size+1+1+1+1+1+1+1<=p
 hm:w.heap.size+1+1+1+1+1+1+1<=m
 hb:w.heap.size+1+1+1+1+1+1+1<=pb
 hg:∀x,g=some x->w.heap.size+1+1+1+1+1+1+1<=x
 ex:Ext w W
 on:Yd fr to get give (65-all.length) L B n all=r0
theorem SI.ext {w:World} {fr to get give:Int} {r0:Int×Led×Bk×Int×List Fl} {p m pb:Nat} {g:Option Nat} {L:Led} {B:Bk} {n:Int} {all:List Fl} {av:Value} {W W':World} (h:SI w fr to get give r0 p m pb g L B n all av W) (k:Ext W W'):SI w fr to get give r0 p m pb g L B n all av W':=
 { h with row:=h.row.keep fun _ _ _ hj=>k.at hj,led:=h.led.ext k,book:=h.book.ext k,own:=Zo h.own k,ex:=Xt h.ex k }
theorem SI.keepS {w:World} {fr to get give:Int} {r0:Int×Led×Bk×Int×List Fl} {p m pb:Nat} {g:Option Nat} {L:Led} {B:Bk} {n:Int} {all:List Fl} {av:Value} {W:World} (h:SI w fr to get give r0 p m pb g L B n all av W):
 ∀j,j<w.heap.size+1+1+1+1+1+1+1->j∉m::pb::g.toList:=fun j hj hx=>by
 have h1:=h.hm
 have h2:=h.hb
 rcases List.mem_cons.1 hx with rfl | hx
 ·omega
 rcases List.mem_cons.1 hx with rfl | hx
 ·omega
 have:=h.hg j (by simpa using hx);omega
theorem Zfv {w:World} {fr to get give:Int} {r0:Int×Led×Bk×Int×List Fl} {p m pb:Nat} {g g4:Option Nat} {L dL:Led} {B dB:Bk} {n:Int} {all:List Fl} {av:Value} {w2 wA w4 w5 w6 w7:World} {eb:Nat} (h:SI w fr to get give r0 p m pb g L B n all av w2)
 (hE:Ext w2 wA) (k4:Keep (m::pb::g.toList) wA w4) (hL:IsLed w4 p m dL) (hB:IsBook w4 pb g4 dB) (hx:Ext w4 w5) (k6:Keep [eb] w5 w6) (h7:Ext w6 w7) (heb:w2.heap.size<=eb) (heg:∀x,g4=some x->x≠eb):
 SRow w.heap.size fr to n p pb av w7/\IsLed w7 p m dL/\IsBook w7 pb g4 dB/\w7.ownsRow (w.heap.size+1+1+1+1+1+1+1) 250 5 av all.length (Yt all)/\Ext w w7:=by
 have hq:=Zhf h.led h.book h.own
 have hlp:=h.led.ltp
 have hlm:=h.led.ltm
 have hlb:=h.book.ltp
 have sz6:=Zg h.row.k6
 have ho4:=Zag (Zo h.own hE) k4 (fun q hq2=>(hq q hq2).1)
 have hqe:∀q,av.ownBlock=some q->q∉[eb]:=fun q hq2=>by have:=(h.own.lt q hq2).2;simp;omega
 refine ⟨h.row.keep fun j ob hj hh=>h7.at (k6.at (hx.at (k4.at (hE.at hh) (h.keepS j hj))) (by simp;omega)),((hL.ext hx).keep k6 (by simp;omega) (by simp;omega)).ext h7,((hB.ext hx).keep k6 (by simp;omega) (fun x hx=>by have:=heg x hx;simp;exact this)).ext h7,
  Zo (Zag (Zo ho4 hx) k6 hqe) h7,?_⟩
 have hw:=h.ex.size
 have a1:Keep [] w wA:=Kx (Xt h.ex hE)
 have a2:Keep [] w w4:=Keep.trans_fresh a1 k4 (fun x hx=>by
  right
  have h1:=h.hm
  have h2:=h.hb
  rcases List.mem_cons.1 hx with rfl | hx
  ·omega
  rcases List.mem_cons.1 hx with rfl | hx
  ·omega
  have:=h.hg x (by simpa using hx);omega)
 have a3:Keep [] w w5:=a2.trans (Kx hx)
 have a4:Keep [] w w6:=Keep.trans_fresh a3 k6 (fun x hx=>by right;simp at hx;omega)
 exact Xt a4.ext h7
theorem Zc5 (c:Int) (w:World):Calls Tryz.prog 173 #[.int .u8 c] w (fun e w'=>e= .returned (.bool (Xy c))/\w'=w):=by
 unfold Xy
 by_cases h1:1<=c
 focus have q1:decide (1<=c)=true:=by simpa using h1
 rotate_left
 focus have q1:decide (1<=c)=false:=by simpa using h1
 all_goals
  go_enter Tryz.func173,Tryz.ntmps173
  go_wp2
  go_ret
  exact ⟨by simp [h1],rfl⟩
theorem Zde (c:Int) (w:World):Calls Tryz.prog 172 #[.int .u8 c] w (fun e w'=>e= .returned (.bool (Ys c))/\w'=w):=by
 unfold Ys
 by_cases h1:1<=c
 focus have q1:decide (1<=c)=true:=by simpa using h1
 rotate_left
 focus have q1:decide (1<=c)=false:=by simpa using h1
 all_goals
  go_enter Tryz.func172,Tryz.ntmps172
  go_wp2
  go_ret
  exact ⟨by simp [h1],rfl⟩
theorem Zdr (c:Int) (w:World):Calls Tryz.prog 174 #[.int .i64 c] w (fun e w'=>e= .returned (.bool (Yn c))/\w'=w):=by
 unfold Yn
 by_cases h1:1<=c
 focus have q1:decide (1<=c)=true:=by simpa using h1
 rotate_left
 focus have q1:decide (1<=c)=false:=by simpa using h1
 all_goals
  go_enter Tryz.func174,Tryz.ntmps174
  go_wp2
  go_ret
  exact ⟨by simp [h1],rfl⟩
theorem Zn.low {w:World} {base base' size n:Nat} {v:Value} {xs:List Value} (h:Zn w base size v n xs) (hb:base'<=base):Zn w base' size v n xs:=by
 obtain ⟨A,cap,h0,h1,h2,h3,h4⟩:=h
 refine ⟨A,cap,h0,h1,h2,h3,?_⟩
 rcases h4 with h4 | ⟨g,h4,h5,h6⟩
 ·exact .inl h4
 exact .inr ⟨g,h4,Nat.le_trans hb h5,h6⟩
def Yg (r:Int×Led×Bk×List Fl) (w:World) (e:Ending) (w':World):Prop:=
 ∃hv av,e= .returned (.tuple #[hv,av,.int .i64 r.1])/\Ext w w'/\(r.1≠0->hv= .agg #[.pointer none,.pointer none]/\av= .slice none 0 0)/\
  (r.1=0->∃p m pb g,hv= .agg #[.pointer (some ⟨p,0,none⟩),.pointer (some ⟨pb,0,none⟩)]/\IsLed w' p m r.2.1/\IsBook w' pb g r.2.2.1/\Zn w' w.heap.size 5 av r.2.2.2.length (Yt r.2.2.2)/\w.heap.size<=p/\w.heap.size<=m/\w.heap.size<=pb/\∀x,g=some x->w.heap.size<=x)
theorem Yg.bad {r:Int×Led×Bk×List Fl} {w W':World} {er:Int} (h:r.1=er) (h0:er≠0) (k:Ext w W'):
 Yg r w (.returned (.tuple #[.agg #[.pointer none,.pointer none],.slice none 0 0,.int .i64 er])) W':=
 ⟨_,_,by rw [h],k,fun _=>⟨rfl,rfl⟩,fun h'=>absurd (h▸h') h0⟩
theorem Je {L:Led} {B:Bk} {fr to get give n most:Int} (h:(Ys fr&&Ys to&&Xy get&&Xy give&& !(get==give)&&Yn n&&Yn most)=false):(Z4 L B fr to get give n most).1=1:=by
 unfold Z4;rw [if_pos h]
theorem Zim {L:Led} {B:Bk} {fr to get give n most:Int} (h:(Ys fr&&Ys to&&Xy get&&Xy give&& !(get==give)&&Yn n&&Yn most)=true) (h2:(Yr L fr&&Yr L to)=false):(Z4 L B fr to get give n most).1=7:=by
 unfold Z4;rw [if_neg (by rw [h];simp),if_pos h2]
theorem Zkq {w w':World} {row:Option Nat} {S:List Nat} (hS:row.toList=S) (hg:w.grownBy w' row):Keep S w w':=
 Y6 (Keep.refl S w) hg (fun q hq=>.inl (by rw [<-hS,hq];simp))
theorem swapR_go {L:Led} {B:Bk} {fr to get give n most:Int} {r0:Int×Led×Bk×Int×List Fl} (h:(Ys fr&&Ys to&&Xy get&&Xy give&& !(get==give)&&Yn n&&Yn most)=true) (h2:(Yr L fr&&Yr L to)=true) (hr:Yd fr to get give 65 L B n []=r0):
 (r0.1≠0->(Z4 L B fr to get give n most).1=r0.1)/\(r0.1=0->most<Y1 r0.2.2.2.2->(Z4 L B fr to get give n most).1=12)/\
 (r0.1=0->¬most<Y1 r0.2.2.2.2->Z4 L B fr to get give n most=(0,r0.2.1,r0.2.2.1,r0.2.2.2.2)):=by
 unfold Z4
 rw [if_neg (by rw [h];simp),if_neg (by rw [h2];simp),hr]
 refine ⟨fun h0=>by rw [if_pos h0],fun h0 h1=> ?_,fun h0 h1=> ?_⟩
 ·rw [if_neg (fun e=>e h0),if_pos h1]
 rw [if_neg (fun e=>e h0),if_neg h1]
def Zq7 (w:World) (b:Nat):Nat:=match w.cell? ⟨b,0,none⟩ with
 | some (.slice _ n _)=>n
 | _=>0
/- A drawn error:HF tells the error's number (er),HEND what is answered;the rows stand at k4,k5,k6 (SI at hI). -/
/- The rest of the region,Do done with the row made behind it. -/
/- The rest of the region,the row made ahead of Do. -/
theorem swap_anyF (p m pb:Nat) (g:Option Nat) (L:Led) (B:Bk) (fr to get give n most:Int) (w:World) (hL:IsLed w p m L) (hwf:WF L) (hB:IsBook w pb g B) (hok:OkB B) (hsn:Jm B) (hn:n<=9223372036854775807):
 Calls Tryz.prog 146 #[.agg #[.pointer (some ⟨p,0,none⟩),.pointer (some ⟨pb,0,none⟩)],.int .u8 fr,.int .u8 to,.int .u8 get,.int .u8 give,.int .i64 n,.int .i64 most] w
  (Yg (Z4 L B fr to get give n most) w):=by
 have hmf:∀(fn:Fn) (first cap:Array Value) (w:World),(Instr.makeFunc fn first cap).run Tryz.prog w= .ok (.func fn first cap) w:=fun _ _ _ _=>rfl
 obtain ⟨r,hr⟩:∃r,r=Z4 L B fr to get give n most:=⟨_,rfl⟩
 rw [<-hr]
 have HR:=Lib.hid hr
 clear hr
 go_enter_defers Tryz.func146,Tryz.ntmps146
 go_wp2_with fail
 obtain ⟨W,hW⟩:∃W,W=(((((((w.alloc (.cells #[.pointer (some ⟨p,0,none⟩),.pointer (some ⟨pb,0,none⟩)] 103)).alloc (.cells #[.int .u8 fr] 24)).alloc (.cells #[.int .u8 to] 24)).alloc (.cells #[.int .i64 n] 2)).alloc (.cells #[.pointer none,.pointer none] 103)).alloc (.cells #[.slice none 0 0] 243)).alloc (.cells #[.int .i64 0] 35)):=⟨_,rfl⟩
 rw [<-hW]
 obtain ⟨E0,s0,k0,k1,k2,k3,k4,k5,k6⟩:=rows7 w _ _ _ _ _ _ _ _ _ _ _ _ _ _ W hW
 clear hW
 refine (Zdm p m pb g L B W (hL.ext E0) (hB.ext E0)).mono ?_
 rintro e w1 ⟨p3,m3,pb3,g3,rfl,e1,hL3,hB3,hp3,hm3,hpb3,hg3⟩
 rw [s0] at hp3 hm3 hpb3
 replace hg3:∀x,g3=some x->w.heap.size+1+1+1+1+1+1+1<=x:=fun x hx=>by have:=hg3 x hx;omega
 replace k0:=e1.at k0
 replace k1:=e1.at k1
 replace k2:=e1.at k2
 replace k3:=e1.at k3
 replace k4:=e1.at k4
 replace k5:=e1.at k5
 replace k6:=e1.at k6
 have E1:=Xt E0 e1
 clear s0 E0 e1 hB
 go_wp2_with (refine Ze rfl rfl 103 _ _ rfl (w.heap.size+1+1+1+1) _ rfl rfl 103 _ k4 (by kernel_rfl) (by rfl) (by rfl) ?_;intro wz hbz hoz kz4;have c0:=Za (j:=0) kz4 rfl;have c1:=Za (j:=1) kz4 rfl;have kz1:=(hoz (w.heap.size+1) (by omega)).trans k1;have cz1:=Za (j:=0) kz1 rfl)
 have kz0:=(hoz w.heap.size (by omega)).trans k0
 have kz2:=(hoz (w.heap.size+1+1) (by omega)).trans k2
 have kz3:=(hoz (w.heap.size+1+1+1) (by omega)).trans k3
 have kz5:=(hoz (w.heap.size+1+1+1+1+1) (by omega)).trans k5
 have kz6:=(hoz (w.heap.size+1+1+1+1+1+1) (by omega)).trans k6
 have EZ:Ext w wz:=hbz _ _ (by omega) E1
 have kzw:Keep [w.heap.size+1+1+1+1] w1 wz:=by
  have hbb:=hbz 0 w1 (Nat.zero_le _) (Below.refl _ _)
  exact ⟨hbb.os,hbb.tape,hbb.output,hbb.size,fun i hi hn=>hoz i (by simpa using hn)⟩
 replace hL3:=hL3.keep kzw (by simp;omega) (by simp;omega)
 replace hB3:=hB3.keep kzw (by simp;omega) (fun x hx=>by have:=hg3 x hx;simp;omega)
 replace hL:=hL.ext EZ
 clear k0 k1 k2 k3 k4 k5 k6 E1 hbz hoz kzw c0 c1
 have z0:=Za (j:=0) kz0 rfl
 have cz2:=Za (j:=0) kz2 rfl
 have cz3:=Za (j:=0) kz3 rfl
 cases q1:Ys fr
 focus
  refine (Zde fr _).mono ?_
  rintro e w' ⟨rfl,rfl⟩
  have HARG:=Lib.hid (show (Ys fr&&Ys to&&Xy get&&Xy give&& !(get==give)&&Yn n&&Yn most)=false by simp [q1])
  have HZ:=Lib.hid (show ¬(1:Int)=0 by decide)
  have HEND:=Lib.hid (show ∀W',Ext w W'->Yg r w (.returned (.tuple #[.agg #[.pointer none,.pointer none],.slice none 0 0,.int .i64 1])) W' from fun W' h=>Yg.bad (by rw [HR.out];exact Je HARG.out) (by decide) h)
  clear HARG
 rotate_left
 focus
  refine (Zde fr _).mono ?_
  rintro e w' ⟨rfl,rfl⟩
  go_wp2_with fail
  cases q2:Ys to
  focus
   refine (Zde to _).mono ?_
   rintro e w' ⟨rfl,rfl⟩
   have HARG:=Lib.hid (show (Ys fr&&Ys to&&Xy get&&Xy give&& !(get==give)&&Yn n&&Yn most)=false by simp [q2])
   have HZ:=Lib.hid (show ¬(1:Int)=0 by decide)
   have HEND:=Lib.hid (show ∀W',Ext w W'->Yg r w (.returned (.tuple #[.agg #[.pointer none,.pointer none],.slice none 0 0,.int .i64 1])) W' from fun W' h=>Yg.bad (by rw [HR.out];exact Je HARG.out) (by decide) h)
   clear HARG
  rotate_left
  focus
   refine (Zde to _).mono ?_
   rintro e w' ⟨rfl,rfl⟩
   go_wp2_with fail
   cases q3:Xy get
   focus
    refine (Zc5 get _).mono ?_
    rintro e w' ⟨rfl,rfl⟩
    have HARG:=Lib.hid (show (Ys fr&&Ys to&&Xy get&&Xy give&& !(get==give)&&Yn n&&Yn most)=false by simp [q3])
    have HZ:=Lib.hid (show ¬(1:Int)=0 by decide)
    have HEND:=Lib.hid (show ∀W',Ext w W'->Yg r w (.returned (.tuple #[.agg #[.pointer none,.pointer none],.slice none 0 0,.int .i64 1])) W' from fun W' h=>Yg.bad (by rw [HR.out];exact Je HARG.out) (by decide) h)
    clear HARG
   rotate_left
   focus
    refine (Zc5 get _).mono ?_
    rintro e w' ⟨rfl,rfl⟩
    go_wp2_with fail
    cases q4:Xy give
    focus
     refine (Zc5 give _).mono ?_
     rintro e w' ⟨rfl,rfl⟩
     have HARG:=Lib.hid (show (Ys fr&&Ys to&&Xy get&&Xy give&& !(get==give)&&Yn n&&Yn most)=false by simp [q4])
     have HZ:=Lib.hid (show ¬(1:Int)=0 by decide)
     have HEND:=Lib.hid (show ∀W',Ext w W'->Yg r w (.returned (.tuple #[.agg #[.pointer none,.pointer none],.slice none 0 0,.int .i64 1])) W' from fun W' h=>Yg.bad (by rw [HR.out];exact Je HARG.out) (by decide) h)
     clear HARG
    rotate_left
    focus
     cases q5:(get==give)
     focus
      refine (Zc5 give _).mono ?_
      rintro e w' ⟨rfl,rfl⟩
      go_wp2_with fail
      cases q6:Yn n
      focus
       refine (Zdr n _).mono ?_
       rintro e w' ⟨rfl,rfl⟩
       have HARG:=Lib.hid (show (Ys fr&&Ys to&&Xy get&&Xy give&& !(get==give)&&Yn n&&Yn most)=false by simp [q6])
       have HZ:=Lib.hid (show ¬(1:Int)=0 by decide)
       have HEND:=Lib.hid (show ∀W',Ext w W'->Yg r w (.returned (.tuple #[.agg #[.pointer none,.pointer none],.slice none 0 0,.int .i64 1])) W' from fun W' h=>Yg.bad (by rw [HR.out];exact Je HARG.out) (by decide) h)
       clear HARG
      rotate_left
      focus
       refine (Zdr n _).mono ?_
       rintro e w' ⟨rfl,rfl⟩
       go_wp2_with fail
       cases q7:Yn most
       focus
        refine (Zdr most _).mono ?_
        rintro e w' ⟨rfl,rfl⟩
        have HARG:=Lib.hid (show (Ys fr&&Ys to&&Xy get&&Xy give&& !(get==give)&&Yn n&&Yn most)=false by simp [q7])
        have HZ:=Lib.hid (show ¬(1:Int)=0 by decide)
        have HEND:=Lib.hid (show ∀W',Ext w W'->Yg r w (.returned (.tuple #[.agg #[.pointer none,.pointer none],.slice none 0 0,.int .i64 1])) W' from fun W' h=>Yg.bad (by rw [HR.out];exact Je HARG.out) (by decide) h)
        clear HARG
       rotate_left
       focus
        refine (Zdr most _).mono ?_
        rintro e w' ⟨rfl,rfl⟩
        have HARG:=Lib.hid (show (Ys fr&&Ys to&&Xy get&&Xy give&& !(get==give)&&Yn n&&Yn most)=true by rw [q1,q2,q3,q4,q5,q6,q7];rfl)
        go_wp2_with fail
        cases q8:Yr L fr
        focus
         refine (Za7 p m L fr _ hL).mono ?_
         rintro e w9 ⟨rfl,e9⟩
         rw [q8]
         have HHAS:=Lib.hid (show (Yr L fr&&Yr L to)=false by rw [q8];rfl)
         replace kz0:=e9.at kz0
         replace kz1:=e9.at kz1
         replace kz2:=e9.at kz2
         replace kz3:=e9.at kz3
         replace kz4:=e9.at kz4
         replace kz5:=e9.at kz5
         replace kz6:=e9.at kz6
         replace EZ:=Xt EZ e9
         replace hL:=hL.ext e9
         replace hL3:=hL3.ext e9
         replace hB3:=hB3.ext e9
         clear z0 cz1 cz2 cz3 e9
         have z0:=Za (j:=0) kz0 rfl
         have cz1:=Za (j:=0) kz1 rfl
         have cz2:=Za (j:=0) kz2 rfl
         have cz3:=Za (j:=0) kz3 rfl
         have HZ:=Lib.hid (show ¬(7:Int)=0 by decide)
         have HEND:=Lib.hid (show ∀W',Ext w W'->Yg r w (.returned (.tuple #[.agg #[.pointer none,.pointer none],.slice none 0 0,.int .i64 7])) W' from fun W' h=>Yg.bad (by rw [HR.out];exact Zim HARG.out HHAS.out) (by decide) h)
         clear HARG HHAS
        rotate_left
        focus
         refine (Za7 p m L fr _ hL).mono ?_
         rintro e w9 ⟨rfl,e9⟩
         rw [q8]
         replace kz0:=e9.at kz0
         replace kz1:=e9.at kz1
         replace kz2:=e9.at kz2
         replace kz3:=e9.at kz3
         replace kz4:=e9.at kz4
         replace kz5:=e9.at kz5
         replace kz6:=e9.at kz6
         replace EZ:=Xt EZ e9
         replace hL:=hL.ext e9
         replace hL3:=hL3.ext e9
         replace hB3:=hB3.ext e9
         clear z0 cz1 cz2 cz3 e9
         have z0:=Za (j:=0) kz0 rfl
         have cz1:=Za (j:=0) kz1 rfl
         have cz2:=Za (j:=0) kz2 rfl
         have cz3:=Za (j:=0) kz3 rfl
         go_wp2_with fail
         cases q9:Yr L to
         focus
          refine (Za7 p m L to _ hL).mono ?_
          rintro e w9 ⟨rfl,e9⟩
          rw [q9]
          have HHAS:=Lib.hid (show (Yr L fr&&Yr L to)=false by rw [q8,q9];rfl)
          replace kz0:=e9.at kz0
          replace kz1:=e9.at kz1
          replace kz2:=e9.at kz2
          replace kz3:=e9.at kz3
          replace kz4:=e9.at kz4
          replace kz5:=e9.at kz5
          replace kz6:=e9.at kz6
          replace EZ:=Xt EZ e9
          replace hL:=hL.ext e9
          replace hL3:=hL3.ext e9
          replace hB3:=hB3.ext e9
          clear z0 cz1 cz2 cz3 e9
          have z0:=Za (j:=0) kz0 rfl
          have cz1:=Za (j:=0) kz1 rfl
          have cz2:=Za (j:=0) kz2 rfl
          have cz3:=Za (j:=0) kz3 rfl
          have HZ:=Lib.hid (show ¬(7:Int)=0 by decide)
          have HEND:=Lib.hid (show ∀W',Ext w W'->Yg r w (.returned (.tuple #[.agg #[.pointer none,.pointer none],.slice none 0 0,.int .i64 7])) W' from fun W' h=>Yg.bad (by rw [HR.out];exact Zim HARG.out HHAS.out) (by decide) h)
          clear HARG HHAS
         rotate_left
         ·refine (Za7 p m L to _ hL).mono ?_
          rintro e w9 ⟨rfl,e9⟩
          rw [q9]
          replace kz0:=e9.at kz0
          replace kz1:=e9.at kz1
          replace kz2:=e9.at kz2
          replace kz3:=e9.at kz3
          replace kz4:=e9.at kz4
          replace kz5:=e9.at kz5
          replace kz6:=e9.at kz6
          replace EZ:=Xt EZ e9
          replace hL:=hL.ext e9
          replace hL3:=hL3.ext e9
          replace hB3:=hB3.ext e9
          clear z0 cz1 cz2 cz3 e9
          have z0:=Za (j:=0) kz0 rfl
          have cz1:=Za (j:=0) kz1 rfl
          have cz2:=Za (j:=0) kz2 rfl
          have cz3:=Za (j:=0) kz3 rfl
          obtain ⟨r0,hr0⟩:∃r0,Yd fr to get give 65 L B n []=r0:=⟨_,rfl⟩
          have HSW:=Lib.hid (show _ from by have:=swapR_go (L:=L) (B:=B) (most:=most) HARG.out (by rw [q8,q9];rfl) hr0;rw [<-HR.out] at this;exact this)
          have HS0:=Lib.hid (show SI w fr to get give r0 p3 m3 pb3 g3 L B n [] (.slice none 0 0) _ from ⟨⟨kz1,kz2,kz3,kz4,kz5,kz6⟩,hL3,hB3,World.ownsRow_nil _ _ _ _,hwf,hok,hsn,hn,by simp,hp3,hm3,hpb3,hg3,EZ,hr0⟩)
          clear HR HARG q1 q2 q3 q4 q5 q6 q7 q8 q9 hr0 kz0 kz1 kz2 kz3 kz4 kz5 kz6 z0 cz1 cz2 cz3 EZ hL hL3 hB3 hp3 hm3 hpb3 hg3 hwf hok hsn hn
          go_wp2_with fail
          go_loopw [17] (fun _ wr=>∃p m pb g L B n all av,SI w fr to get give r0 p m pb g L B n all av wr) (fun _ wr=>65-Zq7 wr (w.heap.size+1+1+1+1+1))
          case atStart=>exact ⟨_,_,_,_,_,_,_,_,_,HS0.out⟩
          obtain ⟨p,m,pb,g,L,B,n,all,av,hI⟩:=hrel
          obtain ⟨ao,acap,hav⟩:=Z7 hI.own
          subst hav
          have HLEN:=Lib.hid (show Zq7 wr (w.heap.size+1+1+1+1+1)=all.length by
           unfold Zq7
           rw [Za (j:=0) hI.row.k5 rfl]
           rfl)
          have c3:=Za (j:=0) hI.row.k3 rfl
          by_cases hn:n<=0
          focus
           have hl':decide (0<n)=false:=by simp;omega
           have hfin:r0=(0,L,B,n,all):=by
            have h65:65-all.length=(64-all.length)+1:=by have:=hI.ha;omega
            rw [<-hI.on,h65]
            unfold Yd
            rw [if_pos hn]
           subst hfin
           have c5:=Za (j:=0) hI.row.k5 rfl
           have HI:=Lib.hid hI
           clear hI HS0
           go_wp2_with fail
           refine (Zbr (w.heap.size+1+1+1+1+1+1+1) _ all wr HI.out.ha (Zn.of_own HI.out.own)).mono ?_
           rintro e w2 ⟨rfl,e2⟩
           have HI:=Lib.hid (HI.out.ext e2)
           clear c3 c5
           by_cases hq:most<Y1 all
           focus
            have hq':decide (most<Y1 all)=true:=by simpa using hq
            have hr12:r.1=12:=HSW.out.2.1 (by first | trivial | rfl) hq
            have HZ:=Lib.hid (show ¬(12:Int)=0 by decide)
            have HEND:=Lib.hid (show ∀W',Ext w W'->Yg r w (.returned (.tuple #[.agg #[.pointer none,.pointer none],.slice none 0 0,.int .i64 12])) W' from fun W' h=>Yg.bad hr12 (by decide) h)
            clear HSW hq hr12
            generalize Y1 all=gv at *
            go_wp2_with fail
           rotate_left
           ·have hq':decide (most<Y1 all)=false:=by simpa using hq
            have hrr:r=(0,L,B,all):=HSW.out.2.2 (by first | trivial | rfl) (by first | exact hq | omega)
            have HRR:=Lib.hid hrr
            clear HSW hq hrr
            generalize Y1 all=gv at *
            go_wp2_with fail
            refine Zh Zl 3 [] (by kernel_rfl) (by kernel_rfl) ?_
            intro w1 hw1
            have k4:=HI.out.row.k4
            have k5:=HI.out.row.k5
            have d5:=fun u:ExtOf w1=>Za (j:=0) ((Xt hw1 u.h).at k5) rfl
            have hcl:∀u:ExtOf w1,Calls Tryz.prog 180 #[.slice ao all.length acap] u.to (Ret (.slice ao all.length all.length) u.to):=fun u=>clipS_any (w.heap.size+1+1+1+1+1+1+1) _ _ _ _ _ (Zn.of_own (Zo HI.out.own (Xt hw1 u.h)))
            have ld:∀w',(∃u:ExtOf w1,w'=u.to)->(loadVar 103 ⟨w.heap.size+1+1+1+1,0,none⟩).run Tryz.prog w'= .ok (.agg #[.pointer (some ⟨p,0,none⟩),.pointer (some ⟨pb,0,none⟩)]) w':=by
             rintro _ ⟨u,rfl⟩
             exact run_loadVar_row u.to (w.heap.size+1+1+1+1) _ _ _ _ _ ((Xt hw1 u.h).at k4) Tryz.underlying103 rfl (by kernel_rfl)
            simp only [Zk,Rg.hsB,Nat.reduceAdd,↓reduceIte]
            repeat (first | go_big_quiet_step ((go_at_call 180;exact Ret.cls (hcl _))) | (go_big_quiet_want;refine Z0 103 _ _ _ rfl rfl ld ?_;go_big_quiet_on;simp only [Act.put,Rg.puB]))
            refine wpQuiet_nil ?_
            refine Zj (by kernel_rfl) ?_
            intro wt et et'
            simp only [Rg.puB]
            have HI:=Lib.hid (HI.out.ext et)
            clear d5 hcl ld k4 k5 hw1 et et'
            have k4:=HI.out.row.k4
            have k5:=HI.out.row.k5
            have k6:=HI.out.row.k6
            have EZ:=HI.out.ex
            have hLt:=HI.out.led
            have hBt:=HI.out.book
            have hown:=HI.out.own
            have hp7:=HI.out.hp
            have hm7:=HI.out.hm
            have hb7:=HI.out.hb
            have hg7:=HI.out.hg
            clear HI
            go_wp2_with (refine Ze rfl rfl 103 _ _ rfl (w.heap.size+1+1+1+1) _ rfl rfl 103 _ k4 (by kernel_rfl) (by rfl) (by rfl) ?_;intro wy hby hoy hsy;have ky5:=(hoy (w.heap.size+1+1+1+1+1) (by omega)).trans k5;have ky6:=(hoy (w.heap.size+1+1+1+1+1+1) (by omega)).trans k6;have cy5:=Za (j:=0) ky5 rfl;have cy6:=Za (j:=0) ky6 rfl;have fy5:=frozen_of_row wy _ 0 _ _ ky5;have fy6:=frozen_of_row wy _ 0 _ _ ky6)
            have EY:Ext w wy:=hby _ _ (by omega) EZ
            have kzw:Keep [w.heap.size+1+1+1+1] wt wy:=by
             have hbb:=hby 0 wt (Nat.zero_le _) (Below.refl _ _)
             exact ⟨hbb.os,hbb.tape,hbb.output,hbb.size,fun i hi hn=>hoy i (by simpa using hn)⟩
            have kF:Keep [w.heap.size+1+1+1+1,w.heap.size+1+1+1+1+1,w.heap.size+1+1+1+1+1+1] wt ((wy.setCell ⟨w.heap.size+1+1+1+1+1,0,none⟩ (.slice ao all.length all.length)).setCell ⟨w.heap.size+1+1+1+1+1+1,0,none⟩ (.int .i64 0)):=((kzw.mono (by intro x hx;simp at hx ⊢;omega)).setCell (Or.inl (by simp)) _).setCell (Or.inl (by simp)) _
            have hq4:=fun q hq=>(hown.lt q hq).1
            refine Zfq _ (w.heap.size+1+1+1+1) (w.heap.size+1+1+1+1+1) (w.heap.size+1+1+1+1+1+1) _ _ (.slice ao all.length all.length) 0 _ _ (by omega) (by omega) (by omega) rfl rfl rfl
             ((Below.heap_setCell _ ⟨w.heap.size+1+1+1+1+1+1,0,none⟩ _ _ (by show w.heap.size+1+1+1+1≠w.heap.size+1+1+1+1+1+1;omega)).trans ((Below.heap_setCell _ ⟨w.heap.size+1+1+1+1+1,0,none⟩ _ _ (by show w.heap.size+1+1+1+1≠w.heap.size+1+1+1+1+1;omega)).trans hsy))
             ((Below.heap_setCell _ ⟨w.heap.size+1+1+1+1+1+1,0,none⟩ _ _ (by show w.heap.size+1+1+1+1+1≠w.heap.size+1+1+1+1+1+1;omega)).trans (heap_setCell_same wy (w.heap.size+1+1+1+1+1) 0 _ _ _ ky5))
             (heap_setCell_same (wy.setCell ⟨w.heap.size+1+1+1+1+1,0,none⟩ _) (w.heap.size+1+1+1+1+1+1) 0 _ _ _ ((Below.heap_setCell _ ⟨w.heap.size+1+1+1+1+1,0,none⟩ _ _ (by show w.heap.size+1+1+1+1+1+1≠w.heap.size+1+1+1+1+1;omega)).trans ky6))
             (fun _=> ?_) (fun h=>absurd rfl h)
            rw [HRR.out]
            refine ⟨_,_,rfl,Below.setCell (Below.setCell EY (p:=⟨w.heap.size+1+1+1+1+1,0,none⟩) (by show w.heap.size<=w.heap.size+1+1+1+1+1;omega) _) (p:=⟨w.heap.size+1+1+1+1+1+1,0,none⟩) (by show w.heap.size<=w.heap.size+1+1+1+1+1+1;omega) _,fun h=>absurd rfl h,fun _=>⟨p,m,pb,g,rfl,hLt.keep kF (by simp;omega) (by simp;omega),hBt.keep kF (by simp;omega) (fun x hx=>by have:=hg7 x hx;simp;omega),?_,by omega,by omega,by omega,fun x hx=>by have:=hg7 x hx;omega⟩⟩
            exact Zn.clip (Zn.low (Zn.of_own (Zag hown kF (fun q hq=>by have:=hq4 q hq;simp;omega))) (by omega))
          rotate_left
          focus
           have hl':decide (0<n)=true:=by simp;omega
           have hon:=hI.on
           have h65:65-all.length=(64-all.length)+1:=by have:=hI.ha;omega
           rw [h65] at hon
           unfold Yd at hon
           rw [if_neg hn] at hon
           have HON:=Lib.hid hon
           have c41:=Za (j:=1) hI.row.k4 rfl
           have HMS:=Lib.hid (show ∀x∈m::pb::g.toList,x<wr.heap.size from fun x hx=>by
            rcases List.mem_cons.1 hx with rfl | hx
            ·exact hI.led.ltm
            rcases List.mem_cons.1 hx with rfl | hx
            ·exact hI.book.ltp
            exact hI.book.ltg x (by simpa using hx))
           have HI:=Lib.hid hI
           clear hI hon HS0
           go_wp2_with fail
           refine (Zpu pb g B get give _ HI.out.book HI.out.ok HI.out.sn.b).mono ?_
           rintro e wb ⟨v,rfl,e2,hownb⟩
           have HI:=Lib.hid (HI.out.ext e2)
           clear c3 c41
           obtain ⟨F,hFd⟩:∃F:Off->Bool,F=fun o=>decide (0<Yl L B o.seq fr to n 1099511627776):=⟨_,rfl⟩
           have HFD:=Lib.hid hFd
           have hfl:V4 L B fr to get give n=(X0 B.offs get give).find? F:=by rw [hFd];rfl
           have HFL:=Lib.hid hfl
           have hbl:(X0 B.offs get give).length<=9223372036854775807:=by have:=hownb.1;obtain ⟨_,_,_,h1,h2,_⟩:=Zn.of_own hownb;unfold maxLen at h2;omega
           have hsl:=Zn.of_own hownb
           clear hfl hownb
           generalize X0 B.offs get give=l at *
           have hix:=Zqb wr.heap.size (w.heap.size+1) (w.heap.size+1+1) (w.heap.size+1+1+1) (w.heap.size+1+1+1+1) v l F wb hsl (fun w' o k=>by
            rw [hFd]
            exact sclo_any (w.heap.size+1) (w.heap.size+1+1) (w.heap.size+1+1+1) (w.heap.size+1+1+1+1) p m pb g L B o fr to n w' (HI.out.ext k).led HI.out.wf (HI.out.ext k).book HI.out.ok (HI.out.ext k).row.k1 (HI.out.ext k).row.k2 (HI.out.ext k).row.k3 (HI.out.ext k).row.k4)
           have HSL:=Lib.hid hsl
           obtain ⟨bA,bcap,hv,_⟩:=hsl
           subst hv
           clear hFd
           go_wp2_with fail
           refine hix.mono ?_
           rintro e w2 ⟨rfl,e3⟩
           have HI:=Lib.hid (HI.out.ext e3)
           have HSL:=Lib.hid (HSL.out.ext e3)
           clear hix
           have hsp:=Zly F l 0
           generalize Zm6 F l 0=ix at *
           rcases hsp with ⟨hi1,hi2⟩ | ⟨j,hj,hi1,hi2⟩
           focus
            subst hi1
            have hr0:r0=(11,L,B,n,all):=by
             have:=HON.out
             rw [HFL.out,hi2] at this
             exact this.symm
            have hr11:r.1=11:=by have:=HSW.out.1;rw [hr0] at this;exact this (by simp)
            have HZ:=Lib.hid (show ¬(11:Int)=0 by decide)
            have HEND:=Lib.hid (show ∀W',Ext w W'->Yg r w (.returned (.tuple #[.agg #[.pointer none,.pointer none],.slice none 0 0,.int .i64 11])) W' from fun W' h=>Yg.bad hr11 (by decide) h)
            clear HSW HON HFL HSL hi2 hr0 hr11
            go_wp2_with fail
           rotate_left
           focus
            rw [Nat.zero_add] at hi1
            subst hi1
            have hj0:decide ((j:Int)<0)=false:=by first | (simp;done) | (simp;omega)
            have c5:=Za (j:=0) HI.out.row.k5 rfl
            have hon:=HON.out
            rw [HFL.out,hi2] at hon
            simp only at hon
            by_cases h64:all.length=64
            focus
             have h64':((all.length:Int)==64)=true:=by rw [h64];rfl
             have hr0:r0=(13,L,B,n,all):=by
              rw [if_pos h64] at hon
              exact hon.symm
             have hr13:r.1=13:=by have:=HSW.out.1;rw [hr0] at this;exact this (by simp)
             have HZ:=Lib.hid (show ¬(13:Int)=0 by decide)
             have HEND:=Lib.hid (show ∀W',Ext w W'->Yg r w (.returned (.tuple #[.agg #[.pointer none,.pointer none],.slice none 0 0,.int .i64 13])) W' from fun W' h=>Yg.bad hr13 (by decide) h)
             clear HSW HON HFL HSL hi2 hr0 hr13 hon h64
             go_wp2_with fail
             clear c5
            rotate_left
            ·have h64':((all.length:Int)==64)=false:=by rw [beq_eq_false_iff_ne];omega
             rw [if_neg h64] at hon
             have hmy:0<Yl L B (l[j]'hj).seq fr to n 1099511627776:=by
              have:=List.find?_some hi2
              rw [HFD.out] at this
              simpa using this
             obtain ⟨o,ho⟩:∃o,o=l[j]'hj:=⟨_,rfl⟩
             rw [<-ho] at hmy hon
             obtain ⟨A1,cap1,hv1,hs1,hs2,hs3,hs4⟩:=HSL.out
             injection hv1 with hA1 _ hc1
             subst hA1 hc1
             rcases hs4 with hs4 | ⟨gb,rfl,hgb0,hgb1,hgbc⟩
             ·omega
             have hcb:∀w':World,w'.heap[gb]? =w2.heap[gb]? ->w'.cell? ⟨gb,j*7,none⟩=some (.int .u64 o.seq):=fun w' k=>by
              rw [Zf k]
              have:=hgbc (j*7+0) (.int .u64 o.seq) (by rw [Y7 l j 0 hj (by omega),<-ho];rfl)
              simpa using this
             have hgbS:gb∉m::pb::g.toList:=fun hx=>by have:=HMS.out gb hx;omega
             have hj1:(0:Int)<=(j:Int):=by omega
             have hj2:(j:Int)<(l.length:Int):=by omega
             clear hgbc hs3 hs1 hs2
             obtain ⟨given,hd1,hd2,hd3⟩:=Zbm (L:=L) (B:=B) (seq:=o.seq) (taker:=fr) (to:=to) (want:=n) (most:=1099511627776) HI.out.ok (by omega)
             have hnb:=Zmw L B o.seq fr to n 1099511627776
             obtain ⟨nn,hnn⟩:∃nn,nn=Yl L B o.seq fr to n 1099511627776:=⟨_,rfl⟩
             have hmay:∀wq,IsLed wq p m L->IsBook wq pb g B->Calls Tryz.prog 178 #[.agg #[.pointer (some ⟨p,0,none⟩),.pointer (some ⟨pb,0,none⟩)],.int .u64 o.seq,.int .u8 fr,.int .u8 to,.int .i64 n,.int .i64 1099511627776] wq (Ret (.int .i64 nn) wq):=fun wq h1 h2=>by
              rw [hnn]
              exact Ze6 p m pb g L B o.seq fr to n 1099511627776 wq h1 HI.out.wf h2 HI.out.ok
             rw [<-hnn] at hd1 hd2 hmy hon hnb
             clear hnn
             obtain ⟨hnb0,hnb1,hnb2⟩:=hnb
             have hdo:=fun wq hL hB=>do_any p m pb g L B o.seq fr to nn wq hL HI.out.wf hB HI.out.ok (by omega)
             have hwfd:=Zkx (B:=B) HI.out.wf o.seq fr to nn
             have hokd:=Zlk (L:=L) HI.out.ok o.seq fr to nn
             have hsnd:=Zhy (L:=L) HI.out.sn o.seq fr to nn
             obtain ⟨d,hdd⟩:∃d,d=doR L B o.seq fr to nn:=⟨_,rfl⟩
             rw [<-hdd] at hd1 hd2 hon hdo hwfd hokd hsnd
             obtain ⟨df,de,dL,dB⟩:=d
             simp only at hd1 hd2 hon hdo hwfd hokd hsnd
             subst hd1 hd2
             simp only at hon
             generalize o.seq=seq at *
             have HON:=Lib.hid hon
             clear hdd hon hi2 HFL HFD ho
             have hL2:=HI.out.led
             have hB2:=HI.out.book
             go_wp2_with fail
             clear c5
             refine RgK.Zh (m::pb::g.toList) Zl 24 [17,18,19,20,21,22,23] (by kernel_rfl) (by kernel_rfl) (by kernel_rfl) ?_
             intro w1 hw1
             have r1:∀u:KeepOf (m::pb::g.toList) w1,u.to.cell? ⟨w.heap.size+1,0,none⟩=some (.int .u8 fr):=fun u=>Za (j:=0) ((hw1.trans u.h).at HI.out.row.k1 (HI.out.keepS _ (by omega))) rfl
             have r2:∀u:KeepOf (m::pb::g.toList) w1,u.to.cell? ⟨w.heap.size+1+1,0,none⟩=some (.int .u8 to):=fun u=>Za (j:=0) ((hw1.trans u.h).at HI.out.row.k2 (HI.out.keepS _ (by omega))) rfl
             have r3:∀u:KeepOf (m::pb::g.toList) w1,u.to.cell? ⟨w.heap.size+1+1+1,0,none⟩=some (.int .i64 n):=fun u=>Za (j:=0) ((hw1.trans u.h).at HI.out.row.k3 (HI.out.keepS _ (by omega))) rfl
             have rb:∀u:KeepOf (m::pb::g.toList) w1,u.to.cell? ⟨gb,j*7,none⟩=some (.int .u64 seq):=fun u=>hcb u.to ((hw1.trans u.h).block gb hgb1 hgbS)
             have ld:∀w',U9 (m::pb::g.toList) w1 w'->(loadVar 103 ⟨w.heap.size+1+1+1+1,0,none⟩).run Tryz.prog w'= .ok (.agg #[.pointer (some ⟨p,0,none⟩),.pointer (some ⟨pb,0,none⟩)]) w':=by
              rintro _ ⟨u,rfl⟩
              exact run_loadVar_row u.to (w.heap.size+1+1+1+1) _ _ _ _ _ ((hw1.trans u.h).at HI.out.row.k4 (HI.out.keepS _ (by omega))) Tryz.underlying103 rfl (by kernel_rfl)
             simp only [Zk,Rg.hsB,Nat.reduceBEq,Nat.reduceAdd,↓reduceIte]
             repeat (first | go_big_quiet_step (fail) | (go_big_quiet_want;refine Z0 103 _ _ _ rfl rfl ld ?_;go_big_quiet_on;simp only [Act.put,Rg.puB]))
             refine wpQuiet_nil ?_
             intro hx1
             clear r1 r2 r3 rb ld hcb
             refine RgK.Za0 17 22 _ _ (by kernel_rfl) (by decide) (by decide) (by rfl) (by rfl) rfl rfl ?_ ?_
             focus
              intro wm h0m hm
              refine RgK.Vs 178 _ #[.agg #[.pointer (some ⟨p,0,none⟩),.pointer (some ⟨pb,0,none⟩)],.int .u64 seq,.int .u8 fr,.int .u8 to,.int .i64 n,.int .i64 1099511627776] _ _ (by rfl) Tryz.func178 rfl (by kernel_rfl) (by kernel_rfl) ?_
              refine (hmay wm (hL2.ext (Xt hx1 hm)) (hB2.ext (Xt hx1 hm))).mono ?_
              rintro e wn ⟨rfl,en⟩
              refine ⟨_,rfl,h0m.trans (Kx en),?_⟩
              have hxn:=Xt hx1 (Xt hm en)
              clear hx1 hm en h0m
              refine RgK.Za0 18 22 _ _ (by kernel_rfl) (by decide) (by decide) (by rfl) (by rfl) rfl rfl ?_ ?_
              focus
               intro w3 h03 h3
               have E3:=Xt hxn h3
               refine RgK.Vs 179 _ #[.agg #[.pointer (some ⟨p,0,none⟩),.pointer (some ⟨pb,0,none⟩)],.int .u64 seq,.int .u8 fr,.int .u8 to,.int .i64 nn] _ _ (by rfl) Tryz.func179 rfl (by kernel_rfl) (by kernel_rfl) ?_
               refine (hdo w3 (hL2.ext E3) (hB2.ext E3)).mono ?_
               rintro e w4 ⟨rfl,k4,hL4,g4,hB4,hg4⟩
               refine ⟨_,rfl,h03.trans k4,?_⟩
               clear h3 hxn
               refine RgK.Xf Zl 19 [22,23] 2 (by kernel_rfl) (by kernel_rfl) (h03.trans k4) ?_
               intro w1' hw1'
               simp only [Act.put,Zjv,Xj,List.getElem_toArray,List.getElem_cons_succ,List.getElem_cons_zero,List.setIfInBounds_toArray,List.set_cons_zero,List.set_cons_succ]
               simp only [Zk,Rg.hsB,Nat.reduceBEq,Nat.reduceAdd,↓reduceIte]
               repeat (go_big_quiet_step (fail))
               refine wpQuiet_nil ?_
               intro hx4
               refine RgK.Xb 22 _ (.cells #[.int .u64 0,.int .u8 0,.int .u8 0,.int .i64 0,.int .i64 0] 250) (fun p=>.pointer (some ⟨p,0,none⟩)) (by intro w;go_simp) rfl (by kernel_rfl) (by decide) rfl ?_
               intro eb w5 h05 h5 heb0 heb hebb
               refine RgK.Z3 23 _ 250 _ _ rfl rfl rfl (by kernel_rfl) (by decide) rfl eb #[.int .u64 seq,.int .u8 fr,.int .u8 to,.int .i64 nn,.int .i64 given] (by kernel_rfl) (by kernel_rfl) 250 _ (by kernel_rfl) (by rfl) (by rfl) hebb (Or.inr heb0) ?_
               intro w6 h06 k6 hs6
               refine RgK.Zj (by kernel_rfl) ?_
               intro w7 e7 e7'
               simp only [Act.put,Rg.puB]
               have s3:=E3.size
               have s4:=k4.size
               have sx:=hx4.size
               have hs7:=e7'.at hs6
               have heg:∀x,g4=some x->x≠eb:=fun x hx=>by have:=hB4.ltg x hx;omega
               have heb2:w2.heap.size<=eb:=by omega
               have hch:=Zfv HI.out E3 k4 hL4 hB4 (Xt hx4 h5) k6 e7' heb2 heg
               have hEB:=Lib.hid (show ∀q,(Value.slice ao all.length acap).ownBlock=some q->q≠eb from fun q hq=>by have:=(HI.out.own.lt q hq).2;omega)
               have hg7:∀x,g4=some x->w.heap.size+1+1+1+1+1+1+1<=x:=fun x hx=>by
                rcases hg4 with hh | hh
                ·exact HI.out.hg x (hh▸hx)
                have:=hh x hx;have:=Zg HI.out.row.k6;omega
               have hrow2:=HI.out.row
               clear k4 hL4 hB4 hg4 h05 h5 heb0 hebb h06 k6 hs6 e7 e7' hw1' hx4 s3 s4 sx heg h03 E3
              rotate_left
              focus
               intro w3 h03 h3
               refine RgK.Zcd (.pointer (some ⟨w3.heap.size,0,none⟩)) (.cells #[.int .u64 0,.int .u8 0,.int .u8 0,.int .i64 0,.int .i64 0] 250) (by go_simp) ?_
               have ea:=Zc w3 (.cells #[.int .u64 0,.int .u8 0,.int .u8 0,.int .i64 0,.int .i64 0] 250)
               have ha:=Zb w3 (.cells #[.int .u64 0,.int .u8 0,.int .u8 0,.int .i64 0,.int .i64 0] 250)
               refine ⟨h03.trans (Kx ea),?_⟩
               obtain ⟨eb,hebe⟩:∃eb,eb=w3.heap.size:=⟨_,rfl⟩
               have heb2:w2.heap.size<=eb:=by have:=(Xt hxn h3).size;omega
               rw [<-hebe] at ha ⊢
               refine RgK.Zv 18 179 _ #[.agg #[.pointer (some ⟨p,0,none⟩),.pointer (some ⟨pb,0,none⟩)],.int .u64 seq,.int .u8 fr,.int .u8 to,.int .i64 nn] _ (by rfl) _ _ (by rfl) Tryz.func179 rfl (by kernel_rfl) (by kernel_rfl) rfl (by kernel_rfl) (by decide) ?_
               intro w3b h03b h3b
               have E3:=Xt hxn (Xt h3 (Xt ea h3b))
               refine (hdo w3b (hL2.ext E3) (hB2.ext E3)).mono ?_
               rintro e w4 ⟨rfl,k4,hL4,g4,hB4,hg4⟩
               refine ⟨_,rfl,h03b.trans k4,?_⟩
               have hba:=h3b.at ha
               have hebl:=Zg hba
               have hebw:=heb2
               clear ha ea hebe h3b h3 hxn h03
               have hebS:eb∉m::pb::g.toList:=fun hx=>by
                have h1:=hL2.ltm
                have h2:=hB2.ltp
                rcases List.mem_cons.1 hx with rfl | hx
                ·omega
                rcases List.mem_cons.1 hx with rfl | hx
                ·omega
                have:=hB2.ltg eb (by simpa using hx);omega
               have hb4:=k4.at hba hebS
               refine RgK.Vu (eb::m::pb::g.toList) Zl 19 [22,23] 1 (by kernel_rfl) (by kernel_rfl) (h03b.trans k4) (fun x hx=>by
                rcases List.mem_cons.1 hx with rfl | hx
                ·exact .inr hebw
                exact .inl hx) ?_
               intro w1' hw1'
               simp only [Act.put,Zjv,Xj,List.getElem_toArray,List.getElem_cons_succ,List.getElem_cons_zero,List.setIfInBounds_toArray,List.set_cons_zero,List.set_cons_succ]
               simp only [Zk,Rg.hsB,Nat.reduceBEq,Nat.reduceAdd,↓reduceIte]
               repeat (go_big_quiet_step (fail))
               refine wpQuiet_nil ?_
               intro hx4
               refine RgK.Z3 23 _ 250 _ _ rfl rfl rfl (by kernel_rfl) (by decide) rfl eb #[.int .u64 seq,.int .u8 fr,.int .u8 to,.int .i64 nn,.int .i64 given] (by kernel_rfl) (by kernel_rfl) 250 _ (by kernel_rfl) (by rfl) (by rfl) (hx4.at hb4) (Or.inl (by simp)) ?_
               intro w6 h06 k6 hs6
               refine RgK.Zj (by kernel_rfl) ?_
               intro w7 e7 e7'
               simp only [Rg.puB]
               have hs7:=e7'.at hs6
               have heg:∀x,g4=some x->x≠eb:=fun x hx=>by
                rcases hg4 with hh | hh
                ·have:=hB2.ltg x (hh▸hx);omega
                have:=hh x hx;omega
               have hch:=Zfv HI.out E3 k4 hL4 hB4 hx4 k6 e7' heb2 heg
               have hEB:=Lib.hid (show ∀q,(Value.slice ao all.length acap).ownBlock=some q->q≠eb from fun q hq=>by have:=(HI.out.own.lt q hq).2;omega)
               have hg7:∀x,g4=some x->w.heap.size+1+1+1+1+1+1+1<=x:=fun x hx=>by
                rcases hg4 with hh | hh
                ·exact HI.out.hg x (hh▸hx)
                have:=hh x hx;have:=E3.size;have:=Zg HI.out.row.k6;omega
               have hrow2:=HI.out.row
               clear k4 hL4 hB4 hg4 hebS hb4 h06 k6 hs6 e7 e7' hw1' hx4 heg h03b E3 hba hebl hebw
             rotate_left 2
             focus
              intro w3 h03 h3
              refine RgK.Zcd (.pointer (some ⟨w3.heap.size,0,none⟩)) (.cells #[.int .u64 0,.int .u8 0,.int .u8 0,.int .i64 0,.int .i64 0] 250) (by go_simp) ?_
              have ea:=Zc w3 (.cells #[.int .u64 0,.int .u8 0,.int .u8 0,.int .i64 0,.int .i64 0] 250)
              have ha:=Zb w3 (.cells #[.int .u64 0,.int .u8 0,.int .u8 0,.int .i64 0,.int .i64 0] 250)
              refine ⟨h03.trans (Kx ea),?_⟩
              obtain ⟨eb,hebe⟩:∃eb,eb=w3.heap.size:=⟨_,rfl⟩
              have heb2:w2.heap.size<=eb:=by have:=(Xt hx1 h3).size;omega
              rw [<-hebe] at ha ⊢
              refine RgK.Zv 17 178 _ #[.agg #[.pointer (some ⟨p,0,none⟩),.pointer (some ⟨pb,0,none⟩)],.int .u64 seq,.int .u8 fr,.int .u8 to,.int .i64 n,.int .i64 1099511627776] _ (by rfl) _ _ (by rfl) Tryz.func178 rfl (by kernel_rfl) (by kernel_rfl) rfl (by kernel_rfl) (by decide) ?_
              intro wm h0m hm
              have hxm:=Xt hx1 (Xt h3 (Xt ea hm))
              refine (hmay wm (hL2.ext hxm) (hB2.ext hxm)).mono ?_
              rintro e wn ⟨rfl,en⟩
              refine ⟨_,rfl,h0m.trans (Kx en),?_⟩
              have ha:=(Xt hm en).at ha
              have hxn:=Xt hxm en
              clear hxm hx1 h3 ea hm en h0m h03 hebe
              refine RgK.Zv 18 179 _ #[.agg #[.pointer (some ⟨p,0,none⟩),.pointer (some ⟨pb,0,none⟩)],.int .u64 seq,.int .u8 fr,.int .u8 to,.int .i64 nn] _ (by rfl) _ _ (by rfl) Tryz.func179 rfl (by kernel_rfl) (by kernel_rfl) rfl (by kernel_rfl) (by decide) ?_
              intro w3b h03b h3b
              have E3:=Xt hxn h3b
              refine (hdo w3b (hL2.ext E3) (hB2.ext E3)).mono ?_
              rintro e w4 ⟨rfl,k4,hL4,g4,hB4,hg4⟩
              refine ⟨_,rfl,h03b.trans k4,?_⟩
              have hba:=h3b.at ha
              have hebl:=Zg hba
              have hebw:=heb2
              clear ha h3b hxn
              have hebS:eb∉m::pb::g.toList:=fun hx=>by
               have h1:=hL2.ltm
               have h2:=hB2.ltp
               rcases List.mem_cons.1 hx with rfl | hx
               ·omega
               rcases List.mem_cons.1 hx with rfl | hx
               ·omega
               have:=hB2.ltg eb (by simpa using hx);omega
              have hb4:=k4.at hba hebS
              refine RgK.Vu (eb::m::pb::g.toList) Zl 19 [22,23] 1 (by kernel_rfl) (by kernel_rfl) (h03b.trans k4) (fun x hx=>by
               rcases List.mem_cons.1 hx with rfl | hx
               ·exact .inr hebw
               exact .inl hx) ?_
              intro w1' hw1'
              simp only [Act.put,Zjv,Xj,List.getElem_toArray,List.getElem_cons_succ,List.getElem_cons_zero,List.setIfInBounds_toArray,List.set_cons_zero,List.set_cons_succ]
              simp only [Zk,Rg.hsB,Nat.reduceBEq,Nat.reduceAdd,↓reduceIte]
              repeat (go_big_quiet_step (fail))
              refine wpQuiet_nil ?_
              intro hx4
              refine RgK.Z3 23 _ 250 _ _ rfl rfl rfl (by kernel_rfl) (by decide) rfl eb #[.int .u64 seq,.int .u8 fr,.int .u8 to,.int .i64 nn,.int .i64 given] (by kernel_rfl) (by kernel_rfl) 250 _ (by kernel_rfl) (by rfl) (by rfl) (hx4.at hb4) (Or.inl (by simp)) ?_
              intro w6 h06 k6 hs6
              refine RgK.Zj (by kernel_rfl) ?_
              intro w7 e7 e7'
              simp only [Rg.puB]
              have hs7:=e7'.at hs6
              have heg:∀x,g4=some x->x≠eb:=fun x hx=>by
               rcases hg4 with hh | hh
               ·have:=hB2.ltg x (hh▸hx);omega
               have:=hh x hx;omega
              have hch:=Zfv HI.out E3 k4 hL4 hB4 hx4 k6 e7' heb2 heg
              have hEB:=Lib.hid (show ∀q,(Value.slice ao all.length acap).ownBlock=some q->q≠eb from fun q hq=>by have:=(HI.out.own.lt q hq).2;omega)
              have hg7:∀x,g4=some x->w.heap.size+1+1+1+1+1+1+1<=x:=fun x hx=>by
               rcases hg4 with hh | hh
               ·exact HI.out.hg x (hh▸hx)
               have:=hh x hx;have:=E3.size;have:=Zg HI.out.row.k6;omega
              have hrow2:=HI.out.row
              clear k4 hL4 hB4 hg4 hebS hb4 h06 k6 hs6 e7 e7' hw1' hx4 heg h03b E3 hba hebl hebw
             all_goals
              have hl63:=HI.out.hn
              have hha:=HI.out.ha
              have hpI:=HI.out.hp
              have hmI:=HI.out.hm
              have hbI:=HI.out.hb
              clear HI hL2 hB2
              obtain ⟨hrow7,hL7,hB7,hown7,hE7⟩:=hch
              have hlt6:=Zg hrow7.k6
              have hw7:=hE7.size
              have heb5:eb≠w.heap.size+1+1+1+1+1:=by have:=Zg hrow2.k6;omega
              have heb3:eb≠w.heap.size+1+1+1:=by have:=Zg hrow2.k6;omega
              clear hrow2
              have c5:=Za (j:=0) hrow7.k5 rfl
              have ldf:(loadVar 250 ⟨eb,0,none⟩).run Tryz.prog w7= .ok (.agg #[.int .u64 seq,.int .u8 fr,.int .u8 to,.int .i64 nn,.int .i64 given]) w7:=run_loadVar_row w7 eb _ _ _ _ _ hs7 Tryz.underlying250 rfl (by kernel_rfl)
              obtain ⟨i0,hi,hz0,hz1,hz2⟩:=info_parts Zl7
              have hng:n-nn<=9223372036854775807:=by omega
              have hng2: -9223372036854775808<=n-nn:=by omega
              have ROW7:=Lib.hid hrow7
              have HNE5:=Lib.hid heb5
              have HNE3:=Lib.hid heb3
              clear hrow7 heb5 heb3
              go_wp2_with (first
               | (refine Zd rfl 250 _ _ _ rfl rfl ldf ?_)
               | (at_builtin;refine wpList_append_own _ rfl _ _ 243 rfl (w.heap.size+1+1+1+1+1+1+1) 250 i0 (.agg #[.int .u64 0,.int .u8 0,.int .u8 0,.int .i64 0,.int .i64 0]) 5 32 Tryz.underlying243 hi hz0 hz1 hz2 rfl (by decide) _ _ _ rfl (hown7.alloc _) ⟨w7.heap.size,0,none⟩ 1 1 [.int .u64 seq,.int .u8 fr,.int .u8 to,.int .i64 nn,.int .i64 given] rfl rfl (Uv w7 [.int .u64 seq,.int .u8 fr,.int .u8 to,.int .i64 nn,.int .i64 given] _) (fun x hx=>by simp only [List.mem_cons,List.not_mem_nil,or_false] at hx;rcases hx with rfl | rfl | rfl | rfl | rfl<;>rfl) (by unfold maxLen;omega) (by omega) (by simp;omega) ?_
                  intro v' w9 hown9 hgrow9 hnil9
                  have ea7:=Zc w7 (.cells #[.int .u64 seq,.int .u8 fr,.int .u8 to,.int .i64 nn,.int .i64 given] 250)
                  have hrow7:=ROW7.out
                  have hqa:=Zhf hL7 hB7 hown7
                  have hqlo:=fun q hq=>(hown7.lt q hq).1
                  have hqhi:=fun q hq=>(hown7.lt q hq).2
                  obtain ⟨SL,hSL⟩:∃SL,(Value.slice ao all.length acap).ownBlock.toList=SL:=⟨_,rfl⟩
                  have hmemS:∀x,x∈SL->(Value.slice ao all.length acap).ownBlock=some x:=fun x hx=>by rw [<-hSL] at hx;simpa using hx
                  have k79:Keep SL w7 w9:=by
                   have kg:Keep SL (w7.alloc (.cells #[.int .u64 seq,.int .u8 fr,.int .u8 to,.int .i64 nn,.int .i64 given] 250)) w9:=Zkq hSL hgrow9
                   exact (Kx ea7).trans kg
                  have hebS:eb∉SL:=fun hx=>hEB.out eb (hmemS eb hx) rfl
                  have hlow:∀j,j<w.heap.size+1+1+1+1+1+1+1->j∉SL:=fun j hj hx=>by have:=hqlo j (hmemS j hx);omega
                  have hrow9:SRow w.heap.size fr to n p pb (.slice ao all.length acap) w9:=hrow7.keep fun j ob hj hh=>k79.at hh (hlow j hj)
                  have hL9:=hL7.keep k79 (fun hx=>(hqa p (hmemS p hx)).2 rfl) (fun hx=>(hqa m (hmemS m hx)).1 (by simp))
                  have hB9:=hB7.keep k79 (fun hx=>(hqa pb (hmemS pb hx)).1 (by simp)) (fun x hx hx2=>(hqa x (hmemS x hx2)).1 (by simp [hx]))
                  have hs9:=k79.at hs7 hebS
                  have E9:Ext w w9:=(Keep.trans_fresh (S:=[]) (Kx hE7) k79 (fun x hx=>by right;have:=hqlo x (hmemS x hx);omega)).ext
                  obtain ⟨A',cap',rfl⟩:=Z7 hown9
                  have c5:=Za (j:=0) hrow9.k5 rfl
                  have f5:=frozen_of_row w9 (w.heap.size+1+1+1+1+1) 0 _ _ hrow9.k5
                  have x3:∀v,(w9.setCell ⟨w.heap.size+1+1+1+1+1,0,none⟩ v).cell? ⟨w.heap.size+1+1+1,0,none⟩=some (.int .i64 n):=fun v=>Za (j:=0) ((Below.heap_setCell _ ⟨w.heap.size+1+1+1+1+1,0,none⟩ _ _ (by show w.heap.size+1+1+1≠w.heap.size+1+1+1+1+1;omega)).trans hrow9.k3) rfl
                  have xf3:∀v,(w9.setCell ⟨w.heap.size+1+1+1+1+1,0,none⟩ v).frozen? ⟨w.heap.size+1+1+1,0,none⟩=false:=fun v=>frozen_of_row _ _ 0 _ _ ((Below.heap_setCell _ ⟨w.heap.size+1+1+1+1+1,0,none⟩ _ _ (by show w.heap.size+1+1+1≠w.heap.size+1+1+1+1+1;omega)).trans hrow9.k3)
                  have xe:∀v,(w9.setCell ⟨w.heap.size+1+1+1+1+1,0,none⟩ v).cell? ⟨eb,3,none⟩=some (.int .i64 nn):=fun v=>Za (j:=3) ((Below.heap_setCell _ ⟨w.heap.size+1+1+1+1+1,0,none⟩ _ _ (by show eb≠w.heap.size+1+1+1+1+1;exact HNE5.out)).trans hs9) rfl
                  have hF:Keep [w.heap.size+1+1+1+1+1,w.heap.size+1+1+1] w9 ((w9.setCell ⟨w.heap.size+1+1+1+1+1,0,none⟩ (.slice A' (all.length+1) cap')).setCell ⟨w.heap.size+1+1+1,0,none⟩ (.int .i64 (n-nn))):=((Keep.refl _ _).setCell (Or.inl (by simp)) _).setCell (Or.inl (by simp)) _
                  have hown9a:=ownsRow_setCell_other hown9 (a:=⟨w.heap.size+1+1+1+1+1,0,none⟩) (Y4 hown9 hrow9.k5 (by decide)) (.slice A' (all.length+1) cap')
                  have hown9b:=ownsRow_setCell_other hown9a (a:=⟨w.heap.size+1+1+1,0,none⟩) (Y4 hown9 hrow9.k3 (by decide)) (.int .i64 (n-nn))
                  have HGI:=Lib.hid (show SI w fr to get give r0 p m pb g4 dL dB (n-nn) (all++[(seq,fr,to,nn,given)]) (.slice A' (all.length+1) cap') ((w9.setCell ⟨w.heap.size+1+1+1+1+1,0,none⟩ (.slice A' (all.length+1) cap')).setCell ⟨w.heap.size+1+1+1,0,none⟩ (.int .i64 (n-nn))) from
                   { row:=⟨hF.at hrow9.k1 (by first | (simp;done) | (simp;omega)),hF.at hrow9.k2 (by first | (simp;done) | (simp;omega)),heap_setCell_same (w9.setCell ⟨w.heap.size+1+1+1+1+1,0,none⟩ _) (w.heap.size+1+1+1) 0 _ _ _ ((Below.heap_setCell _ ⟨w.heap.size+1+1+1+1+1,0,none⟩ _ _ (by show w.heap.size+1+1+1≠w.heap.size+1+1+1+1+1;omega)).trans hrow9.k3),hF.at hrow9.k4 (by first | (simp;done) | (simp;omega)),(Below.heap_setCell _ ⟨w.heap.size+1+1+1,0,none⟩ _ _ (by show w.heap.size+1+1+1+1+1≠w.heap.size+1+1+1;omega)).trans (heap_setCell_same w9 (w.heap.size+1+1+1+1+1) 0 _ _ _ hrow9.k5),hF.at hrow9.k6 (by first | (simp;done) | (simp;omega))⟩
                     led:=hL9.keep hF (by simp;omega) (by simp;omega)
                     book:=hB9.keep hF (by simp;omega) (fun x hx=>by have:=hg7 x hx;simp;omega)
                     own:=by
                      rw [List.length_append,Zc1]
                      exact hown9b
                     wf:=hwfd
                     ok:=hokd
                     sn:=hsnd
                     hn:=hng
                     ha:=by rw [List.length_append];simp;omega
                     hp:=hpI
                     hm:=hmI
                     hb:=hbI
                     hg:=hg7
                     ex:=Below.setCell (Below.setCell E9 (p:=⟨w.heap.size+1+1+1+1+1,0,none⟩) (by show w.heap.size<=w.heap.size+1+1+1+1+1;omega) _) (p:=⟨w.heap.size+1+1+1,0,none⟩) (by show w.heap.size<=w.heap.size+1+1+1;omega) _
                     on:=by
                      rw [<-HON.out,List.length_append]
                      congr 1
                      first | (simp;done) | (simp;omega) })
                  have HM:=Lib.hid (show 65-Zq7 ((w9.setCell ⟨w.heap.size+1+1+1+1+1,0,none⟩ (.slice A' (all.length+1) cap')).setCell ⟨w.heap.size+1+1+1,0,none⟩ (.int .i64 (n-nn))) (w.heap.size+1+1+1+1+1)<65-Zq7 wr (w.heap.size+1+1+1+1+1) by
                   have:Zq7 ((w9.setCell ⟨w.heap.size+1+1+1+1+1,0,none⟩ (.slice A' (all.length+1) cap')).setCell ⟨w.heap.size+1+1+1,0,none⟩ (.int .i64 (n-nn))) (w.heap.size+1+1+1+1+1)=all.length+1:=by
                    unfold Zq7
                    rw [Za (j:=0) ((Below.heap_setCell _ ⟨w.heap.size+1+1+1,0,none⟩ _ _ (by show w.heap.size+1+1+1+1+1≠w.heap.size+1+1+1;omega)).trans (heap_setCell_same w9 (w.heap.size+1+1+1+1+1) 0 _ _ (.slice A' (all.length+1) cap') hrow9.k5)) rfl]
                    rfl
                   rw [this,HLEN.out];omega)
                  clear hrow9 hL9 hB9 hs9 hs7 E9 hown9 hown9a hown9b hF hgrow9 hnil9 k79 hlow hmemS hSL hqa hqlo hqhi hrow7 hown7 hL7 hB7 ea7 hebS))
              exact ⟨⟨p,m,pb,g4,dL,dB,n-nn,_,_,HGI.out⟩,HM.out⟩
          all_goals
           have k4:=HI.out.row.k4
           have k5:=HI.out.row.k5
           have k6:=HI.out.row.k6
           have EZ:=HI.out.ex
           clear HI
           refine RgK.Zh [w.heap.size+1+1+1+1] Zl 3 [0,2] (by kernel_rfl) (by kernel_rfl) (by kernel_rfl) ?_
           intro w1 hw1
           have d5:∀q:KeepOf [w.heap.size+1+1+1+1] w1,q.to.cell? ⟨w.heap.size+1+1+1+1+1,0,none⟩=some (.slice ao all.length acap):=fun q=>Za (j:=0) ((hw1.trans q.h).at k5 (by simp)) rfl
           simp only [Zk,Rg.hsB,Nat.reduceBEq,Nat.reduceAdd,↓reduceIte]
           repeat (go_big_quiet_step (fail))
           refine wpQuiet_nil ?_
           intro hx1
           clear d5
           refine RgK.wpX_load 0 _ 103 _ _ ⟨w.heap.size+1+1+1+1,0,none⟩ rfl rfl (by kernel_rfl) (by decide) rfl (by rfl) (fun w' hw'=>run_loadVar_row w' (w.heap.size+1+1+1+1) _ _ _ _ _ (hw'.at (hx1.at k4)) Tryz.underlying103 rfl (by kernel_rfl)) ?_
           intro wq h0q hq
           refine RgK.Z3 2 _ 103 _ _ rfl rfl rfl (by kernel_rfl) (by decide) rfl (w.heap.size+1+1+1+1) #[.pointer (some ⟨p,0,none⟩),.pointer (some ⟨pb,0,none⟩)] (by kernel_rfl) (by kernel_rfl) 103 _ (by kernel_rfl) (by rfl) (by rfl) (hq.at (hx1.at k4)) (Or.inl (by simp)) ?_
           intro wd h0d kd hsd
           refine RgK.Zj (by kernel_rfl) ?_
           intro wy ey ey'
           simp only [Act.put,Rg.puB]
           have ky4:=ey'.at hsd
           have ky5:=ey'.at (kd.at (hq.at (hx1.at k5)) (by first | (simp;done) | (simp;omega)))
           have ky6:=ey'.at (kd.at (hq.at (hx1.at k6)) (by first | (simp;done) | (simp;omega)))
           have cy5:=Za (j:=0) ky5 rfl
           have cy6:=Za (j:=0) ky6 rfl
           have fy5:=frozen_of_row wy _ 0 _ _ ky5
           have fy6:=frozen_of_row wy _ 0 _ _ ky6
           have EY:Ext w wy:=Xt (Keep.trans_fresh (S:=[]) (Kx (Xt EZ (Xt hx1 hq))) kd (fun x hx=>by right;simp at hx;omega)).ext ey'
           clear hw1 h0q hq h0d kd hsd ey ey' hx1
           go_wp2
           exact Zfq _ (w.heap.size+1+1+1+1) (w.heap.size+1+1+1+1+1) (w.heap.size+1+1+1+1+1+1) _ _ _ _ _ _ (by omega) (by omega) (by omega) rfl rfl rfl
            ((Below.heap_setCell _ ⟨w.heap.size+1+1+1+1+1+1,0,none⟩ _ _ (by show w.heap.size+1+1+1+1≠w.heap.size+1+1+1+1+1+1;omega)).trans ((Below.heap_setCell _ ⟨w.heap.size+1+1+1+1+1,0,none⟩ _ _ (by show w.heap.size+1+1+1+1≠w.heap.size+1+1+1+1+1;omega)).trans ky4))
            ((Below.heap_setCell _ ⟨w.heap.size+1+1+1+1+1+1,0,none⟩ _ _ (by show w.heap.size+1+1+1+1+1≠w.heap.size+1+1+1+1+1+1;omega)).trans (heap_setCell_same wy (w.heap.size+1+1+1+1+1) 0 _ _ _ ky5))
            (heap_setCell_same (wy.setCell ⟨w.heap.size+1+1+1+1+1,0,none⟩ _) (w.heap.size+1+1+1+1+1+1) 0 _ _ _ ((Below.heap_setCell _ ⟨w.heap.size+1+1+1+1+1,0,none⟩ _ _ (by show w.heap.size+1+1+1+1+1+1≠w.heap.size+1+1+1+1+1;omega)).trans ky6))
            (fun h=>absurd h HZ.out) (fun _ W' kk=>HEND.out _ ((Kx (Below.setCell (Below.setCell EY (p:=⟨w.heap.size+1+1+1+1+1,0,none⟩) (by show w.heap.size<=w.heap.size+1+1+1+1+1;omega) _) (p:=⟨w.heap.size+1+1+1+1+1+1,0,none⟩) (by show w.heap.size<=w.heap.size+1+1+1+1+1+1;omega) _)).trans_fresh (S:=[]) kk (fun x hx=>by right;simp at hx;omega)).ext)
     rotate_left 4
     focus
      refine (Zc5 give _).mono ?_
      rintro e w' ⟨rfl,rfl⟩
      have HARG:=Lib.hid (show (Ys fr&&Ys to&&Xy get&&Xy give&& !(get==give)&&Yn n&&Yn most)=false by simp [q5])
      have HZ:=Lib.hid (show ¬(1:Int)=0 by decide)
      have HEND:=Lib.hid (show ∀W',Ext w W'->Yg r w (.returned (.tuple #[.agg #[.pointer none,.pointer none],.slice none 0 0,.int .i64 1])) W' from fun W' h=>Yg.bad (by rw [HR.out];exact Je HARG.out) (by decide) h)
      clear HARG
 all_goals
  have ld:=run_loadVar_row (P:=Tryz.prog) _ (w.heap.size+1+1+1+1) _ 103 _ _ _ kz4 Tryz.underlying103 rfl (by kernel_rfl)
  go_wp2_with (first | (refine Zd rfl 103 _ _ _ rfl rfl ld ?_) | (refine Ze rfl rfl 103 _ _ rfl (w.heap.size+1+1+1+1) _ rfl rfl 103 _ kz4 (by kernel_rfl) (by rfl) (by rfl) ?_;intro wy hby hoy hsy;have ky5:=(hoy (w.heap.size+1+1+1+1+1) (by omega)).trans kz5;have ky6:=(hoy (w.heap.size+1+1+1+1+1+1) (by omega)).trans kz6;have cy5:=Za (j:=0) ky5 rfl;have cy6:=Za (j:=0) ky6 rfl;have fy5:=frozen_of_row wy _ 0 _ _ ky5;have fy6:=frozen_of_row wy _ 0 _ _ ky6))
  have EY:Ext w wy:=hby _ _ (by omega) EZ
  exact Zfq _ (w.heap.size+1+1+1+1) (w.heap.size+1+1+1+1+1) (w.heap.size+1+1+1+1+1+1) _ _ (.slice none 0 0) _ _ _ (by omega) (by omega) (by omega) rfl rfl rfl
   ((Below.heap_setCell _ ⟨w.heap.size+1+1+1+1+1+1,0,none⟩ _ _ (by show w.heap.size+1+1+1+1≠w.heap.size+1+1+1+1+1+1;omega)).trans ((Below.heap_setCell _ ⟨w.heap.size+1+1+1+1+1,0,none⟩ _ _ (by show w.heap.size+1+1+1+1≠w.heap.size+1+1+1+1+1;omega)).trans hsy))
   ((Below.heap_setCell _ ⟨w.heap.size+1+1+1+1+1+1,0,none⟩ _ _ (by show w.heap.size+1+1+1+1+1≠w.heap.size+1+1+1+1+1+1;omega)).trans (heap_setCell_same wy (w.heap.size+1+1+1+1+1) 0 _ _ (.slice none 0 0) ky5))
   (heap_setCell_same (wy.setCell ⟨w.heap.size+1+1+1+1+1,0,none⟩ (.slice none 0 0)) (w.heap.size+1+1+1+1+1+1) 0 _ _ _ ((Below.heap_setCell _ ⟨w.heap.size+1+1+1+1+1,0,none⟩ _ _ (by show w.heap.size+1+1+1+1+1+1≠w.heap.size+1+1+1+1+1;omega)).trans ky6))
   (fun h=>absurd h HZ.out) (fun _ W' kk=>HEND.out _ ((Kx (Below.setCell (Below.setCell EY (p:=⟨w.heap.size+1+1+1+1+1,0,none⟩) (by show w.heap.size<=w.heap.size+1+1+1+1+1;omega) (.slice none 0 0)) (p:=⟨w.heap.size+1+1+1+1+1+1,0,none⟩) (by show w.heap.size<=w.heap.size+1+1+1+1+1+1;omega) _)).trans_fresh (S:=[]) kk (fun x hx=>by right;simp at hx;omega)).ext)
end Go.Proofs.YtipjchbdogmccaaGreat
