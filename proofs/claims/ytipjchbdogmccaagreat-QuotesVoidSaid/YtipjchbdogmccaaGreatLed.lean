/- The ledger: what lies in memory, and the functions that ask and push. The ledger, further: a party more; room; a push. The ledger, further: a push; a line's limit. -/
import Derived.Test.YtipjchbdogmccaaGreatBase
set_option maxHeartbeats 1600000
set_option maxRecDepth 100000
namespace Go.Proofs.YtipjchbdogmccaaGreat
open Go.RowKit Go.Rg Go.BigFrame
structure Led where
 par:List Bool
 lines:Zr
def Vy (par:List Bool) (m:Nat):Array Value:=(par.map Value.bool++[Value.map (some m)]).toArray
structure IsLed (w:World) (p m:Nat) (L:Led):Prop where
 row:w.heap[p]? =some (.cells (Vy L.par m) 203 (0,0))
 len:L.par.length=17
 map:J2 w m L.lines
def U0 (k:K3):Bool:=decide (1<=k.1/\k.1<=16/\1<=k.2.1/\k.2.1<=16/\k.1≠k.2.1/\1<=k.2.2/\k.2.2<=8)
def Zm (p:Int):Bool:=decide (1<=p/\p<=16)
def Yr (L:Led) (p:Int):Bool:=Zm p&&L.par.getD p.toNat false
structure WF (L:Led):Prop where
 par0:L.par.getD 0 false=false
 ends:∀x∈L.lines,U0 x.1=true/\Yr L x.1.1=true/\Yr L x.1.2.1=true
 nums:∀x∈L.lines,1<=x.2.1/\x.2.1<=1099511627776/\0<=x.2.2/\x.2.2<=x.2.1
 few:L.lines.length<=64
theorem IsLed.keep {S:List Nat} {w w':World} {p m:Nat} {L:Led} (h:IsLed w p m L) (k:Keep S w w') (hp:p∉S) (hm:m∉S):IsLed w' p m L:=
 ⟨k.at h.row hp,h.len,h.map.keep k hm⟩
theorem IsLed.ext {w w':World} {p m:Nat} {L:Led} (h:IsLed w p m L) (k:Ext w w'):IsLed w' p m L:=
 h.keep (Kx (S:=[]) k) (by simp) (by simp)
theorem IsLed.ltp {w:World} {p m:Nat} {L:Led} (h:IsLed w p m L):p<w.heap.size:=Zg h.row
theorem IsLed.ltm {w:World} {p m:Nat} {L:Led} (h:IsLed w p m L):m<w.heap.size:=h.map.lt
theorem IsLed.ne {w:World} {p m:Nat} {L:Led} (h:IsLed w p m L):p≠m:=by
 rintro rfl
 obtain ⟨_,_,es,c,hm,_⟩:=h.map
 rw [h.row] at hm
 cases hm
theorem IsLed.cell17 {w:World} {p m:Nat} {L:Led} (h:IsLed w p m L):w.cell? ⟨p,17,none⟩=some (.map (some m)):=by
 rw [cell_of_row w p 17 _ _ _ h.row]
 have hl:=h.len
 simp [Vy,hl]
theorem IsLed.cellP {w:World} {p m:Nat} {L:Led} (h:IsLed w p m L) (j:Nat) (hj:j<17):w.cell? ⟨p,j,none⟩=some (.bool (L.par.getD j false)):=by
 rw [cell_of_row w p j _ _ _ h.row]
 have hl:=h.len
 simp [Vy,List.getElem?_append,hl,hj]
theorem IsLed.free {w:World} {p m:Nat} {L:Led} (h:IsLed w p m L) (j:Nat):w.frozen? ⟨p,j,none⟩=false:=frozen_of_row w p j _ _ h.row
theorem Zdk {l:Zr} {k:K3} {v:V2} (h:lkO l k=some v):(k,v)∈l:=by
 unfold lkO at h
 cases hf:l.find? (fun e=>e.1==k) with
 | none=>rw [hf] at h;simp at h
 | some x=>
   rw [hf] at h
   have h1:=List.find?_some hf
   have h2:=List.mem_of_find?_eq_some hf
   simp only [beq_iff_eq] at h1
   simp only [Option.map_some,Option.some.injEq] at h
   subst h
   rw [<-h1]
   exact h2
theorem WF.lk {L:Led} (h:WF L) (k:K3):0<=(lk L.lines k).2/\(lk L.lines k).2<=(lk L.lines k).1/\(lk L.lines k).1<=1099511627776:=by
 unfold YtipjchbdogmccaaGreat.lk
 cases hc:lkO L.lines k with
 | none=>simp
 | some v=>
   obtain ⟨h1,h2,h3,h4⟩:=h.nums _ (Zdk hc)
   exact ⟨h3,h4,h2⟩
theorem Vl (p m:Nat) (L:Led) (w:World) (h:IsLed w p m L):
 Calls Tryz.prog 102 #[.pointer (some ⟨p,0,none⟩)] w (Ret (.bool true) w):=by
 have hneq:=fun w=>Go.run_neq_map_nil (P:=Tryz.prog) w 200 _ _ (some m) Tryz.underlying200
 have c:=h.cell17
 go_enter Tryz.func102,Tryz.ntmps102
 go_wp2
 go_ret
 exact ⟨rfl,Ext.refl _⟩
theorem Ze4 (p:Int) (w:World):Calls Tryz.prog 165 #[.int .u8 p] w (Ret (.bool (Zm p)) w):=by
 by_cases h1:1<=p
 focus have hv:Zm p=decide (p<=16):=by unfold Zm;rw [Bool.eq_iff_iff];simp [h1]
 rotate_left
 focus have hv:Zm p=false:=by unfold Zm;rw [decide_eq_false_iff_not];omega
 all_goals
  rw [hv]
  clear hv
  go_enter Tryz.func165,Tryz.ntmps165
  go_wp2
  go_ret
  exact ⟨rfl,Ext.refl _⟩
theorem Zpf (a b c:Int) (w:World):Calls Tryz.prog 166 #[Xm (a,b,c)] w (Ret (.bool (U0 (a,b,c))) w):=by
 have e0:Ext w (w.alloc (.cells #[.int .u8 a,.int .u8 b,.int .u8 c] 209)):=Zc _ _
 have h0:=Zb w (.cells #[.int .u8 a,.int .u8 b,.int .u8 c] 209)
 have ma:=fun w=>Ze4 a w
 have mb:=fun w=>Ze4 b w
 simp only [Xm]
 generalize hW:w.alloc (.cells #[.int .u8 a,.int .u8 b,.int .u8 c] 209)=W at e0 h0
 have HW:=Lib.hid hW
 clear hW
 by_cases h1:Zm a=true
 ·rw [h1] at ma
  by_cases h2:Zm b=true
  ·rw [h2] at mb
   have hv:U0 (a,b,c)=(decide (a≠b)&&decide (1<=c)&&decide (c<=8)):=by
    unfold Zm at h1 h2
    unfold U0
    rw [decide_eq_true_eq] at h1 h2
    rw [Bool.eq_iff_iff]
    simp only [decide_eq_true_eq,Bool.and_eq_true]
    omega
   rw [hv]
   clear hv h1 h2
   have c0:=Za h0 (j:=0) rfl
   go_enter Tryz.func166,Tryz.ntmps166
   go_wp2_with fail
   rw [HW.out]
   go_wp2_with fail
   refine (ma _).mono ?_
   rintro e w2 ⟨rfl,e2⟩
   have d0:=Za (e2.at h0) (j:=0) rfl
   have d1:=Za (e2.at h0) (j:=1) rfl
   have d2:=Za (e2.at h0) (j:=2) rfl
   go_wp2_with fail
   refine (mb _).mono ?_
   rintro e w3 ⟨rfl,e3⟩
   have c0:=Za (e3.at (e2.at h0)) (j:=0) rfl
   have c1:=Za (e3.at (e2.at h0)) (j:=1) rfl
   have c2:=Za (e3.at (e2.at h0)) (j:=2) rfl
   by_cases hab:a=b
   ·subst hab
    go_wp2
    go_ret
    exact ⟨by simp,Xt e0 (Xt e2 e3)⟩
   have hb1:(a==b)=false:=by simpa using hab
   have hb2:(a !=b)=true:=by simpa using hab
   by_cases hc1:1<=c
   ·by_cases hc2:c<=8
    rotate_left
    all_goals
     go_wp2
     go_ret
     exact ⟨by simp [hab,hc1,hc2],Xt e0 (Xt e2 e3)⟩
   go_wp2
   go_ret
   exact ⟨by simp [show ¬1<=c by omega],Xt e0 (Xt e2 e3)⟩
  have hf:Zm b=false:=by simpa using h2
  rw [hf] at mb
  have hv:U0 (a,b,c)=false:=by
   unfold Zm at hf
   unfold U0
   rw [decide_eq_false_iff_not] at hf ⊢
   simp only
   omega
  rw [hv]
  clear hv h1 h2 hf
  have c0:=Za h0 (j:=0) rfl
  go_enter Tryz.func166,Tryz.ntmps166
  go_wp2_with fail
  rw [HW.out]
  go_wp2_with fail
  refine (ma _).mono ?_
  rintro e w2 ⟨rfl,e2⟩
  have d0:=Za (e2.at h0) (j:=0) rfl
  have d1:=Za (e2.at h0) (j:=1) rfl
  have d2:=Za (e2.at h0) (j:=2) rfl
  go_wp2_with fail
  refine (mb _).mono ?_
  rintro e w3 ⟨rfl,e3⟩
  go_wp2
  go_ret
  exact ⟨rfl,Xt e0 (Xt e2 e3)⟩
 have hf:Zm a=false:=by simpa using h1
 rw [hf] at ma
 have hv:U0 (a,b,c)=false:=by
  unfold Zm at hf
  unfold U0
  rw [decide_eq_false_iff_not] at hf ⊢
  simp only
  omega
 rw [hv]
 clear hv h1 hf
 have c0:=Za h0 (j:=0) rfl
 go_enter Tryz.func166,Tryz.ntmps166
 go_wp2_with fail
 rw [HW.out]
 go_wp2_with fail
 refine (ma _).mono ?_
 rintro e w2 ⟨rfl,e2⟩
 have d0:=Za (e2.at h0) (j:=0) rfl
 have d1:=Za (e2.at h0) (j:=1) rfl
 have d2:=Za (e2.at h0) (j:=2) rfl
 go_wp2
 go_ret
 exact ⟨rfl,Xt e0 e2⟩
theorem Za7 (p m:Nat) (L:Led) (x:Int) (w:World) (h:IsLed w p m L):
 Calls Tryz.prog 175 #[.pointer (some ⟨p,0,none⟩),.int .u8 x] w (Ret (.bool (Yr L x)) w):=by
 have ct:=fun w (h:IsLed w p m L)=>Vl p m L w h
 have cm:=fun w=>Ze4 x w
 by_cases hx:Zm x=true
 focus
  have hx':=hx
  unfold Zm at hx'
  rw [decide_eq_true_eq] at hx'
  obtain ⟨hx1,hx2⟩:=hx'
  have hv:Yr L x=L.par.getD x.toNat false:=by unfold Yr;rw [hx,Bool.true_and]
  rw [hv]
  rw [hx] at cm
  clear hx hv
  obtain ⟨j,rfl⟩:=Int.eq_ofNat_of_zero_le (show 0<=x by omega)
  simp only [Int.toNat_natCast]
  generalize hvv:L.par.getD j false=v
  have HV:=Lib.hid hvv
  clear hvv
  go_enter Tryz.func175,Tryz.ntmps175
  go_wp2_with fail
  refine (ct _ h).mono ?_
  rintro e w2 ⟨rfl,e2⟩
  go_wp2_with fail
  refine (cm _).mono ?_
  rintro e w3 ⟨rfl,e3⟩
  have c0:=((h.ext e2).ext e3).cellP j (by omega)
  rw [HV.out] at c0
 rotate_left
 focus
  have hf:Zm x=false:=by simpa using hx
  have hv:Yr L x=false:=by unfold Yr;rw [hf,Bool.false_and]
  rw [hv]
  rw [hf] at cm
  clear hx hv hf
  go_enter Tryz.func175,Tryz.ntmps175
  go_wp2_with fail
  refine (ct _ h).mono ?_
  rintro e w2 ⟨rfl,e2⟩
  go_wp2_with fail
  refine (cm _).mono ?_
  rintro e w3 ⟨rfl,e3⟩
 all_goals
  go_wp2
  go_ret
  exact ⟨rfl,Xt e2 e3⟩
def Za3 (L:Led) (x:Int):Int×Led:=if Zm x then (if L.par.getD x.toNat false then (8,L) else (0,{ L with par:=L.par.set x.toNat true })) else (1,L)
theorem Zm3 (par:List Bool) (m j:Nat) (b:Bool) (h:j<par.length):(Vy par m).setIfInBounds j (.bool b)=Vy (par.set j b) m:=by
 unfold Vy
 rw [List.setIfInBounds_toArray,List.set_append_left _ _ (by simpa using h),List.map_set]
theorem open_any (p m:Nat) (L:Led) (x:Int) (w:World) (h:IsLed w p m L):
 Calls Tryz.prog 143 #[.pointer (some ⟨p,0,none⟩),.int .u8 x] w (Znq (.int .i64 (Za3 L x).1) [p] (fun w'=>IsLed w' p m (Za3 L x).2) w):=by
 have ct:=fun w (h:IsLed w p m L)=>Vl p m L w h
 have cm:=fun w=>Ze4 x w
 by_cases hx:Zm x=true
 ·have hx':=hx
  unfold Zm at hx'
  rw [decide_eq_true_eq] at hx'
  obtain ⟨hx1,hx2⟩:=hx'
  rw [hx] at cm
  obtain ⟨j,rfl⟩:=Int.eq_ofNat_of_zero_le (show 0<=x by omega)
  by_cases hv:L.par.getD j false=true
  ·have hr:Za3 L j=(8,L):=by unfold Za3;rw [if_pos hx,Int.toNat_natCast,if_pos hv]
   rw [hr]
   clear hr hx
   have HV:=Lib.hid hv
   clear hv
   go_enter Tryz.func143,Tryz.ntmps143
   go_wp2_with fail
   refine (ct _ h).mono ?_
   rintro e w2 ⟨rfl,e2⟩
   go_wp2_with fail
   refine (cm _).mono ?_
   rintro e w3 ⟨rfl,e3⟩
   have h3:=(h.ext e2).ext e3
   have c0:=h3.cellP j (by omega)
   rw [HV.out] at c0
   go_wp2
   go_ret
   exact ⟨rfl,Kx (Xt e2 e3),h3⟩
  have hv':L.par.getD j false=false:=by simpa using hv
  have hr:Za3 L j=(0,{ L with par:=L.par.set j true }):=by unfold Za3;rw [if_pos hx,Int.toNat_natCast,if_neg hv]
  rw [hr]
  clear hr hx hv
  have HV:=Lib.hid hv'
  clear hv'
  go_enter Tryz.func143,Tryz.ntmps143
  go_wp2_with fail
  refine (ct _ h).mono ?_
  rintro e w2 ⟨rfl,e2⟩
  go_wp2_with fail
  refine (cm _).mono ?_
  rintro e w3 ⟨rfl,e3⟩
  have h3:=(h.ext e2).ext e3
  have c0:=h3.cellP j (by omega)
  rw [HV.out] at c0
  have f0:=h3.free j
  go_wp2
  go_ret
  have hk:Keep [p] w3 (w3.setCell ⟨p,j,none⟩ (.bool true)):=(Keep.refl _ _).setCell (Or.inl (by simp)) _
  refine ⟨rfl,(Kx (Xt e2 e3)).trans hk,⟨?_,by simpa using h3.len,h3.map.keep hk (by simpa using fun e=>h3.ne e.symm)⟩⟩
  have:=heap_setCell_same w3 p j _ _ (.bool true) h3.row
  rw [Zm3 _ _ _ _ (by have:=h3.len;omega)] at this
  exact this
 have hf:Zm x=false:=by simpa using hx
 have hr:Za3 L x=(1,L):=by unfold Za3;rw [if_neg hx]
 rw [hr]
 rw [hf] at cm
 clear hx hr hf
 go_enter Tryz.func143,Tryz.ntmps143
 go_wp2_with fail
 refine (ct _ h).mono ?_
 rintro e w2 ⟨rfl,e2⟩
 go_wp2_with fail
 refine (cm _).mono ?_
 rintro e w3 ⟨rfl,e3⟩
 go_wp2
 go_ret
 exact ⟨rfl,Kx (Xt e2 e3),(h.ext e2).ext e3⟩
def Xo (L:Led) (a b c:Int):Int:=(lk L.lines (a,b,c)).2+(lk L.lines (b,a,c)).1-(lk L.lines (b,a,c)).2
theorem Zn4 (p m:Nat) (L:Led) (a b c:Int) (w:World) (h:IsLed w p m L) (hwf:WF L):
 Calls Tryz.prog 221 #[.pointer (some ⟨p,0,none⟩),.int .u8 a,.int .u8 b,.int .u8 c] w (Ret (.int .i64 (Xo L a b c)) w):=by
 have ct:=fun w (h:IsLed w p m L)=>Vl p m L w h
 have b1:=hwf.lk (a,b,c)
 have b2:=hwf.lk (b,a,c)
 have k1:=fun w (h:IsLed w p m L)=>Vb m L.lines (a,b,c) false w h.map
 have k2:=fun w (h:IsLed w p m L)=>Vb m L.lines (b,a,c) false w h.map
 unfold Xo
 simp only [Xm,U7,Bool.false_eq_true,if_false] at k1 k2
 generalize lk L.lines (a,b,c)=back at *
 generalize lk L.lines (b,a,c)=on at *
 obtain ⟨bl,bd⟩:=back
 obtain ⟨ol,od⟩:=on
 simp only at b1 b2 k1 k2 ⊢
 obtain ⟨b11,b12,b13⟩:=b1
 obtain ⟨b21,b22,b23⟩:=b2
 go_enter Tryz.func221,Tryz.ntmps221
 go_wp2_with fail
 refine (ct _ h).mono ?_
 rintro e w0 ⟨rfl,e0⟩
 go_wp2
 refine Zh Zl 21 [18,19,20] (by kernel_rfl) (by kernel_rfl) ?_
 intro w1 hw1
 have hL:∀q:ExtOf w1,IsLed q.to p m L:=fun q=>h.ext (Xt e0 (Xt hw1 q.h))
 have c1:=fun q:ExtOf w1=>(hL q).cell17
 have l1:=fun q:ExtOf w1=>k1 q.to (hL q)
 have l2:=fun q:ExtOf w1=>k2 q.to (hL q)
 clear k1 k2 hL
 simp only [Zk,Rg.hsB,Nat.reduceBEq,Nat.reduceAdd,↓reduceIte]
 repeat (go_big_quiet_step (fail))
 refine wpQuiet_nil ?_
 refine wpX_new2 18 19 _ _ (.cells #[.int .i64 0,.int .i64 0] 211) (.cells #[.int .i64 0,.int .i64 0] 211) (fun a w=> ?_) (fun a w=> ?_) rfl rfl (by kernel_rfl) (by kernel_rfl) (by kernel_rfl) (by decide) (by decide) (by decide) rfl rfl (by decide) ?_
 ·simp [go_sem]
 ·simp [go_sem]
 intro s t w2 h02 h2 hs0 ht0 hs ht hst hsb htb
 refine Z3 20 _ 211 _ _ rfl rfl rfl (by kernel_rfl) (by decide) rfl s _ rfl rfl 211 _ (by kernel_rfl) (by rfl) (by rfl) hsb hs0 ?_
 intro w3 h03 hk3 hs3
 refine Zj (by kernel_rfl) ?_
 intro w4 h4 h4'
 simp only [Act.put,Rg.puB]
 have ht4:=h4'.at (hk3 _ _ (Ne.symm hst) htb)
 have hs4:=h4'.at hs3
 refine Ze rfl rfl 211 _ _ rfl t _ rfl rfl 211 _ ht4 (by kernel_rfl) (by rfl) (by rfl) ?_
 intro w5 hb5 hk5 ht5
 have e5:Ext w0 w5:=hb5 _ _ ht0 h4
 have hs5:=(hk5 _ hst).trans hs4
 have c10:=Za hs5 (j:=0) rfl
 have c11:=Za hs5 (j:=1) rfl
 have c20:=Za ht5 (j:=0) rfl
 have c21:=Za ht5 (j:=1) rfl
 go_wp2
 go_ret
 exact ⟨rfl,Xt e0 e5⟩
def U8 (l:Zr) (k:K3) (n:Int):Zr:=if n=0 then l else upd l k ((lk l k).1,(lk l k).2+n)
theorem Zda (p m:Nat) (L:Led) (a b c n:Int) (w:World) (h:IsLed w p m L) (hb1:0<=(lk L.lines (a,b,c)).2) (hb2:(lk L.lines (a,b,c)).2<=1099511627776) (hn1: -1099511627776<=n) (hn2:n<=1099511627776):
 Calls Tryz.prog 222 #[.pointer (some ⟨p,0,none⟩),Xm (a,b,c),.int .i64 n] w (Znq (.tuple #[]) [m] (fun w'=>IsLed w' p m { L with lines:=U8 L.lines (a,b,c) n }) w):=by
 have e0:Ext w (w.alloc (.cells #[.int .u8 a,.int .u8 b,.int .u8 c] 209)):=Zc _ _
 have h0:=Zb w (.cells #[.int .u8 a,.int .u8 b,.int .u8 c] 209)
 have hp:=h.ltp
 have hm:=h.ltm
 have hs0:=size_alloc w (.cells #[.int .u8 a,.int .u8 b,.int .u8 c] 209)
 generalize hW:w.alloc (.cells #[.int .u8 a,.int .u8 b,.int .u8 c] 209)=W at e0 h0 hs0
 have HW:=Lib.hid hW
 clear hW
 by_cases hz:n=0
 ·have hr:U8 L.lines (a,b,c) n=L.lines:=by unfold U8;rw [if_pos hz]
  rw [hr]
  subst hz
  clear hr
  simp only [Xm]
  go_enter Tryz.func222,Tryz.ntmps222
  go_wp2
  rw [HW.out]
  go_end0
  exact ⟨rfl,Kx e0,h.ext e0⟩
 have hr:U8 L.lines (a,b,c) n=upd L.lines (a,b,c) ((lk L.lines (a,b,c)).1,(lk L.lines (a,b,c)).2+n):=by unfold U8;rw [if_neg hz]
 rw [hr]
 have hz1:(n==0)=false:=by simpa using hz
 have hz2:(n !=0)=true:=by simpa using hz
 clear hr hz
 have k1:=fun w (h:IsLed w p m L)=>Vb m L.lines (a,b,c) false w h.map
 have k2:=fun w (h:IsLed w p m L) (v:V2)=>Zdw m L.lines (a,b,c) v w h.map
 simp only [Xm,U7,Bool.false_eq_true,if_false] at k1 k2 ⊢
 generalize lk L.lines (a,b,c)=x at *
 obtain ⟨lim,debt⟩:=x
 simp only at hb1 hb2 k1 ⊢
 go_enter Tryz.func222,Tryz.ntmps222
 go_wp2
 rw [HW.out]
 refine Zh Zl 7 [6] (by kernel_rfl) (by kernel_rfl) ?_
 intro w1 hw1
 have hL:∀q:ExtOf w1,IsLed q.to p m L:=fun q=>h.ext (Xt e0 (Xt hw1 q.h))
 have c1:=fun q:ExtOf w1=>(hL q).cell17
 have l1:=fun q:ExtOf w1=>k1 q.to (hL q)
 have d0:=fun q:ExtOf w1=>Za (j:=0) ((Xt hw1 q.h).at h0) rfl
 have d1:=fun q:ExtOf w1=>Za (j:=1) ((Xt hw1 q.h).at h0) rfl
 have d2:=fun q:ExtOf w1=>Za (j:=2) ((Xt hw1 q.h).at h0) rfl
 clear k1 hL
 simp only [Zk,Rg.hsB,Nat.reduceBEq,Nat.reduceAdd,↓reduceIte]
 repeat (go_big_quiet_step (fail))
 refine wpQuiet_nil ?_
 refine Ub 6 _ (.cells #[.int .i64 0,.int .i64 0] 211) (fun a w=> ?_) rfl (by kernel_rfl) (by decide) rfl ?_
 ·simp [go_sem]
 intro s w2 h02 h2 hs1 _ hsb
 refine Zj (by kernel_rfl) ?_
 intro w3 h3 h3'
 simp only [Act.put,Rg.puB]
 have hs3:=h3'.at hsb
 refine Ze rfl rfl 211 _ _ rfl s _ rfl rfl 211 _ hs3 (by kernel_rfl) (by rfl) (by rfl) ?_
 intro w4 hb4 hk4 hs4
 have e4:Ext W w4:=hb4 _ _ hs1 h3
 have c10:=Za hs4 (j:=0) rfl
 have c11:=Za hs4 (j:=1) rfl
 have f11:=frozen_of_row w4 s 1 _ _ hs4
 have e5:Ext W (w4.setCell ⟨s,1,none⟩ (.int .i64 (debt+n))):=e4.setCell (p:=⟨s,1,none⟩) hs1 _
 have hs5:=heap_setCell_same w4 s 1 _ _ (.int .i64 (debt+n)) hs4
 go_wp2
 generalize w4.setCell ⟨s,1,none⟩ (.int .i64 (debt+n))=w5 at e5 hs5 ⊢
 clear hw1 c1 l1 d0 d1 d2
 refine Zh Zl 6 [] (by kernel_rfl) (by kernel_rfl) ?_
 intro w1 hw1
 have hL:∀q:ExtOf w1,IsLed q.to p m L:=fun q=>h.ext (Xt e0 (Xt e5 (Xt hw1 q.h)))
 have c1:=fun q:ExtOf w1=>(hL q).cell17
 have d0:=fun q:ExtOf w1=>Za (j:=0) ((Xt e5 (Xt hw1 q.h)).at h0) rfl
 have d1:=fun q:ExtOf w1=>Za (j:=1) ((Xt e5 (Xt hw1 q.h)).at h0) rfl
 have d2:=fun q:ExtOf w1=>Za (j:=2) ((Xt e5 (Xt hw1 q.h)).at h0) rfl
 have d3:=fun q:ExtOf w1=>Za (j:=0) ((Xt hw1 q.h).at hs5) rfl
 have d4:=fun q:ExtOf w1=>Za (j:=1) ((Xt hw1 q.h).at hs5) rfl
 clear hL
 simp only [Zk,Rg.hsB,Nat.reduceAdd,↓reduceIte]
 repeat (go_big_quiet_step (fail))
 refine wpQuiet_nil ?_
 refine Zj (by kernel_rfl) ?_
 intro w6 h6 h6'
 simp only [Rg.puB]
 have hL6:=h.ext (Xt e0 (Xt e5 h6))
 obtain ⟨w7,r7,m7,kp7,_⟩:=k2 w6 hL6 (lim,debt+n)
 simp only at r7
 go_wp2
 go_end0
 exact ⟨rfl,(Kx (Xt e0 (Xt e5 h6))).trans kp7,⟨kp7.at hL6.row (by simpa using hL6.ne),hL6.len,m7⟩⟩
theorem Zct (x:K3×V2) (xs:Zr) (k:K3):lkO (x::xs) k=if x.1==k then some x.2 else lkO xs k:=by
 unfold lkO
 by_cases h:x.1==k
 ·simp [h]
 simp [h]
theorem lkO_upd (l:Zr) (k k':K3) (v:V2):lkO (upd l k v) k'=if k=k' then some v else lkO l k':=by
 induction l with
 | nil=>
   simp only [upd,Zct,beq_iff_eq]
 | cons x xs ih=>
   by_cases h:x.1=k
   ·simp only [upd,beq_iff_eq,h,if_true,Zct]
    by_cases h2:k=k'<;>simp [h2]
   simp only [upd,beq_iff_eq,h,if_false,Zct,ih]
   by_cases h2:k=k'
   ·subst h2;simp [h]
   simp [h2]
theorem lk_upd (l:Zr) (k k':K3) (v:V2):lk (upd l k v) k'=if k=k' then v else lk l k':=by
 unfold lk
 rw [lkO_upd]
 by_cases h:k=k'<;>simp [h]
theorem Jq (l:Zr) (k k':K3) (n:Int) (h:k≠k'):lk (U8 l k n) k'=lk l k':=by
 unfold U8
 split
 ·rfl
 rw [lk_upd,if_neg h]
theorem wf_self {L:Led} (h:WF L) (a c:Int):lk L.lines (a,a,c)=(0,0):=by
 unfold lk
 cases hc:lkO L.lines (a,a,c) with
 | none=>rfl
 | some v=>
   have:=(h.ends _ (Zdk hc)).1
   unfold U0 at this
   simp at this
def V8 (L:Led) (a b c n:Int):Led:=
 { L with lines:=U8 (U8 L.lines (a,b,c) (-(min n (lk L.lines (a,b,c)).2))) (b,a,c) (n-min n (lk L.lines (a,b,c)).2) }
def Js (L:Led) (a b c n:Int):Int×Led:=if n<1 then (1,L) else if Xo L a b c<n then (11,L) else (0,V8 L a b c n)
theorem push_any (p m:Nat) (L:Led) (a b c n:Int) (w:World) (h:IsLed w p m L) (hwf:WF L) (hn2:n<=9223372036854775807):
 Calls Tryz.prog 170 #[.pointer (some ⟨p,0,none⟩),.int .u8 a,.int .u8 b,.int .u8 c,.int .i64 n] w (Znq (.int .i64 (Js L a b c n).1) [m] (fun w'=>IsLed w' p m (Js L a b c n).2) w):=by
 have ct:=fun w (h:IsLed w p m L)=>Vl p m L w h
 have cr:=fun w (h:IsLed w p m L)=>Zn4 p m L a b c w h hwf
 have b1:=hwf.lk (a,b,c)
 have b2:=hwf.lk (b,a,c)
 by_cases hn:n<1
 ·have hr:Js L a b c n=(1,L):=by unfold Js;rw [if_pos hn]
  rw [hr]
  clear hr b1 b2 cr
  go_enter Tryz.func170,Tryz.ntmps170
  go_wp2_with fail
  refine (ct _ h).mono ?_
  rintro e w0 ⟨rfl,e0⟩
  go_wp2
  go_ret
  exact ⟨rfl,Kx e0,h.ext e0⟩
 ·by_cases hrm:Xo L a b c<n
  ·have hr:Js L a b c n=(11,L):=by unfold Js;rw [if_neg hn,if_pos hrm]
   rw [hr]
   generalize hg:Xo L a b c=room at hrm cr
   clear hr b1 b2 hg
   go_enter Tryz.func170,Tryz.ntmps170
   go_wp2_with fail
   refine (ct _ h).mono ?_
   rintro e w0 ⟨rfl,e0⟩
   go_wp2_with fail
   refine (cr _ (h.ext e0)).mono ?_
   rintro e w2 ⟨rfl,e2⟩
   go_wp2
   go_ret
   exact ⟨rfl,Kx (Xt e0 e2),h.ext (Xt e0 e2)⟩
  ·have hr:Js L a b c n=(0,V8 L a b c n):=by unfold Js;rw [if_neg hn,if_neg hrm]
   rw [hr]
   have hab:a≠b:=by
    rintro rfl
    unfold Xo at hrm
    rw [wf_self hwf] at hrm
    simp at hrm
    omega
   have hkk:((a,b,c):K3)≠(b,a,c):=fun e=>hab (by simpa using congrArg Prod.fst e)
   have hrm':=hrm
   unfold Xo at hrm'
   have hfall:min n (lk L.lines (a,b,c)).2<=(lk L.lines (a,b,c)).2/\0<=min n (lk L.lines (a,b,c)).2/\min n (lk L.lines (a,b,c)).2<=n/\n-min n (lk L.lines (a,b,c)).2<=1099511627776:=by omega
   have ca:=fun w (h:IsLed w p m L)=>Zda p m L a b c (-(min n (lk L.lines (a,b,c)).2)) w h b1.1 (by omega) (by omega) (by omega)
   have cb:=fun w (h:IsLed w p m { L with lines:=U8 L.lines (a,b,c) (-(min n (lk L.lines (a,b,c)).2)) })=>
    Zda p m _ b a c (n-min n (lk L.lines (a,b,c)).2) w h (by simp only;rw [Jq _ _ _ _ hkk];omega) (by simp only;rw [Jq _ _ _ _ hkk];omega) (by omega) (by omega)
   unfold V8
   simp only at cb ⊢
   have k1:=fun w (h:IsLed w p m L)=>Vb m L.lines (a,b,c) false w h.map
   simp only [Xm,U7,Bool.false_eq_true,if_false] at k1 ca cb
   have hbd:0<=(lk L.lines (a,b,c)).2:=b1.1
   generalize hla:U8 L.lines (a,b,c) (-(min n (lk L.lines (a,b,c)).2))=la at ca cb ⊢
   generalize hlb:U8 la (b,a,c) (n-min n (lk L.lines (a,b,c)).2)=lb at cb ⊢
   clear hla hlb
   generalize lk L.lines (a,b,c)=x at *
   obtain ⟨lim,debt⟩:=x
   simp only at hfall k1 ca cb hbd
   have hfd:∀w:World,(Instr.field 211 (.agg #[.int .i64 lim,.int .i64 debt]) 1).run Tryz.prog w= .ok (.int .i64 debt) w:=fun _=>by kernel_rfl
   generalize hgr:Xo L a b c=room at hrm cr
   obtain ⟨hf1,hf2,hf3,hf4⟩:=hfall
   have hrm2:n<=room:=by omega
   have hn1:1<=n:=by omega
   clear hr b1 b2 hrm' hrm hgr hkk hab hn
   go_enter Tryz.func170,Tryz.ntmps170
   go_wp2_with fail
   refine (ct _ h).mono ?_
   rintro e w0 ⟨rfl,e0⟩
   go_wp2_with fail
   refine (cr _ (h.ext e0)).mono ?_
   rintro e w2 ⟨rfl,e2⟩
   have h2:=h.ext (Xt e0 e2)
   have t0:=Zb w2 (.cells #[.int .u8 a,.int .u8 b,.int .u8 c] 209)
   have e3:=Zc w2 (.cells #[.int .u8 a,.int .u8 b,.int .u8 c] 209)
   go_wp2
   generalize w2.alloc (.cells #[.int .u8 a,.int .u8 b,.int .u8 c] 209)=w3 at t0 e3 ⊢
   refine Zh Zl 8 [] (by kernel_rfl) (by kernel_rfl) ?_
   intro w1 hw1
   have hL:∀q:ExtOf w1,IsLed q.to p m L:=fun q=>h2.ext (Xt e3 (Xt hw1 q.h))
   have c1:=fun q:ExtOf w1=>(hL q).cell17
   have l1:=fun q:ExtOf w1=>k1 q.to (hL q)
   have d0:=fun q:ExtOf w1=>Za (j:=0) ((Xt hw1 q.h).at t0) rfl
   have d1:=fun q:ExtOf w1=>Za (j:=1) ((Xt hw1 q.h).at t0) rfl
   have d2:=fun q:ExtOf w1=>Za (j:=2) ((Xt hw1 q.h).at t0) rfl
   clear k1 hL
   simp only [Zk,Rg.hsB,Nat.reduceAdd,↓reduceIte]
   repeat (go_big_quiet_step (fail))
   refine wpQuiet_nil ?_
   refine Zj (by kernel_rfl) ?_
   intro w4 h4 h4'
   simp only [Rg.puB]
   have h4L:=h2.ext (Xt e3 h4)
   have t4:=h4.at t0
   have g0:=Za t4 (j:=0) rfl
   have g1:=Za t4 (j:=1) rfl
   have g2:=Za t4 (j:=2) rfl
   clear c1 l1 d0 d1 d2
   go_wp2_with fail
   all_goals
    first
    | (have hmin:min n debt=debt:=by omega
       rw [hmin] at ca cb)
    | (have hmin:min n debt=n:=by omega
       rw [hmin] at ca cb
       rw [Int.sub_self] at cb)
    refine (ca _ h4L).mono ?_
    rintro e w5 ⟨rfl,k5,h5⟩
    go_wp2_with fail
    refine (cb _ h5).mono ?_
    rintro e w6 ⟨rfl,k6,h6⟩
    go_wp2
    go_ret
    exact ⟨rfl,(Kx (Xt e0 (Xt e2 (Xt e3 h4)))).trans (k5.trans k6),h6⟩
end Go.Proofs.YtipjchbdogmccaaGreat
