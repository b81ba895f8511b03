/- Quotes: the quote of a command; walked. Quotes: parties, spots; what is so of a debt, a position, an offer; plain words. Quotes: what a state's debt, position and offer is: functions that hold a state; walked. Quotes: functions that hold a state: its debts, positions, offers; walked. Quotes: of a debt, an offer, a position in a state; is a line in one of two; what is made; walked. Quotes: what a debt, a position, an offer is in a state; what is made of two of them; walked. Values of several cells put into a row of one's own. Quotes: debts that one of two states has: slices.DeleteFunc at debts, lines; walked. Quotes: the lines of two states; walked. Quotes: what is unlike in two states; walked. Quotes: what is unlike of two states: positions, debts, offers; walked. Quotes: what is left otherwise of offers; walked. -/
import Derived.Test.YtipjchbdogmccaaGreatBatch
import Derived.Test.YtipjchbdogmccaaGreatStands
import Derived.Laws.EntriesVeiled
import Derived.Test.YtipjchbdogmccaaGreatQo
set_option maxHeartbeats 6400000
set_option maxRecDepth 100000
namespace Go.Proofs.YtipjchbdogmccaaGreat
open Go.RowKit Go.Rg Go.BigFrame
abbrev Mv:=Int×Int×Int×Int
def X8 (x:Mv):List Value:=[.int .u8 x.1,.int .u8 x.2.1,.int .i64 x.2.2.1,.int .i64 x.2.2.2]
abbrev Dt:=Int×Int×Int×Int×Int
def Yf (x:Dt):List Value:=[.int .u8 x.1,.int .u8 x.2.1,.int .u8 x.2.2.1,.int .i64 x.2.2.2.1,.int .i64 x.2.2.2.2]
def Dt.k (d:Dt):K3:=(d.1,d.2.1,d.2.2.1)
abbrev Lf:=Int×Int×Int
def Zh3 (x:Lf):List Value:=[.int .u64 x.1,.int .i64 x.2.1,.int .i64 x.2.2]
def Zcn:List Int:=(List.range 16).map fun (i:Nat)=>(i:Int)+1
def Jf:List Mv:=(List.range 128).map fun i=>(((i / 8:Nat):Int)+1,((i%8:Nat):Int)+1,0,0)
def Ji:List Dt:=(List.range 2048).map fun i=>(((i / 16%16:Nat):Int)+1,((i%16:Nat):Int)+1,((i / 256:Nat):Int)+1,0,0)
theorem Zr3 (base n:Nat) (v:Value) (xs:List Value) (w:World) (h:Zn w base 4 v n xs):Calls Tryz.prog 122 #[v] w (fun e w'=>∃v',e= .returned v'/\Ext w w'/\Zn w' base 4 v' n xs):=by
 obtain ⟨A,cap,rfl,h1,h2,h3,h4⟩:=h
 rcases h4 with rfl | ⟨g,rfl,hb,hlt,hc⟩
 ·cases A
  rotate_left
  focus rename_i a
  all_goals
   go_enter Tryz.func122,Tryz.ntmps122
   go_wp2
   go_ret
   exact ⟨_,rfl,Ext.refl _,_,_,rfl,Nat.le_refl _,by unfold maxLen;omega,h3,.inl rfl⟩
 have hn63:(n:Int)<=9223372036854775807:=by unfold maxLen at h2;omega
 go_enter Tryz.func122,Tryz.ntmps122
 go_wp2
 go_ret
 exact ⟨_,rfl,Ext.refl _,_,_,rfl,Nat.le_refl _,Nat.le_trans h1 h2,h3,.inr ⟨g,rfl,hb,hlt,hc⟩⟩
theorem Zr5 (base n:Nat) (v:Value) (xs:List Value) (w:World) (h:Zn w base 5 v n xs):Calls Tryz.prog 125 #[v] w (fun e w'=>∃v',e= .returned v'/\Ext w w'/\Zn w' base 5 v' n xs):=by
 obtain ⟨A,cap,rfl,h1,h2,h3,h4⟩:=h
 rcases h4 with rfl | ⟨g,rfl,hb,hlt,hc⟩
 ·cases A
  rotate_left
  focus rename_i a
  all_goals
   go_enter Tryz.func125,Tryz.ntmps125
   go_wp2
   go_ret
   exact ⟨_,rfl,Ext.refl _,_,_,rfl,Nat.le_refl _,by unfold maxLen;omega,h3,.inl rfl⟩
 have hn63:(n:Int)<=9223372036854775807:=by unfold maxLen at h2;omega
 go_enter Tryz.func125,Tryz.ntmps125
 go_wp2
 go_ret
 exact ⟨_,rfl,Ext.refl _,_,_,rfl,Nat.le_refl _,Nat.le_trans h1 h2,h3,.inr ⟨g,rfl,hb,hlt,hc⟩⟩
theorem Zr4 (base n:Nat) (v:Value) (xs:List Value) (w:World) (h:Zn w base 3 v n xs):Calls Tryz.prog 135 #[v] w (fun e w'=>∃v',e= .returned v'/\Ext w w'/\Zn w' base 3 v' n xs):=by
 obtain ⟨A,cap,rfl,h1,h2,h3,h4⟩:=h
 rcases h4 with rfl | ⟨g,rfl,hb,hlt,hc⟩
 ·cases A
  rotate_left
  focus rename_i a
  all_goals
   go_enter Tryz.func135,Tryz.ntmps135
   go_wp2
   go_ret
   exact ⟨_,rfl,Ext.refl _,_,_,rfl,Nat.le_refl _,by unfold maxLen;omega,h3,.inl rfl⟩
 have hn63:(n:Int)<=9223372036854775807:=by unfold maxLen at h2;omega
 go_enter Tryz.func135,Tryz.ntmps135
 go_wp2
 go_ret
 exact ⟨_,rfl,Ext.refl _,_,_,rfl,Nat.le_refl _,Nat.le_trans h1 h2,h3,.inr ⟨g,rfl,hb,hlt,hc⟩⟩
def Zqu (k:Nat):List Int:=(List.range 16).map fun (j:Nat)=>if j<k then (j:Int)+1 else 0
theorem parW_set:∀k,k<16->(Zqu k).set k ((k:Int)+1)=Zqu (k+1):=by decide
theorem parW_full:Zqu 16=Zcn:=by decide
theorem Zf2 {w:World} {base size n:Nat} {e:TypeId} {v:Value} {xs:List Value} (h:w.ownsRow base e size v n xs) (hn:0<n):∃b cap,v= .slice (some ⟨b,0,none⟩) n cap/\base<=b/\b<w.heap.size/\n<=cap:=by
 rcases h.2 with ⟨_,h1,_⟩ | ⟨b,cap,cur,hv,hb,hg,h1,_⟩
 ·omega
 exact ⟨b,cap,hv,hb,Zg hg,h1⟩
theorem Zby (w:World):Calls Tryz.prog 123 #[] w (fun e w'=>∃v,e= .returned v/\Ext w w'/\w'.ownsRow w.heap.size 24 1 v 16 (Zcn.map (Value.int .u8))):=by
 obtain ⟨i0,hi,hz0,hz1,hz2⟩:=info_parts Zbv
 have hxs:(madeCells (Value.int .u8 0).cells (16*1)).toList=(Zqu 0).map (Value.int .u8):=by
  show (madeCells #[.int .u8 0] (16*1)).toList=_
  rw [Rg.Y8]
  kernel_rfl
 have hb2:i0.bytes*16<=281474976710656:=by rw [hz2];omega
 go_enter Tryz.func123,Tryz.ntmps123
 go_wp2_with (first
  | (at_make;refine Zaa rfl _ _ 43 rfl w.heap.size 24 i0 _ 1 Tryz.underlying43 hi hz0 hz1 _ _ 16 rfl rfl hb2 (by unfold maxLen;omega) (Nat.le_refl _) _ hxs ?_
     intro w2 e2 hlt2 hown2))
 obtain ⟨g,hg⟩:∃g,w.heap.size=g:=⟨_,rfl⟩
 rw [hg] at hown2 hlt2 ⊢
 go_loopw [2,6,7,8,9,10,11,12,13,14,15] (fun _ iv _ _ _ _ _ _ _ _ _ wr=>∃k:Nat,k<=16/\iv= .int .i64 k/\Ext w wr/\wr.ownsRow g 24 1 (.slice (some ⟨g,0,none⟩) 16 16) 16 ((Zqu k).map (Value.int .u8))) (fun _ iv _ _ _ _ _ _ _ _ _ _=>16-(intOf iv).toNat)
 case atStart=>exact ⟨0,Nat.zero_le _,rfl,e2,hown2⟩
 clear hown2 e2
 obtain ⟨k,hk,rfl,er,hown⟩:=hrel
 by_cases hkn:k<16
 ·have hj1:(0:Int)<=(k:Int):=by omega
  have hj2:(k:Int)<16:=by omega
  have hfr:=frozen_of_row wr g k _ _ (Us hown).choose_spec
  have hc:=(Yc hown).2 k (.int .u8 ((Zqu k).getD k 0)) (by rw [List.getElem?_map,List.getD_eq_getElem?_getD,List.getElem?_eq_getElem (by simp [Zqu];exact hkn)];rfl)
  have hs:=Zad hown k (.int .u8 ((k:Int)+1))
  rw [<-List.map_set,parW_set k hkn] at hs
  have hE:Ext w (wr.setCell ⟨g,k,none⟩ (.int .u8 ((k:Int)+1))):=Below.setCell er (by rw [hg];exact Nat.le_refl _) _
  go_wp2_with fail
  exact ⟨⟨k+1,by omega,by go_num,hE,hs⟩,by simp [intOf];omega⟩
 have hk':k=16:=by omega
 subst hk'
 go_wp2_with fail
 go_ret
 rw [parW_full] at hown
 exact ⟨_,rfl,er,by rw [hg];exact hown⟩
theorem Zqa (k:Nat) (hk:k<128):(Jf.take (k+1)).flatMap X8=(Jf.take k).flatMap X8++[.int .u8 (((k / 8:Nat):Int)+1),.int .u8 (((k%8:Nat):Int)+1),.int .i64 0,.int .i64 0]:=by
 have hl:Jf.length=128:=by simp [Jf]
 rw [List.take_succ_eq_append_getElem (by omega),List.flatMap_append]
 simp only [List.flatMap_cons,List.flatMap_nil,List.append_nil]
 congr 1
 simp [Jf,X8]
theorem mv_info:(Tryz.prog.info? 125).map (fun i=>(i.zero,i.size,i.bytes))=some (some (.agg #[.int .u8 0,.int .u8 0,.int .i64 0,.int .i64 0]),4,24):=by kernel_rfl
theorem spots_any (w:World):Calls Tryz.prog 78 #[] w (fun e w'=>∃v,e= .returned v/\Ext w w'/\w'.ownsRow w.heap.size 125 4 v 128 (Jf.flatMap X8)):=by
 obtain ⟨i0,hi,hz0,hz1,hz2⟩:=info_parts mv_info
 go_enter Tryz.func78,Tryz.ntmps78
 go_wp2_with fail
 refine (Zby w).mono ?_
 rintro e w1 ⟨v,rfl,e1,hp⟩
 obtain ⟨PB,pcap,rfl,hpb1,hpb2,hpb3⟩:=Zf2 hp (by omega)
 have hs1:=e1.size
 have HP:=Lib.hid (Yc hp)
 clear hp
 go_wp2_with fail
 go_loopw [0,2,3,6,7,8,9,10,11,12,13,14,15,16,17,18,19,20,21,22] (fun ov _ _ iv _ _ _ _ _ _ _ _ _ _ _ _ _ _ _ _ wr=>∃k:Nat,k<=16/\iv= .int .i64 k/\Ext w1 wr/\wr.ownsRow w1.heap.size 125 4 ov (k*8) ((Jf.take (k*8)).flatMap X8)) (fun _ _ _ iv _ _ _ _ _ _ _ _ _ _ _ _ _ _ _ _ _=>16-(intOf iv).toNat)
 case atStart=>exact ⟨0,Nat.zero_le _,rfl,Ext.refl _,World.ownsRow_nil _ _ _ _⟩
 obtain ⟨k,hk,rfl,er,hown⟩:=hrel
 obtain ⟨A0,cap0,rfl⟩:=Z7 hown
 by_cases hkn:k<16
 ·have hj1:(0:Int)<=(k:Int):=by omega
  have hj2:(k:Int)<16:=by omega
  have hc:wr.cell? ⟨PB,k,none⟩=some (.int .u8 ((k:Int)+1)):=(Zf (er.block HP.out.1)).trans (HP.out.2 k _ (by simp [Zcn,hkn]))
  go_wp2_with fail
  go_loopw [0,3,10,11,12,13,14,15,16,17,18,19,20,21] (fun ov _ jv _ _ _ _ _ _ _ _ _ _ _ wr=>∃j:Nat,j<=8/\jv= .int .i64 j/\Ext w1 wr/\wr.ownsRow w1.heap.size 125 4 ov (k*8+j) ((Jf.take (k*8+j)).flatMap X8)) (fun _ _ jv _ _ _ _ _ _ _ _ _ _ _ _=>8-(intOf jv).toNat)
  case atStart=>exact ⟨0,Nat.zero_le _,rfl,er,hown⟩
  clear hown er hc
  obtain ⟨j,hj,rfl,er,hown⟩:=hrel
  obtain ⟨A1,cap1,rfl⟩:=Z7 hown
  by_cases hjn:j<8
  ·have hm1:(0:Int)<=(j:Int):=by omega
   have hm2:(j:Int)<8:=by omega
   have hnx:=Zqa (k*8+j) (by omega)
   rw [show (k*8+j) / 8=k by omega,show (k*8+j)%8=j by omega] at hnx
   have HNX:=Lib.hid hnx
   clear hnx
   have hws:=er.size
   go_wp2_with (first
    | (at_builtin;refine wpList_append_own _ rfl _ _ 112 rfl w1.heap.size 125 i0 (.agg #[.int .u8 0,.int .u8 0,.int .i64 0,.int .i64 0]) 4 24 Tryz.underlying112 hi hz0 hz1 hz2 rfl (by decide) (.slice A1 (k*8+j) cap1) (k*8+j) _ rfl (Zo hown (Zc _ _)) ⟨wr.heap.size,0,none⟩ 1 1 [.int .u8 ((k:Int)+1),.int .u8 ((j:Int)+1),.int .i64 0,.int .i64 0] rfl rfl (Uv wr [.int .u8 ((k:Int)+1),.int .u8 ((j:Int)+1),.int .i64 0,.int .i64 0] _) (fun x hx=>by simp only [List.mem_cons,List.not_mem_nil,or_false] at hx;rcases hx with rfl | rfl | rfl | rfl<;>rfl) (by unfold maxLen;omega) (by omega) (by simp;omega) ?_
       intro v' w3 hown' hgrow3 hnil3
       have E3:Ext w1 w3:=(Y6 (S:=[]) (Kx (Xt er (Zc wr (.cells #[.int .u8 ((k:Int)+1),.int .u8 ((j:Int)+1),.int .i64 0,.int .i64 0] 125)))) hgrow3 (fun q hq=>.inr (hown.lt q hq).1)).ext))
   exact ⟨⟨j+1,by omega,by go_num,E3,by rw [<-Nat.add_assoc,HNX.out];exact hown'⟩,by simp [intOf];omega⟩
  have hj':j=8:=by omega
  subst hj'
  go_wp2_with fail
  exact ⟨⟨k+1,by omega,by go_num,er,by rw [show (k+1)*8=k*8+8 by omega];exact hown⟩,by simp [intOf];omega⟩
 have hk':k=16:=by omega
 subst hk'
 go_wp2_with fail
 go_ret
 rw [show 16*8=128 by rfl,List.take_of_length_le (by simp [Jf])] at hown
 exact ⟨_,rfl,Xt e1 er,Uj hown hs1⟩
theorem Zdn {f:Nat} (h:Zay f) (args:Array Value) (w:World):(callFunc f args).run Tryz.prog w= .ok (.enter f args) w:=by
 obtain ⟨fn,h1,h2,h3⟩:=h
 have hb':fn.body≠none:=by intro h;simp [h] at h2
 have hn':fn.name≠ "runtime.NumGoroutine":=by simpa using h3
 simp [go_sem,callFunc,h1,hb',hn',Result.andThen]
def U6 {α:Type} (p:α->Bool):List α->Nat->Int
 | [],_=>-1
 | x::l,k=>if p x then (k:Int) else U6 p l (k+1)
theorem Zgh {α:Type} (p:α->Bool) (x:α) (l:List α) (k:Nat):U6 p (x::l) k=if p x then (k:Int) else U6 p l (k+1):=rfl
theorem Zo0 {α:Type} (p:α->Bool):∀(l:List α) (k:Nat),decide (0<=U6 p l k)=l.any p
 | [],_=>rfl
 | x::l,k=>by
   unfold U6
   rw [List.any_cons]
   by_cases h:p x=true
   ·rw [if_pos h,h]
    simp
   rw [if_neg h,Zo0 p l (k+1)]
   rw [Bool.not_eq_true] at h
   rw [h,Bool.false_or]
theorem Zbp {α:Type} (p:α->Bool):∀(l:List α) (k:Nat),(U6 p l k= -1/\l.find? p=none)\/∃j,∃hj:j<l.length,U6 p l k=((k+j:Nat):Int)/\l.find? p=some (l[j]'hj)
 | [],_=>.inl ⟨rfl,rfl⟩
 | x::l,k=>by
   unfold U6
   by_cases h:p x=true
   ·rw [if_pos h,List.find?_cons_of_pos h]
    exact .inr ⟨0,by simp,rfl,rfl⟩
   rw [if_neg h,List.find?_cons_of_neg h]
   rcases Zbp p l (k+1) with h1 | ⟨j,hj,h1,h2⟩
   ·exact .inl h1
   exact .inr ⟨j+1,by simpa using hj,by rw [h1];congr 1;omega,by simpa using h2⟩
def V5 (x:Dt):Value:= .agg #[.int .u8 x.1,.int .u8 x.2.1,.int .u8 x.2.2.1,.int .i64 x.2.2.2.1,.int .i64 x.2.2.2.2]
def Zfc (l:List Dt):List Value:=l.flatMap Yf
theorem dtsC_at (l:List Dt) (k j:Nat) (hk:k<l.length) (hj:j<5):(Zfc l)[k*5+j]? =(Yf (l[k]'hk))[j]? :=Za8 Yf 5 (fun _=>rfl) l k j hk hj
theorem Zmy (w:World) (g k:Nat) (l:List Dt) (hk:k<l.length) (h:∀j u,(Zfc l)[j]? =some u->w.cell? ⟨g,j,none⟩=some u):
 (loadVar 127 ⟨g,k*5,none⟩).run Tryz.prog w= .ok (V5 (l[k]'hk)) w:=
 Zs w g (k*5) 127 (Yf (l[k]'hk)) _ (fun j v hv=>by
  have hj:j<5:=(List.getElem?_eq_some_iff.1 hv).1
  exact h _ _ (by rw [dtsC_at l k j hk hj];exact hv)) Tryz.underlying127 rfl (by kernel_rfl)
theorem Zlw (base:Nat) (v:Value) (l:List Ln) (f:Nat) (cap:Array Value) (p:Ln->Bool) (w:World) (h:Zn w base 5 v l.length (Ym l)) (hf:Zay f) (hp:∀x∈l,∀W,Ext w W->Calls Tryz.prog f (#[Ju x]++cap) W (Ret (.bool (p x)) W)):
 Calls Tryz.prog 133 #[v,.func (.func f) #[] cap] w (Ret (.int .i64 (U6 p l 0)) w):=by
 obtain ⟨A,cp,rfl,h1,h2,h3,h4⟩:=h
 have hn63:(l.length:Int)<=9223372036854775807:=by unfold maxLen at h2;omega
 have hcf:=Zdn hf
 go_enter Tryz.func133,Tryz.ntmps133
 go_wp2
 go_loopw [5,8] (fun _ i wr=>∃k:Nat,k<=l.length/\i= .int .i64 k/\Ext w wr/\U6 p l 0=U6 p (l.drop k) k) (fun _ i _=>l.length-(intOf i).toNat)
 case atStart=>exact ⟨0,Nat.zero_le _,rfl,Ext.refl _,rfl⟩
 obtain ⟨k,hk,rfl,e1,hid⟩:=hrel
 by_cases hkn:k<l.length
 ·rw [List.drop_eq_getElem_cons hkn,Zgh] at hid
  rcases h4 with h4 | ⟨g,rfl,hb,hlt,hcell⟩
  ·omega
  have hj1:(0:Int)<=(k:Int):=by omega
  have hj2:(k:Int)<(l.length:Int):=by omega
  have hld:=Ze2 wr g k l hkn (fun j u hu=>(Zf (e1.block hlt)).trans (hcell j u hu))
  have cp1:=hp _ (List.getElem_mem hkn) wr e1
  clear hp hcell
  generalize (l[k]'hkn)=x at *
  by_cases hq:p x=true
  ·rw [if_pos hq] at hid
   rw [hq] at cp1
   have HID:=Lib.hid hid
   clear hid
   go_wp2_with (refine Zd rfl 151 _ _ _ rfl rfl hld ?_)
   refine cp1.mono ?_
   rintro e w5 ⟨rfl,e5⟩
   go_wp2
   go_ret
   exact ⟨by show _=Ending.returned (.int .i64 (U6 p l 0));rw [HID.out];rfl,Xt e1 e5⟩
  rw [if_neg hq] at hid
  rw [Bool.not_eq_true] at hq
  rw [hq] at cp1
  have HID:=Lib.hid hid
  clear hid
  go_wp2_with (refine Zd rfl 151 _ _ _ rfl rfl hld ?_)
  refine cp1.mono ?_
  rintro e w5 ⟨rfl,e5⟩
  go_wp2
  exact ⟨⟨k+1,by omega,by go_num,Xt e1 e5,HID.out⟩,by simp [intOf];omega⟩
 have hk':k=l.length:=by omega
 subst hk'
 rw [List.drop_length] at hid
 have HID:=Lib.hid hid
 clear hid
 go_wp2
 go_ret
 exact ⟨by show _=Ending.returned (.int .i64 (U6 p l 0));rw [HID.out];rfl,e1⟩
theorem idxOf_any (base:Nat) (v:Value) (l:List Off) (f:Nat) (cap:Array Value) (p:Off->Bool) (w:World) (h:Zn w base 7 v l.length (Zi l)) (hf:Zay f) (hp:∀x∈l,∀W,Ext w W->Calls Tryz.prog f (#[Off.agg x]++cap) W (Ret (.bool (p x)) W)):
 Calls Tryz.prog 140 #[v,.func (.func f) #[] cap] w (Ret (.int .i64 (U6 p l 0)) w):=by
 obtain ⟨A,cp,rfl,h1,h2,h3,h4⟩:=h
 have hn63:(l.length:Int)<=9223372036854775807:=by unfold maxLen at h2;omega
 have hcf:=Zdn hf
 go_enter Tryz.func140,Tryz.ntmps140
 go_wp2
 go_loopw [5,8] (fun _ i wr=>∃k:Nat,k<=l.length/\i= .int .i64 k/\Ext w wr/\U6 p l 0=U6 p (l.drop k) k) (fun _ i _=>l.length-(intOf i).toNat)
 case atStart=>exact ⟨0,Nat.zero_le _,rfl,Ext.refl _,rfl⟩
 obtain ⟨k,hk,rfl,e1,hid⟩:=hrel
 by_cases hkn:k<l.length
 ·rw [List.drop_eq_getElem_cons hkn,Zgh] at hid
  rcases h4 with h4 | ⟨g,rfl,hb,hlt,hcell⟩
  ·omega
  have hj1:(0:Int)<=(k:Int):=by omega
  have hj2:(k:Int)<(l.length:Int):=by omega
  have hld:=Zbn wr g k l hkn (fun j u hu=>(Zf (e1.block hlt)).trans (hcell j u hu))
  have cp1:=hp _ (List.getElem_mem hkn) wr e1
  clear hp hcell
  generalize (l[k]'hkn)=x at *
  by_cases hq:p x=true
  ·rw [if_pos hq] at hid
   rw [hq] at cp1
   have HID:=Lib.hid hid
   clear hid
   go_wp2_with (refine Zd rfl 153 _ _ _ rfl rfl hld ?_)
   refine cp1.mono ?_
   rintro e w5 ⟨rfl,e5⟩
   go_wp2
   go_ret
   exact ⟨by show _=Ending.returned (.int .i64 (U6 p l 0));rw [HID.out];rfl,Xt e1 e5⟩
  rw [if_neg hq] at hid
  rw [Bool.not_eq_true] at hq
  rw [hq] at cp1
  have HID:=Lib.hid hid
  clear hid
  go_wp2_with (refine Zd rfl 153 _ _ _ rfl rfl hld ?_)
  refine cp1.mono ?_
  rintro e w5 ⟨rfl,e5⟩
  go_wp2
  exact ⟨⟨k+1,by omega,by go_num,Xt e1 e5,HID.out⟩,by simp [intOf];omega⟩
 have hk':k=l.length:=by omega
 subst hk'
 rw [List.drop_length] at hid
 have HID:=Lib.hid hid
 clear hid
 go_wp2
 go_ret
 exact ⟨by show _=Ending.returned (.int .i64 (U6 p l 0));rw [HID.out];rfl,e1⟩
theorem idxDt_any (base:Nat) (v:Value) (l:List Dt) (f:Nat) (cap:Array Value) (p:Dt->Bool) (w:World) (h:Zn w base 5 v l.length (Zfc l)) (hf:Zay f) (hp:∀x∈l,∀W,Ext w W->Calls Tryz.prog f (#[V5 x]++cap) W (Ret (.bool (p x)) W)):
 Calls Tryz.prog 161 #[v,.func (.func f) #[] cap] w (Ret (.int .i64 (U6 p l 0)) w):=by
 obtain ⟨A,cp,rfl,h1,h2,h3,h4⟩:=h
 have hn63:(l.length:Int)<=9223372036854775807:=by unfold maxLen at h2;omega
 have hcf:=Zdn hf
 go_enter Tryz.func161,Tryz.ntmps161
 go_wp2
 go_loopw [5,8] (fun _ i wr=>∃k:Nat,k<=l.length/\i= .int .i64 k/\Ext w wr/\U6 p l 0=U6 p (l.drop k) k) (fun _ i _=>l.length-(intOf i).toNat)
 case atStart=>exact ⟨0,Nat.zero_le _,rfl,Ext.refl _,rfl⟩
 obtain ⟨k,hk,rfl,e1,hid⟩:=hrel
 by_cases hkn:k<l.length
 ·rw [List.drop_eq_getElem_cons hkn,Zgh] at hid
  rcases h4 with h4 | ⟨g,rfl,hb,hlt,hcell⟩
  ·omega
  have hj1:(0:Int)<=(k:Int):=by omega
  have hj2:(k:Int)<(l.length:Int):=by omega
  have hld:=Zmy wr g k l hkn (fun j u hu=>(Zf (e1.block hlt)).trans (hcell j u hu))
  have cp1:=hp _ (List.getElem_mem hkn) wr e1
  clear hp hcell
  generalize (l[k]'hkn)=x at *
  by_cases hq:p x=true
  ·rw [if_pos hq] at hid
   rw [hq] at cp1
   have HID:=Lib.hid hid
   clear hid
   go_wp2_with (refine Zd rfl 127 _ _ _ rfl rfl hld ?_)
   refine cp1.mono ?_
   rintro e w5 ⟨rfl,e5⟩
   go_wp2
   go_ret
   exact ⟨by show _=Ending.returned (.int .i64 (U6 p l 0));rw [HID.out];rfl,Xt e1 e5⟩
  rw [if_neg hq] at hid
  rw [Bool.not_eq_true] at hq
  rw [hq] at cp1
  have HID:=Lib.hid hid
  clear hid
  go_wp2_with (refine Zd rfl 127 _ _ _ rfl rfl hld ?_)
  refine cp1.mono ?_
  rintro e w5 ⟨rfl,e5⟩
  go_wp2
  exact ⟨⟨k+1,by omega,by go_num,Xt e1 e5,HID.out⟩,by simp [intOf];omega⟩
 have hk':k=l.length:=by omega
 subst hk'
 rw [List.drop_length] at hid
 have HID:=Lib.hid hid
 clear hid
 go_wp2
 go_ret
 exact ⟨by show _=Ending.returned (.int .i64 (U6 p l 0));rw [HID.out];rfl,e1⟩
def StB (W:World) (sb:Nat) (l:Zr) (os:List Off):Prop:=
 ∃v1 v2 v3 nx,W.heap[sb]? =some (.cells #[v1,v2,v3,nx] 47 (0,0))/\Zn W 0 5 v2 l.length (Ym l)/\Zn W 0 7 v3 os.length (Zi os)
theorem StB.ext {W W':World} {sb:Nat} {l:Zr} {os:List Off} (h:StB W sb l os) (k:Ext W W'):StB W' sb l os:=
 let ⟨v1,v2,v3,nx,h1,h2,h3⟩:=h
 ⟨v1,v2,v3,nx,k.at h1,h2.ext k,h3.ext k⟩
theorem stB_new {W:World} {base:Nat} {v:Value} {L:Led} {B:Bk} (h:StSl W base v L B):∃v1 v2 v3,v= .agg #[v1,v2,v3,.int .u64 B.next]/\(∃A n c,v1= .slice A n c)/\(∃A n c,v2= .slice A n c)/\(∃A n c,v3= .slice A n c)/\Zn W 0 5 v2 (Z2 L.lines).length (Ym (Z2 L.lines))/\Zn W 0 7 v3 B.offs.length (Zi B.offs):=by
 obtain ⟨v1,v2,v3,e,h1,h2,h3⟩:=h
 obtain ⟨A1,c1,e1,_⟩:=id h1
 obtain ⟨A2,c2,e2,_⟩:=id h2
 obtain ⟨A3,c3,e3,_⟩:=id h3
 exact ⟨v1,v2,v3,e,⟨A1,_,c1,e1⟩,⟨A2,_,c2,e2⟩,⟨A3,_,c3,e3⟩,h2.low (Nat.zero_le _),Zn.low h3 (Nat.zero_le _)⟩
def RetFn (f:Nat) (l:Zr) (os:List Off) (w:World) (e:Ending) (w':World):Prop:=∃b,e= .returned (.func (.func f) #[] #[.pointer (some ⟨b,0,none⟩)])/\Ext w w'/\StB w' b l os
theorem Zg5 (v1 v2 v3:Value) (nx:Int) (l:Zr) (os:List Off) (w:World) (q1:∃A n c,v1= .slice A n c) (q2:∃A n c,v2= .slice A n c) (q3:∃A n c,v3= .slice A n c) (h2:Zn w 0 5 v2 l.length (Ym l)) (h3:Zn w 0 7 v3 os.length (Zi os)):
 Calls Tryz.prog 79 #[.agg #[v1,v2,v3,.int .u64 nx]] w (RetFn 124 l os w):=by
 obtain ⟨A1,n1,c1,rfl⟩:=q1
 obtain ⟨A2,n2,c2,rfl⟩:=q2
 obtain ⟨A3,n3,c3,rfl⟩:=q3
 have hmf:∀(fn:Fn) (first cap:Array Value) (w:World),(Instr.makeFunc fn first cap).run Tryz.prog w= .ok (.func fn first cap) w:=fun _ _ _ _=>rfl
 have e0:=Zc w (.cells #[.slice A1 n1 c1,.slice A2 n2 c2,.slice A3 n3 c3,.int .u64 nx] 47)
 have r0:=Zb w (.cells #[.slice A1 n1 c1,.slice A2 n2 c2,.slice A3 n3 c3,.int .u64 nx] 47)
 go_enter Tryz.func79,Tryz.ntmps79
 go_wp2
 go_ret
 exact ⟨w.heap.size,rfl,e0,_,_,_,_,r0,h2.ext e0,h3.ext e0⟩
theorem mk_debt (v1 v2 v3:Value) (nx:Int) (l:Zr) (os:List Off) (w:World) (q1:∃A n c,v1= .slice A n c) (q2:∃A n c,v2= .slice A n c) (q3:∃A n c,v3= .slice A n c) (h2:Zn w 0 5 v2 l.length (Ym l)) (h3:Zn w 0 7 v3 os.length (Zi os)):
 Calls Tryz.prog 83 #[.agg #[v1,v2,v3,.int .u64 nx]] w (RetFn 132 l os w):=by
 obtain ⟨A1,n1,c1,rfl⟩:=q1
 obtain ⟨A2,n2,c2,rfl⟩:=q2
 obtain ⟨A3,n3,c3,rfl⟩:=q3
 have hmf:∀(fn:Fn) (first cap:Array Value) (w:World),(Instr.makeFunc fn first cap).run Tryz.prog w= .ok (.func fn first cap) w:=fun _ _ _ _=>rfl
 have e0:=Zc w (.cells #[.slice A1 n1 c1,.slice A2 n2 c2,.slice A3 n3 c3,.int .u64 nx] 47)
 have r0:=Zb w (.cells #[.slice A1 n1 c1,.slice A2 n2 c2,.slice A3 n3 c3,.int .u64 nx] 47)
 go_enter Tryz.func83,Tryz.ntmps83
 go_wp2
 go_ret
 exact ⟨w.heap.size,rfl,e0,_,_,_,_,r0,h2.ext e0,h3.ext e0⟩
theorem mk_left (v1 v2 v3:Value) (nx:Int) (l:Zr) (os:List Off) (w:World) (q1:∃A n c,v1= .slice A n c) (q2:∃A n c,v2= .slice A n c) (q3:∃A n c,v3= .slice A n c) (h2:Zn w 0 5 v2 l.length (Ym l)) (h3:Zn w 0 7 v3 os.length (Zi os)):
 Calls Tryz.prog 87 #[.agg #[v1,v2,v3,.int .u64 nx]] w (RetFn 139 l os w):=by
 obtain ⟨A1,n1,c1,rfl⟩:=q1
 obtain ⟨A2,n2,c2,rfl⟩:=q2
 obtain ⟨A3,n3,c3,rfl⟩:=q3
 have hmf:∀(fn:Fn) (first cap:Array Value) (w:World),(Instr.makeFunc fn first cap).run Tryz.prog w= .ok (.func fn first cap) w:=fun _ _ _ _=>rfl
 have e0:=Zc w (.cells #[.slice A1 n1 c1,.slice A2 n2 c2,.slice A3 n3 c3,.int .u64 nx] 47)
 have r0:=Zb w (.cells #[.slice A1 n1 c1,.slice A2 n2 c2,.slice A3 n3 c3,.int .u64 nx] 47)
 go_enter Tryz.func87,Tryz.ntmps87
 go_wp2
 go_ret
 exact ⟨w.heap.size,rfl,e0,_,_,_,_,r0,h2.ext e0,h3.ext e0⟩
theorem Zg6 (x:Ln) (d:Dt) (w:World):Calls Tryz.prog 129 #[Ju x,V5 d] w (Ret (.bool (x.1==d.k)) w):=by
 obtain ⟨⟨x0,x1,x2⟩,x3,x4⟩:=x
 obtain ⟨d0,d1,d2,d3,d4⟩:=d
 have hk:(((x0,x1,x2):K3)==Dt.k (d0,d1,d2,d3,d4))=((x0==d0)&&((x1==d1)&&(x2==d2))):=rfl
 simp only [Ju,V5]
 rw [hk]
 have e0:Ext w ((w.alloc (.cells #[.int .u8 x0,.int .u8 x1,.int .u8 x2,.int .i64 x3,.int .i64 x4] 151)).alloc (.cells #[.int .u8 d0,.int .u8 d1,.int .u8 d2,.int .i64 d3,.int .i64 d4] 127)):=Xt (Zc _ _) (Zc _ _)
 cases h0:(x0==d0)
 rotate_left
 focus
  cases h1:(x1==d1)
  rotate_left
  focus
   cases h2:(x2==d2)
   rotate_left
 all_goals
  go_enter Tryz.func129,Tryz.ntmps129
  go_wp2
  go_ret
  exact ⟨rfl,e0⟩
theorem lm_any (x:Ln) (d:Dt) (b:Nat) (w:World) (hb:w.heap[b]? =some (.cells (Yf d).toArray 127 (0,0))):
 Calls Tryz.prog 128 #[Ju x,.pointer (some ⟨b,0,none⟩)] w (Ret (.bool (x.1==d.k)) w):=by
 have hm:=fun W=>Zg6 x d W
 obtain ⟨⟨x0,x1,x2⟩,x3,x4⟩:=x
 obtain ⟨d0,d1,d2,d3,d4⟩:=d
 simp only [Ju,V5,Yf] at *
 generalize (((x0,x1,x2):K3)==Dt.k (d0,d1,d2,d3,d4))=q at *
 obtain ⟨W,hW,e0,r0,hs0⟩:=Y8 w #[.int .u8 x0,.int .u8 x1,.int .u8 x2,.int .i64 x3,.int .i64 x4] 151
 have hb0:=e0.at hb
 have l1:=run_loadVar_row W w.heap.size _ _ _ _ _ r0 Tryz.underlying151 rfl (by kernel_rfl)
 have l2:=run_loadVar_row W b _ _ _ _ _ hb0 Tryz.underlying127 rfl (by kernel_rfl)
 go_enter Tryz.func128,Tryz.ntmps128
 go_wp2_with (first
  | (rw [hW])
  | (refine Zd rfl 151 _ _ _ rfl rfl l1 ?_)
  | (refine Zd rfl 127 _ _ _ rfl rfl l2 ?_))
 refine (hm W).mono ?_
 rintro e w3 ⟨rfl,e3⟩
 go_wp2
 go_ret
 exact ⟨rfl,Xt e0 e3⟩
theorem dm_any (x:Ln) (d:Dt) (b:Nat) (w:World) (hb:w.heap[b]? =some (.cells (Yf d).toArray 127 (0,0))):
 Calls Tryz.prog 134 #[Ju x,.pointer (some ⟨b,0,none⟩)] w (Ret (.bool (x.1==d.k)) w):=by
 have hm:=fun W=>Zg6 x d W
 obtain ⟨⟨x0,x1,x2⟩,x3,x4⟩:=x
 obtain ⟨d0,d1,d2,d3,d4⟩:=d
 simp only [Ju,V5,Yf] at *
 generalize (((x0,x1,x2):K3)==Dt.k (d0,d1,d2,d3,d4))=q at *
 obtain ⟨W,hW,e0,r0,hs0⟩:=Y8 w #[.int .u8 x0,.int .u8 x1,.int .u8 x2,.int .i64 x3,.int .i64 x4] 151
 have hb0:=e0.at hb
 have l1:=run_loadVar_row W w.heap.size _ _ _ _ _ r0 Tryz.underlying151 rfl (by kernel_rfl)
 have l2:=run_loadVar_row W b _ _ _ _ _ hb0 Tryz.underlying127 rfl (by kernel_rfl)
 go_enter Tryz.func134,Tryz.ntmps134
 go_wp2_with (first
  | (rw [hW])
  | (refine Zd rfl 151 _ _ _ rfl rfl l1 ?_)
  | (refine Zd rfl 127 _ _ _ rfl rfl l2 ?_))
 refine (hm W).mono ?_
 rintro e w3 ⟨rfl,e3⟩
 go_wp2
 go_ret
 exact ⟨rfl,Xt e0 e3⟩
theorem Zh5 {f:Nat} {fn:Func} (h:Tryz.prog.funcs[f]? =some fn) (h2:fn.body.isNone=false) (h3:(fn.name== "runtime.NumGoroutine")=false):Zay f:=⟨fn,h,h2,h3⟩
theorem fnat_lm:Zay 128:=Zh5 Tryz.func128 rfl (by kernel_rfl)
theorem fnat_dm:Zay 134:=Zh5 Tryz.func134 rfl (by kernel_rfl)
theorem fnat_os:Zay 141:=Zh5 Tryz.func141 rfl (by kernel_rfl)
theorem hmf:∀(fn:Fn) (first cap:Array Value) (w:World),(Instr.makeFunc fn first cap).run Tryz.prog w= .ok (.func fn first cap) w:=fun _ _ _ _=>rfl
theorem Zpo (v:Value) (l:Zr) (d:Dt) (b:Nat) (w:World) (h:Zn w 0 5 v l.length (Ym l)) (hb:w.heap[b]? =some (.cells (Yf d).toArray 127 (0,0))):
 Calls Tryz.prog 127 #[v,.func (.func 128) #[] #[.pointer (some ⟨b,0,none⟩)]] w (Ret (.bool (l.any fun x=>x.1==d.k)) w):=by
 have hi:=Zlw 0 v l 128 #[.pointer (some ⟨b,0,none⟩)] (fun x=>x.1==d.k) w h fnat_lm (fun x _ W k=>lm_any x d b W (k.at hb))
 have ha:=Zo0 (fun x:Ln=>x.1==d.k) l 0
 obtain ⟨A,cap,rfl,_⟩:=h
 rw [<-ha]
 generalize U6 (fun x:Ln=>x.1==d.k) l 0=ix at *
 clear ha
 go_enter Tryz.func127,Tryz.ntmps127
 go_wp2_with fail
 refine hi.mono ?_
 rintro e w1 ⟨rfl,e1⟩
 go_wp2
 go_ret
 exact ⟨by simp,e1⟩
def J8 (l:Zr) (k:K3):Bool:=l.any fun x=>x.1==k
theorem has_ln (v:Value) (l:Zr) (d:Dt) (w:World) (h:Zn w 0 5 v l.length (Ym l)):
 Calls Tryz.prog 126 #[v,V5 d] w (Ret (.bool (J8 l d.k)) w):=by
 have e0:=Zc w (.cells (Yf d).toArray 127)
 have r0:=Zb w (.cells (Yf d).toArray 127)
 have hc:=Zpo v l d w.heap.size _ (h.ext e0) r0
 obtain ⟨A,cap,rfl,_⟩:=h
 unfold J8
 generalize (l.any fun x=>x.1==d.k)=q at *
 obtain ⟨d0,d1,d2,d3,d4⟩:=d
 simp only [Yf,V5] at *
 have hm:=hmf
 go_enter Tryz.func126,Tryz.ntmps126
 go_wp2_with fail
 refine hc.mono ?_
 rintro e w1 ⟨rfl,e1⟩
 go_wp2
 go_ret
 exact ⟨rfl,Xt e0 e1⟩
theorem none_ln (hb s1 s2:Nat) (l1 l2:Zr) (o1 o2:List Off) (d:Dt) (w:World) (hh:w.heap[hb]? =some (.cells #[.func (.func 126) #[] #[]] 229 (0,0))) (h1:StB w s1 l1 o1) (h2:StB w s2 l2 o2):
 Calls Tryz.prog 131 #[V5 d,.pointer (some ⟨hb,0,none⟩),.pointer (some ⟨s1,0,none⟩),.pointer (some ⟨s2,0,none⟩)] w (Ret (.bool (!J8 l1 d.k&& !J8 l2 d.k)) w):=by
 obtain ⟨u1,u2,u3,u4,r1,k2,_⟩:=h1
 obtain ⟨v1,v2,v3,v4,r2,m2,_⟩:=h2
 obtain ⟨W,hW,e0,r0,hs0⟩:=Y8 w (Yf d).toArray 127
 have c1:=Za (j:=1) (e0.at r1) rfl
 have hc1:=has_ln u2 l1 d W (k2.ext e0)
 have hc2:=fun W2 (k:Ext W W2)=>has_ln v2 l2 d W2 (m2.ext (Xt e0 k))
 have hh0:=e0.at hh
 have r20:=e0.at r2
 obtain ⟨A1,cp1,rfl,_⟩:=k2
 obtain ⟨A2,cp2,rfl,_⟩:=m2
 generalize J8 l1 d.k=q1 at *
 generalize J8 l2 d.k=q2 at *
 obtain ⟨d0,d1,d2,d3,d4⟩:=d
 simp only [Yf,V5] at *
 have l1:=run_loadVar_row W w.heap.size _ _ _ _ _ r0 Tryz.underlying127 rfl (by kernel_rfl)
 have hcell:=Za (j:=0) hh0 rfl
 clear hh r1 r2
 cases q1 with
 | true=>
   go_enter Tryz.func131,Tryz.ntmps131
   go_wp2_with (first
    | (rw [hW])
    | (refine Zd rfl 127 _ _ _ rfl rfl l1 ?_))
   refine hc1.mono ?_
   rintro e w1 ⟨rfl,e1⟩
   go_wp2
   go_ret
   exact ⟨rfl,Xt e0 e1⟩
 | false=>
   go_enter Tryz.func131,Tryz.ntmps131
   go_wp2_with (first
    | (rw [hW])
    | (refine Zd rfl 127 _ _ _ rfl rfl l1 ?_))
   refine hc1.mono ?_
   rintro e w1 ⟨rfl,e1⟩
   have hcell:=Za (j:=0) (e1.at hh0) rfl
   have c2:=Za (j:=1) (e1.at r20) rfl
   have z0:=Za (j:=0) (e1.at r0) rfl
   have z1:=Za (j:=1) (e1.at r0) rfl
   have z2:=Za (j:=2) (e1.at r0) rfl
   have z3:=Za (j:=3) (e1.at r0) rfl
   have z4:=Za (j:=4) (e1.at r0) rfl
   have l1:=run_loadVar_row w1 w.heap.size _ _ _ _ _ (e1.at r0) Tryz.underlying127 rfl (by kernel_rfl)
   go_wp2_with (first
    | (refine Zfo 127 _ _ _ rfl rfl rfl l1 ?_))
   refine (hc2 w1 e1).mono ?_
   rintro e w2 ⟨rfl,e2⟩
   go_wp2
   go_ret
   exact ⟨by simp,Xt e0 (Xt e1 e2)⟩
def Zr0 (l:Zr) (k:K3):Int:=((l.find? fun x=>x.1==k).map fun x=>x.2.2).getD 0
theorem Zk9 (sb:Nat) (l:Zr) (os:List Off) (d:Dt) (w:World) (h:StB w sb l os):Calls Tryz.prog 132 #[V5 d,.pointer (some ⟨sb,0,none⟩)] w (Ret (.int .i64 (Zr0 l d.k)) w):=by
 obtain ⟨u1,u2,u3,u4,r1,k2,_⟩:=h
 obtain ⟨W,hW,e0,r0,hs0⟩:=Y8 w (Yf d).toArray 127
 have c1:=Za (j:=1) (e0.at r1) rfl
 have hi:=Zlw 0 u2 l 134 #[.pointer (some ⟨w.heap.size,0,none⟩)] (fun x=>x.1==d.k) W (k2.ext e0) fnat_dm (fun x _ W k=>dm_any x d w.heap.size W (k.at r0))
 have hf:=Zbp (fun x:Ln=>x.1==d.k) l 0
 unfold Zr0
 have R1:=e0.at r1
 obtain ⟨A,cap,rfl,q1,q2,q3,q4⟩:=k2
 have hn63:(l.length:Int)<=9223372036854775807:=by unfold maxLen at q2;omega
 obtain ⟨d0,d1,d2,d3,d4⟩:=d
 simp only [Yf,V5] at *
 have hm:=hmf
 clear r1
 rcases hf with ⟨h1,h2⟩ | ⟨j,hj,h1,h2⟩
 ·rw [h1] at hi
  rw [h2]
  clear q4 h1 h2
  go_enter Tryz.func132,Tryz.ntmps132
  go_wp2_with (rw [hW])
  refine hi.mono ?_
  rintro e w1 ⟨rfl,e1⟩
  go_wp2
  go_ret
  exact ⟨rfl,Xt e0 e1⟩
 rw [h1,Nat.zero_add] at hi
 rw [h2]
 rcases q4 with q4 | ⟨g,rfl,hb,hlt,hcell⟩
 ·omega
 have hc:=fun W2 (k:Ext W W2)=>(Zf (a:=⟨g,j*5+4,none⟩) ((Xt e0 k).block hlt)).trans (hcell (j*5+4) _ (Zg9 l j 4 hj (by omega)))
 have hj1:(0:Int)<=(j:Int):=by omega
 have hj2:(j:Int)<(l.length:Int):=by omega
 generalize (l[j]'hj)=x at *
 obtain ⟨⟨x0,x1,x2⟩,x3,x4⟩:=x
 simp only at hc
 have HC:=Lib.hid hc
 clear h1 h2 hc hcell
 go_enter Tryz.func132,Tryz.ntmps132
 go_wp2_with (rw [hW])
 refine hi.mono ?_
 rintro e w1 ⟨rfl,e1⟩
 have c1:=Za (j:=1) (e1.at R1) rfl
 have hx:=HC.out w1 e1
 go_wp2
 go_ret
 exact ⟨rfl,Xt e0 e1⟩
theorem os_any (o:Off) (b:Nat) (s:Int) (w:World) (hb:w.heap[b]? =some (.cells #[.int .u64 s] 28 (0,0))):
 Calls Tryz.prog 141 #[o.agg,.pointer (some ⟨b,0,none⟩)] w (Ret (.bool (o.seq==s)) w):=by
 obtain ⟨o0,o1,o2,o3,o4,o5,o6⟩:=o
 obtain ⟨W,hW,e0,r0,hs0⟩:=Y8 w #[.int .u64 o0,.int .u8 o1,.int .u8 o2,.int .u8 o3,.int .i64 o4,.int .i64 o5,.int .i64 o6] 153
 have c0:=Za (j:=0) r0 rfl
 have c1:=cell_of_one (e0.at hb)
 simp only [Off.agg] at *
 go_enter Tryz.func141,Tryz.ntmps141
 go_wp2_with (rw [hW])
 go_ret
 exact ⟨rfl,e0⟩
def J5 (os:List Off) (s:Int):Int:=((Yk os s).map Off.left).getD 0
theorem Zk8 (sb:Nat) (l:Zr) (os:List Off) (s:Int) (w:World) (h:StB w sb l os):Calls Tryz.prog 139 #[.int .u64 s,.pointer (some ⟨sb,0,none⟩)] w (Ret (.int .i64 (J5 os s)) w):=by
 obtain ⟨u1,u2,u3,u4,r1,_,k2⟩:=h
 obtain ⟨W,hW,e0,r0,hs0⟩:=Y8 w #[.int .u64 s] 28
 have c1:=Za (j:=2) (e0.at r1) rfl
 have hi:=idxOf_any 0 u3 os 141 #[.pointer (some ⟨w.heap.size,0,none⟩)] (fun o=>o.seq==s) W (k2.ext e0) fnat_os (fun x _ W k=>os_any x w.heap.size s W (k.at r0))
 have hf:=Zbp (fun o:Off=>o.seq==s) os 0
 unfold J5 Yk
 have R1:=e0.at r1
 obtain ⟨A,cap,rfl,q1,q2,q3,q4⟩:=k2
 have hn63:(os.length:Int)<=9223372036854775807:=by unfold maxLen at q2;omega
 have hm:=hmf
 clear r1
 rcases hf with ⟨h1,h2⟩ | ⟨j,hj,h1,h2⟩
 ·rw [h1] at hi
  rw [h2]
  clear q4 h1 h2
  go_enter Tryz.func139,Tryz.ntmps139
  go_wp2_with (rw [hW])
  refine hi.mono ?_
  rintro e w1 ⟨rfl,e1⟩
  go_wp2
  go_ret
  exact ⟨rfl,Xt e0 e1⟩
 rw [h1,Nat.zero_add] at hi
 rw [h2]
 rcases q4 with q4 | ⟨g,rfl,hb,hlt,hcell⟩
 ·omega
 have hc:=fun W2 (k:Ext W W2)=>(Zf (a:=⟨g,j*7+4,none⟩) ((Xt e0 k).block hlt)).trans (hcell (j*7+4) _ (Y7 os j 4 hj (by omega)))
 have hj1:(0:Int)<=(j:Int):=by omega
 have hj2:(j:Int)<(os.length:Int):=by omega
 generalize (os[j]'hj)=x at *
 obtain ⟨x0,x1,x2,x3,x4,x5,x6⟩:=x
 simp only at hc
 have HC:=Lib.hid hc
 clear h1 h2 hc hcell
 go_enter Tryz.func139,Tryz.ntmps139
 go_wp2_with (rw [hW])
 refine hi.mono ?_
 rintro e w1 ⟨rfl,e1⟩
 have c1:=Za (j:=2) (e1.at R1) rfl
 have hx:=HC.out w1 e1
 go_wp2
 go_ret
 exact ⟨rfl,Xt e0 e1⟩
structure LnsOk (l:Zr):Prop where
 few:l.length<=64
 nums:∀x∈l,0<=x.2.2/\x.2.2<=1099511627776
 two:∀x∈l,x.1.1≠x.1.2.1
theorem lns_ok {L:Led} (hwf:WF L):LnsOk (Z2 L.lines):=
 ⟨by rw [Ue];exact hwf.few,fun x hx=>by have:=hwf.nums x (Zam.1 hx);omega,fun x hx=>by
  have:=(hwf.ends x (Zam.1 hx)).1
  unfold U0 at this
  simp only [decide_eq_true_eq] at this
  exact this.2.2.2.2.1⟩
def Zcp (x:Mv):Value:= .agg #[.int .u8 x.1,.int .u8 x.2.1,.int .i64 x.2.2.1,.int .i64 x.2.2.2]
theorem Zn7 (sb:Nat) (l:Zr) (os:List Off) (m:Mv) (w:World) (h:StB w sb l os) (hok:LnsOk l):Calls Tryz.prog 124 #[Zcp m,.pointer (some ⟨sb,0,none⟩)] w (Ret (.int .i64 (Ur l m.1 m.2.1)) w):=by
 obtain ⟨u1,u2,u3,u4,r1,k2,_⟩:=h
 obtain ⟨W,hW,e0,r0,hs0⟩:=Y8 w (X8 m).toArray 125
 have c1:=Za (j:=1) (e0.at r1) rfl
 obtain ⟨few,nums,two⟩:=hok
 have HBD:=Lib.hid nums
 have HTW:=Lib.hid two
 obtain ⟨A,cap,rfl,q1,q2,q3,q4⟩:=k2
 have hn63:(l.length:Int)<=9223372036854775807:=by omega
 obtain ⟨p,c,m2,m3⟩:=m
 simp only [X8,Zcp] at *
 clear nums two r1 q3
 go_enter Tryz.func124,Tryz.ntmps124
 go_wp2_with (rw [hW])
 go_loopw [4,6,10] (fun nv _ i wr=>∃k:Nat,k<=l.length/\i= .int .i64 k/\nv= .int .i64 (Ur (l.take k) p c)/\Ext W wr) (fun _ _ i _=>l.length-(intOf i).toNat)
 case atStart=>exact ⟨0,Nat.zero_le _,rfl,rfl,Ext.refl _⟩
 obtain ⟨k,hk,rfl,rfl,er⟩:=hrel
 have hpb:=Zms p c (l.take k) (fun y hy=>HBD.out y (List.mem_of_mem_take hy))
 have hpl:(l.take k).length<=64:=by rw [List.length_take];omega
 by_cases hkn:k<l.length
 ·rcases q4 with q4 | ⟨g,rfl,hb,hlt,hcell⟩
  ·omega
  have hld:=Ze2 wr g k l hkn (fun j u hu=>(Zf ((Xt e0 er).block hlt)).trans (hcell j u hu))
  have hnx:=Zlc l k hkn p c
  have hyb:=HBD.out _ (List.getElem_mem hkn)
  have hyt:=HTW.out _ (List.getElem_mem hkn)
  generalize Ur (l.take k) p c=a at *
  obtain ⟨a',ha'⟩:∃a',Ur (l.take (k+1)) p c=a':=⟨_,rfl⟩
  rw [ha'] at hnx
  have HA:=Lib.hid ha'
  clear ha'
  generalize (l[k]'hkn)=y at *
  obtain ⟨⟨y0,y1,y2⟩,y3,y4⟩:=y
  simp only [Ju] at hld
  simp only at hyb hyt
  unfold Zal at hnx
  simp only at hnx
  obtain ⟨hy1,hy2⟩:=hyb
  have ha1: -70368744177664<=a:=by omega
  have ha2:a<=70368744177664:=by omega
  have hj1:(0:Int)<=(k:Int):=by omega
  have hj2:(k:Int)<(l.length:Int):=by omega
  have hz:=Zb wr (.cells #[.int .u8 0,.int .u8 0,.int .u8 0,.int .i64 0,.int .i64 0] 151)
  have ez:=Zc wr (.cells #[.int .u8 0,.int .u8 0,.int .u8 0,.int .i64 0,.int .i64 0] 151)
  clear hpb hpl hcell
  by_cases qc:y2=c
  focus
   have qc1:(y2==c)=true:=by simpa using qc
   have qc2:(y2 !=c)=false:=by simp [bne,qc1]
   rw [if_pos qc] at hnx
   by_cases qa:y0=p
   focus
    have qa1:(y0==p)=true:=by simpa using qa
    have qb1:(y1==p)=false:=by
     have:y1≠p:=fun h=>hyt (by rw [qa,h])
     simpa using this
    rw [if_pos qa] at hnx
    have HN:=Lib.hid hnx
    clear hnx qc qa hyt
   rotate_left
   focus
    have qa1:(y0==p)=false:=by simpa using qa
    rw [if_neg qa] at hnx
    by_cases qb:y1=p
    focus
     have qb1:(y1==p)=true:=by simpa using qb
     rw [if_pos qb] at hnx
     have HN:=Lib.hid (show a'=a-y4 by omega)
    rotate_left
    focus
     have qb1:(y1==p)=false:=by simpa using qb
     rw [if_neg qb] at hnx
     have HN:=Lib.hid (show a'=a by omega)
    all_goals clear hnx qc qa qb hyt
  rotate_left 3
  focus
   have qc1:(y2==c)=false:=by simpa using qc
   have qc2:(y2 !=c)=true:=by simp [bne,qc1]
   rw [if_neg qc] at hnx
   have HN:=Lib.hid (show a'=a by omega)
   clear hnx qc hyt
  all_goals
   go_wp2_with (first
    | (refine Zd rfl 151 _ _ _ rfl rfl hld ?_)
    | (refine Ze rfl rfl 151 _ _ rfl wr.heap.size _ rfl rfl 151 _ hz (by kernel_rfl) (by rfl) (by rfl) ?_
       intro w5 hb5 ho5 hs5
       have e5:Ext wr w5:=hb5 _ _ (Nat.le_refl _) ez
       have d0:=Za (j:=0) hs5 rfl
       have d1:=Za (j:=1) hs5 rfl
       have d2:=Za (j:=2) hs5 rfl
       have d4:=Za (j:=4) hs5 rfl
       have m0:=Za (j:=0) (e5.at (er.at r0)) rfl
       have m1:=Za (j:=1) (e5.at (er.at r0)) rfl))
   exact ⟨⟨k+1,by omega,by go_num,by rw [HA.out,HN.out],Xt er e5⟩,by simp [intOf];omega⟩
 have hk':k=l.length:=by omega
 subst hk'
 rw [List.take_length]
 generalize Ur l p c=a at *
 clear q4 hpb hpl
 go_wp2
 go_ret
 exact ⟨rfl,Xt e0 er⟩
def Zfz:List Value->Nat->List Value->List Value
 | xs,_,[]=>xs
 | xs,o,v::r=>Zfz (xs.set o v) (o+1) r
theorem Zla (B:List Value):∀(vs A:List Value) (o:Nat),o+vs.length<=A.length->Zfz (A++B) o vs=Zfz A o vs++B
 | [],_,_,_=>rfl
 | v::r,A,o,h=>by
   rw [List.length_cons] at h
   rw [Zfz,Zfz,List.set_append_left _ _ (by omega),Zla B r (A.set o v) (o+1) (by rw [List.length_set];omega)]
theorem Zi0 (A:List Value):∀(vs B:List Value) (o:Nat),Zfz (A++B) (A.length+o) vs=A++Zfz B o vs
 | [],_,_=>rfl
 | v::r,B,o=>by
   rw [Zfz,Zfz,List.set_append_right _ _ (by omega),show A.length+o-A.length=o by omega,Nat.add_assoc,Zi0 A r]
theorem Zpb {α:Type} (f:α->List Value) (n:Nat) (hs:∀x,(f x).length=n) (vs:List Value) (j:Nat) (hj:j+vs.length<=n) (y:α):∀(l:List α) (k:Nat) (hk:k<l.length),Zfz (f (l[k]'hk)) j vs=f y->Zfz (l.flatMap f) (k*n+j) vs=(l.set k y).flatMap f
 | [],_,hk,_=>absurd hk (by simp)
 | a::l,0,_,h=>by
   simp only [Nat.zero_mul,Nat.zero_add,List.flatMap_cons,List.set_cons_zero,List.getElem_cons_zero] at h ⊢
   rw [Zla _ vs _ _ (by rw [hs];exact hj),h]
 | a::l,k+1,hk,h=>by
   simp only [List.flatMap_cons,List.set_cons_succ,List.getElem_cons_succ] at h ⊢
   have e:(k+1)*n+j=(f a).length+(k*n+j):=by rw [hs,Nat.add_mul];omega
   rw [e,Zi0,Zpb f n hs vs j hj y l k (by simpa using hk) h]
theorem Zoe {base size n g cap:Nat} {e:TypeId}:∀(vs xs:List Value) (o:Nat) (w:World),w.ownsRow base e size (.slice (some ⟨g,0,none⟩) n cap) n xs->(w.setCells g o vs).ownsRow base e size (.slice (some ⟨g,0,none⟩) n cap) n (Zfz xs o vs)
 | [],_,_,_,h=>h
 | v::r,xs,o,_w,h=>Zoe r (xs.set o v) (o+1) _ (Zad h o v)
theorem Zlv {S:List Nat} {a:World} {g:Nat} (hg:g∈S\/a.heap.size<=g):∀(vs:List Value) (o:Nat) (w:World),Keep S a w->Keep S a (w.setCells g o vs)
 | [],_,_,h=>h
 | v::r,o,_w,h=>Zlv hg r (o+1) _ (h.setCell (p:=⟨g,o,none⟩) hg v)
theorem own_mid {w:World} {base size n g cap:Nat} {e:TypeId} {xs:List Value} (h:w.ownsRow base e size (.slice (some ⟨g,0,none⟩) n cap) n xs) (o m:Nat) (hm:o+m<=xs.length):w.there g o m:=fun j hj=>by
 obtain ⟨cur,hrow⟩:=Us h
 refine ⟨?_,frozen_of_row _ g _ _ _ hrow⟩
 rw [(Yc h).2 _ _ (List.getElem?_eq_getElem (show o+j<xs.length by omega))]
 rfl
structure DelI {α:Type} (D:List α) (p:α->Bool) (cur:List α) (i j:Nat):Prop where
 len:cur.length=D.length
 lt:i<j
 le:j<=D.length
 front:cur.take i=(D.take j).filter fun x=> !p x
 back:cur.drop j=D.drop j
theorem DelI.start {α:Type} {D:List α} {p:α->Bool} {i:Nat} (hi:i<D.length) (hlow:∀k (hk:k<i),p (D[k]'(by omega))=false) (hp:p (D[i]'hi)=true):DelI D p D i (i+1):=by
 refine ⟨rfl,by omega,by omega,?_,rfl⟩
 rw [List.take_succ_eq_append_getElem hi,List.filter_append,List.filter_cons_of_neg (by rw [hp];simp),List.filter_nil,List.append_nil,List.filter_eq_self.2]
 intro x hx
 obtain ⟨k,hk,rfl⟩:=List.mem_iff_getElem.1 hx
 rw [List.length_take] at hk
 rw [List.getElem_take,hlow k (by omega)]
 rfl
theorem DelI.at_ {α:Type} {D:List α} {p:α->Bool} {cur:List α} {i j:Nat} (h:DelI D p cur i j) (hj:j<D.length):∃hc:j<cur.length,cur[j]'hc=D[j]'hj:=by
 have hc:j<cur.length:=by rw [h.len];exact hj
 refine ⟨hc,?_⟩
 have:=h.back
 rw [List.drop_eq_getElem_cons hc,List.drop_eq_getElem_cons hj] at this
 injection this
theorem DelI.gone {α:Type} {D:List α} {p:α->Bool} {cur:List α} {i j:Nat} (h:DelI D p cur i j) (hj:j<D.length) (hp:p (D[j]'hj)=true):DelI D p cur i (j+1):=by
 refine ⟨h.len,by have:=h.lt;omega,by omega,?_,?_⟩
 ·rw [List.take_succ_eq_append_getElem hj,List.filter_append,<-h.front,List.filter_cons_of_neg (by rw [hp];simp),List.filter_nil,List.append_nil]
 rw [<-List.drop_drop,<-List.drop_drop,h.back]
theorem DelI.kept {α:Type} {D:List α} {p:α->Bool} {cur:List α} {i j:Nat} (h:DelI D p cur i j) (hj:j<D.length) (hp:p (D[j]'hj)=false):DelI D p (cur.set i (D[j]'hj)) (i+1) (j+1):=by
 have hl:=h.len
 have hlt:=h.lt
 refine ⟨by rw [List.length_set];exact hl,by omega,by omega,?_,?_⟩
 ·rw [List.take_succ_eq_append_getElem (by rw [List.length_set];omega),List.take_set_of_le (by omega),List.getElem_set_self,h.front,List.take_succ_eq_append_getElem hj,List.filter_append,List.filter_cons_of_pos (by rw [hp];rfl),List.filter_nil]
 rw [List.drop_set_of_lt (by omega),<-List.drop_drop,<-List.drop_drop,h.back]
theorem DelI.done {α:Type} {D:List α} {p:α->Bool} {cur:List α} {i:Nat} (h:DelI D p cur i D.length):cur.take i=D.filter fun x=> !p x:=by
 have:=h.front
 rw [List.take_length] at this
 exact this
theorem Zoz {α:Type} (p:α->Bool):∀(l:List α) (k j:Nat),U6 p l k=((k+j:Nat):Int)->∀(hj:j<l.length),p (l[j]'hj)=true/\∀m (hm:m<j),p (l[m]'(by omega))=false
 | [],_,_,_,hj=>absurd hj (by simp)
 | x::l,k,j,h,hj=>by
   unfold U6 at h
   by_cases hp:p x=true
   ·rw [if_pos hp] at h
    have:j=0:=by omega
    subst this
    exact ⟨hp,fun m hm=>absurd hm (by omega)⟩
   rw [if_neg hp] at h
   rw [Bool.not_eq_true] at hp
   cases j with
   | zero=>
     rcases Zbp p l (k+1) with ⟨h1,_⟩ | ⟨j,_,h1,_⟩<;>rw [h1] at h<;>omega
   | succ j=>
     obtain ⟨h1,h2⟩:=Zoz p l (k+1) j (by rw [h];congr 1;omega) (by simpa using hj)
     refine ⟨by simpa using h1,fun m hm=> ?_⟩
     cases m with
     | zero=>simpa using hp
     | succ m=>have:=h2 m (by omega);simpa using this
theorem Zlx {α:Type} (p:α->Bool):∀(l:List α) (k:Nat),U6 p l k= -1->l.filter (fun x=> !p x)=l
 | [],_,_=>rfl
 | x::l,k,h=>by
   unfold U6 at h
   by_cases hp:p x=true
   ·rw [if_pos hp] at h;omega
   rw [if_neg hp] at h
   rw [Bool.not_eq_true] at hp
   rw [List.filter_cons_of_pos (by rw [hp];rfl),Zlx p l (k+1) h]
theorem Zj9 (z:Array Value) (m:Nat) (hz:∀u∈z.toList,u.oneCell'=true):∀u∈(Builtin.zeroCells z m).toList,u.oneCell'=true:=by
 intro u hu
 unfold Builtin.zeroCells at hu
 rw [Array.toList_map,List.mem_map] at hu
 obtain ⟨i,hi,rfl⟩:=hu
 simp only [Array.toList_range,List.mem_range] at hi
 have hs:0<z.size:=by
  rcases Nat.eq_zero_or_pos z.size with h | h
  ·rw [h] at hi;omega
  exact h
 rw [getElem!_pos z (i%z.size) (Nat.mod_lt _ hs)]
 exact hz _ (by simp)
theorem Zcl (w:World) (g off m c:Nat) (hm:0<m) (cur:Array Value) (ty T E:TypeId) (z:Value) (n:Nat) (ht:Tryz.prog.underlying T=some (.slice E)) (hz:(zeroValue E).run Tryz.prog w= .ok z w) (hzs:z.cells.size=n) (h1:∀u∈z.cells.toList,u.oneCell'=true)
 (hg:w.heap[g]? =some (.cells cur E (0,0))) (hfit:off+m*n<=cur.size):
 (Builtin.clear_ #[T] ty #[.slice (some ⟨g,off,none⟩) m c]).run Tryz.prog w= .ok (.tuple #[]) (w.setRow g (cur.toList.take off++(Builtin.zeroCells z.cells m).toList++cur.toList.drop (off+m*n)).toArray):=by
 have hlen:(Builtin.zeroCells z.cells m).toList.length=m*n:=by unfold Builtin.zeroCells;simp [hzs]
 have hst:=run_storeCells_at Tryz.prog g off E (Builtin.zeroCells z.cells m).toList 0 cur w hg (by rw [hlen];simpa using hfit) (Zj9 _ m h1)
 simp only [Nat.add_zero,hlen] at hst
 have a0:(#[T]:Array TypeId)[0]? =some T:=rfl
 have a1:(#[Value.slice (some ⟨g,off,none⟩) m c]:Array Value)[0]? =some (.slice (some ⟨g,off,none⟩) m c):=rfl
 obtain ⟨m,rfl⟩:∃m',m=m'+1:=⟨m-1,by omega⟩
 unfold Builtin.clear_
 simp only [a0,a1,Sem.run_bind,run_underlying ht w,Result.andThen_ok,hz,hst,Sem.run_pure]
theorem dt_info:(Tryz.prog.info? 127).map (fun i=>(i.zero,i.size,i.bytes))=some (some (.agg #[.int .u8 0,.int .u8 0,.int .u8 0,.int .i64 0,.int .i64 0]),5,24):=by kernel_rfl
theorem Zpi (l:List Dt):(Zfc l).length=l.length*5:=Zap Yf 5 (fun _=>rfl) l
theorem ddel_any (base g cap:Nat) (D:List Dt) (f:Nat) (cpt:Array Value) (p:Dt->Bool) (w:World) (hown:w.ownsRow base 127 5 (.slice (some ⟨g,0,none⟩) D.length cap) D.length (Zfc D)) (hcap:D.length<=cap) (hn:D.length<=4096) (hf:Zay f)
 (hp:∀x∈D,∀W,Keep [g] w W->Calls Tryz.prog f (#[V5 x]++cpt) W (Ret (.bool (p x)) W)):
 Calls Tryz.prog 130 #[.slice (some ⟨g,0,none⟩) D.length cap,.func (.func f) #[] cpt] w (fun e w'=>∃c',e= .returned (.slice (some ⟨g,0,none⟩) (D.filter fun x=> !p x).length c')/\Keep [g] w w'/\Zn w' base 5 (.slice (some ⟨g,0,none⟩) (D.filter fun x=> !p x).length c') (D.filter fun x=> !p x).length (Zfc (D.filter fun x=> !p x))):=by
 have hn63:(D.length:Int)<=9223372036854775807:=by omega
 have hbg:base<=g:=by
  rcases hown.2 with ⟨h0,_⟩ | ⟨b,cap',cur,hv,hb,_⟩
  ·cases h0
  injection hv with hv _ _
  injection hv with hv
  injection hv with hv _ _
  rw [hv];exact hb
 have hix:=idxDt_any base (.slice (some ⟨g,0,none⟩) D.length cap) D f cpt p w (Zn.of_own hown) hf (fun x hx W k=>hp x hx W (Kx k))
 have hcf:=Zdn hf
 rcases Zbp p D 0 with ⟨hi,_⟩ | ⟨i,hil,hi,hfd⟩
 ·have hal:=Zlx p D 0 hi
  rw [hi] at hix
  have HAL:=Lib.hid hal
  have hsl:=Zn.of_own hown
  clear hal hcf hown hp hf
  go_enter Tryz.func130,Tryz.ntmps130
  go_wp2_with fail
  refine hix.mono ?_
  rintro e w1 ⟨rfl,e1⟩
  go_wp2_with fail
  go_ret
  rw [HAL.out]
  exact ⟨cap,rfl,Kx e1,hsl.ext e1⟩
 have hlow:=Zoz p D 0 i hi hil
 have hst:=DelI.start hil hlow.2 hlow.1
 rw [hi,Nat.zero_add] at hix
 have HP:=Lib.hid hp
 have hne:((i:Int)== -1)=false:=by rw [beq_eq_false_iff_ne];omega
 clear hp hlow hi hf hfd
 go_enter Tryz.func130,Tryz.ntmps130
 go_wp2_with fail
 refine hix.mono ?_
 rintro e w1 ⟨rfl,e1⟩
 have hown1:=Zo hown e1
 clear hix hown
 go_wp2_with fail
 have hgl:=(Yc hown1).1
 have hgs:g<w.heap.size\/w.heap.size<=g:=by omega
 go_loopw [5,6,7,16,17,18,19,20,21,22,23,24,25,26,27,28,29,30,31,32,33,34,35] (fun iv jv _ _ _ _ _ _ _ _ _ _ _ _ _ _ _ _ _ _ _ _ _ wr=>∃(i j:Nat) (cur:List Dt),iv= .int .i64 i/\jv= .int .i64 j/\DelI D p cur i j/\Keep [g] w1 wr/\wr.ownsRow base 127 5 (.slice (some ⟨g,0,none⟩) D.length cap) D.length (Zfc cur)) (fun _ jv _ _ _ _ _ _ _ _ _ _ _ _ _ _ _ _ _ _ _ _ _ _=>D.length-(intOf jv).toNat)
 case atStart=>exact ⟨i,i+1,D,rfl,by go_num,hst,Keep.refl _ _,hown1⟩
 clear hown1 hst hil
 obtain ⟨i,j,cur,rfl,rfl,hI,kr,hown⟩:=hrel
 have hlt:=hI.lt
 have hcl:=hI.len
 by_cases hjn:j<D.length
 ·have hj1:(0:Int)<=(j:Int):=by omega
  have hj2:(j:Int)<(D.length:Int):=by omega
  have hi1:(0:Int)<=(i:Int):=by omega
  have hi2:(i:Int)<(D.length:Int):=by omega
  obtain ⟨hjc,hat⟩:=hI.at_ hjn
  have hld:=Zmy wr g j cur hjc (Yc hown).2
  rw [hat] at hld
  have hmem:=List.getElem_mem hjn
  obtain ⟨x,hx⟩:∃x,D[j]'hjn=x:=⟨_,rfl⟩
  have hcall:=fun W (k:Keep [g] w1 W)=>HP.out x (by rw [<-hx];exact hmem) W ((Kx e1).trans k)
  have hz:=Zb wr (.cells #[.int .u8 0,.int .u8 0,.int .u8 0,.int .i64 0,.int .i64 0] 127)
  have ez:=Zc wr (.cells #[.int .u8 0,.int .u8 0,.int .u8 0,.int .i64 0,.int .i64 0] 127)
  have hgw:=(Yc hown).1
  have hput:=Zpb Yf 5 (fun _=>rfl) (Yf x) 0 (by simp [Yf]) x cur i (by omega) (by obtain ⟨a0,a1,a2,a3,a4⟩:=cur[i]'(by omega);obtain ⟨x0,x1,x2,x3,x4⟩:=x;rfl)
  rw [Nat.add_zero] at hput
  rw [hx] at hld
  have hxp:=hI.kept hjn
  have hxg:=hI.gone hjn
  rw [hx] at hxp hxg
  have HXP:=Lib.hid hxp
  have HXG:=Lib.hid hxg
  have HPUT:=Lib.hid hput
  clear hat hmem hx hxp hxg hput hI
  obtain ⟨x0,x1,x2,x3,x4⟩:=x
  simp only [V5] at hld hcall
  have HPU:Hid (Zfz (Zfc cur) (i*5) #[Value.int .u8 x0,.int .u8 x1,.int .u8 x2,.int .i64 x3,.int .i64 x4].toList=Zfc (cur.set i (x0,x1,x2,x3,x4))):=Lib.hid HPUT.out
  clear HPUT
  cases hq:p (x0,x1,x2,x3,x4) with
  | true=>
    rw [hq] at hcall
    go_wp2_with (first
     | (refine Zd rfl 127 _ _ _ rfl rfl hld ?_)
     | (refine Ze rfl rfl 127 _ _ rfl wr.heap.size _ rfl rfl 127 _ hz (by kernel_rfl) (by rfl) (by rfl) ?_
        intro w5 hb5 ho5 hs5
        have e5:Ext wr w5:=hb5 _ _ (Nat.le_refl _) ez
        have ldb:=run_loadVar_row w5 wr.heap.size _ _ _ _ _ hs5 Tryz.underlying127 rfl (by kernel_rfl))
     | (refine Zd rfl 127 _ _ _ rfl rfl ldb ?_))
    refine (hcall w5 (kr.trans (Kx e5))).mono ?_
    rintro e w6 ⟨rfl,e6⟩
    go_wp2_with fail
    exact ⟨⟨i,j+1,cur,rfl,by go_num,HXG.out hq,kr.trans (Kx (Xt e5 e6)),Zo hown (Xt e5 e6)⟩,by simp [intOf];omega⟩
  | false=>
    rw [hq] at hcall
    go_wp2_with (first
     | (refine Zd rfl 127 _ _ _ rfl rfl hld ?_)
     | (refine Ze rfl rfl 127 _ _ rfl wr.heap.size _ rfl rfl 127 _ hz (by kernel_rfl) (by rfl) (by rfl) ?_
        intro w5 hb5 ho5 hs5
        have e5:Ext wr w5:=hb5 _ _ (Nat.le_refl _) ez
        have ldb:=run_loadVar_row w5 wr.heap.size _ _ _ _ _ hs5 Tryz.underlying127 rfl (by kernel_rfl))
     | (refine Zd rfl 127 _ _ _ rfl rfl ldb ?_))
    refine (hcall w5 (kr.trans (Kx e5))).mono ?_
    rintro e w6 ⟨rfl,e6⟩
    have ldc:=run_loadVar_row w6 wr.heap.size _ _ _ _ _ (e6.at hs5) Tryz.underlying127 rfl (by kernel_rfl)
    have hown6:=Zo hown (Xt e5 e6)
    have hth:=own_mid hown6 (i*5) 5 (by rw [Zpi];omega)
    have kr6:=kr.trans (Kx (Xt e5 e6))
    clear hld ldb hs5 ho5 hb5 hz ez hcall e5 e6 kr hown
    go_wp2_with (first
     | (refine Zd rfl 127 _ _ _ rfl rfl ldc ?_)
     | (refine Zd7 rfl rfl 127 _ _ rfl g (i*5) #[.int .u8 x0,.int .u8 x1,.int .u8 x2,.int .i64 x3,.int .i64 x4] rfl rfl hth (by kernel_rfl) (by simp [Value.oneCell']) ?_
        have hown7:=Zoe #[Value.int .u8 x0,.int .u8 x1,.int .u8 x2,.int .i64 x3,.int .i64 x4].toList _ (i*5) _ hown6
        have kr7:=Zlv (S:=[g]) (g:=g) (.inl (by simp)) #[Value.int .u8 x0,.int .u8 x1,.int .u8 x2,.int .i64 x3,.int .i64 x4].toList (i*5) _ kr6
        generalize w6.setCells g (i*5) #[Value.int .u8 x0,.int .u8 x1,.int .u8 x2,.int .i64 x3,.int .i64 x4].toList=w7 at *))
    rw [HPU.out] at hown7
    exact ⟨⟨i+1,j+1,cur.set i (x0,x1,x2,x3,x4),by go_num,by go_num,HXP.out hq,kr7,hown7⟩,by simp [intOf];omega⟩
 have hj':j=D.length:=by have:=hI.le;omega
 subst hj'
 have hdone:=hI.done
 have hkl:(D.filter fun x=> !p x).length=i:=by rw [<-hdone,List.length_take];omega
 obtain ⟨cells,hrow⟩:=Us hown
 obtain ⟨_,hown2⟩:=id hown
 rcases hown2 with ⟨h0,_⟩ | ⟨b,cap',cur',hv,hb,hg,h1,h2,h3,h4⟩
 ·cases h0
 injection hv with hv1 _ hv2
 injection hv1 with hv1
 injection hv1 with hv1 _ _
 subst hv1 hv2
 have hi1:(0:Int)<=(i:Int):=by omega
 have hi2:(i:Int)<=(D.length:Int):=by omega
 have hi3:(i:Int)<=(cap:Int):=by omega
 have hi4:i<=cap:=by omega
 have hi5:i<=D.length:=by omega
 have hzr:∀W,(zeroValue 127).run Tryz.prog W= .ok (.agg #[.int .u8 0,.int .u8 0,.int .u8 0,.int .i64 0,.int .i64 0]) W:=fun W=>by simp [go_sem]
 have hclr:=fun ty c=>Zcl wr g (i*5) (D.length-i) c (by omega) cur' ty 113 127 (.agg #[.int .u8 0,.int .u8 0,.int .u8 0,.int .i64 0,.int .i64 0]) 5 Tryz.underlying113 (hzr wr) rfl (by simp [Value.cells,Value.oneCell']) hg (by rw [h3,<-Nat.add_mul];exact Nat.mul_le_mul_right _ (by omega))
 obtain ⟨R,hR⟩:∃R:Array Value,R=(cur'.toList.take (i*5)++(Builtin.zeroCells (Value.agg #[.int .u8 0,.int .u8 0,.int .u8 0,.int .i64 0,.int .i64 0]).cells (D.length-i)).toList++cur'.toList.drop (i*5+(D.length-i)*5)).toArray:=⟨_,rfl⟩
 rw [<-hR] at hclr
 have HRR:=Lib.hid hR
 clear hR
 have HK:=Lib.hid hkl
 have HD:=Lib.hid hdone
 have HR:=Lib.hid hg
 have HT:=Lib.hid h4
 have hsz:i*5<=cur'.size:=by rw [h3];exact Nat.mul_le_mul_right _ hi4
 clear hkl hdone hown hrow hg h4 hzr hI
 go_wp2_with (at_builtin;refine J3 rfl rfl _ 113 rfl _ (.tuple #[]) _ rfl (hclr _ _) ?_)
 go_ret
 rw [HK.out]
 have hrow:=setRow_heap wr g cur' R 127 (0,0) HR.out
 have kz:Keep [g] wr (wr.setRow g R):=⟨rfl,rfl,rfl,by simp [World.setRow],fun k _ hk=>setRow_other _ _ _ _ (by simpa using hk)⟩
 have hfc:Zfc (D.filter fun x=> !p x)=cur'.toList.take (i*5):=by
  rw [<-HD.out]
  have h5:(Zfc cur).take (i*5)=Zfc (cur.take i):=by
   unfold Zfc
   have h6:(cur.take i).flatMap Yf++(cur.drop i).flatMap Yf=cur.flatMap Yf:=by rw [<-List.flatMap_append,List.take_append_drop]
   rw [<-h6,List.take_left' (by rw [Zap Yf 5 (fun _=>rfl),List.length_take,Nat.min_eq_left (by omega)])]
  rw [<-h5,<-HT.out,List.take_take,Nat.min_eq_left (Nat.mul_le_mul_right _ hi5)]
 refine ⟨cap,rfl,(Kx e1).trans (kr.trans kz),some ⟨g,0,none⟩,cap,rfl,hi4,h2,by rw [Zpi,HK.out],.inr ⟨g,rfl,hb,Zg hrow,fun k u hu=>Za hrow ?_⟩⟩
 rw [hfc] at hu
 rw [HRR.out,List.getElem?_toArray,List.append_assoc,List.getElem?_append_left (List.getElem?_eq_some_iff.1 hu).1]
 exact hu
theorem Uf:Ji.length=2048:=by unfold Ji;rw [List.length_map,List.length_range]
theorem Zq5 (k:Nat) (hk:k<2048):(Ji.take (k+1)).flatMap Yf=(Ji.take k).flatMap Yf++[.int .u8 (((k / 16%16:Nat):Int)+1),.int .u8 (((k%16:Nat):Int)+1),.int .u8 (((k / 256:Nat):Int)+1),.int .i64 0,.int .i64 0]:=by
 have hl:=Uf
 rw [List.take_succ_eq_append_getElem (by omega),List.flatMap_append]
 have hg:Ji[k]'(by omega)=(((k / 16%16:Nat):Int)+1,((k%16:Nat):Int)+1,((k / 256:Nat):Int)+1,0,0):=by
  unfold Ji
  rw [List.getElem_map,List.getElem_range]
 rw [hg]
 rfl
theorem Zlh {w w':World} {base size n base2 size2 n2:Nat} {e e2:TypeId} {v v2:Value} {xs xs2:List Value} (h1:w.ownsRow base e size v n xs) (h2:w.ownsRow base2 e2 size2 v2 n2 xs2) (hne:e≠e2) (hg:w.grownBy w' v.ownBlock):w'.ownsRow base2 e2 size2 v2 n2 xs2:=by
 refine ⟨h2.1,?_⟩
 rcases h2.2 with h4 | ⟨b,cap,cur,rfl,hb,hh,rest⟩
 ·exact .inl h4
 exact .inr ⟨b,cap,cur,rfl,hb,(hg.block b (Zg hh) (fun he=>Y4 h1 hh hne he.symm)).trans hh,rest⟩
theorem fnat_l2:Zay 131:=Zh5 Tryz.func131 rfl (by kernel_rfl)
def Zfh (l1 l2:Zr):List Dt:=Ji.filter fun d=>J8 l1 d.k||J8 l2 d.k
theorem Zqo (v1 v2 v3 u1 u2 u3:Value) (nv nu:Int) (l1 l2:Zr) (o1 o2:List Off) (w:World) (q1:∃A n c,v1= .slice A n c) (q2:∃A n c,v2= .slice A n c) (q3:∃A n c,v3= .slice A n c) (h2:Zn w 0 5 v2 l1.length (Ym l1)) (h3:Zn w 0 7 v3 o1.length (Zi o1))
 (r1:∃A n c,u1= .slice A n c) (r2:∃A n c,u2= .slice A n c) (r3:∃A n c,u3= .slice A n c) (k2:Zn w 0 5 u2 l2.length (Ym l2)) (k3:Zn w 0 7 u3 o2.length (Zi o2)):
 Calls Tryz.prog 82 #[.agg #[v1,v2,v3,.int .u64 nv],.agg #[u1,u2,u3,.int .u64 nu]] w (fun e w'=>∃v,e= .returned v/\Ext w w'/\Zn w' w.heap.size 5 v (Zfh l1 l2).length (Zfc (Zfh l1 l2))):=by
 obtain ⟨A1,n1,c1,rfl⟩:=q1
 obtain ⟨A2,n2,c2,rfl⟩:=q2
 obtain ⟨A3,n3,c3,rfl⟩:=q3
 obtain ⟨B1,m1,d1,rfl⟩:=r1
 obtain ⟨B2,m2,d2,rfl⟩:=r2
 obtain ⟨B3,m3,d3,rfl⟩:=r3
 obtain ⟨i0,hi,hz0,hz1,hz2⟩:=info_parts dt_info
 have hm:=hmf
 obtain ⟨W1,hW1,e1,s1,hs1⟩:=Y8 w #[.slice A1 n1 c1,.slice A2 n2 c2,.slice A3 n3 c3,.int .u64 nv] 47
 obtain ⟨W2,hW2,e2,s2,hs2⟩:=Y8 W1 #[.slice B1 m1 d1,.slice B2 m2 d2,.slice B3 m3 d3,.int .u64 nu] 47
 have st1:StB W2 w.heap.size l1 o1:=⟨_,_,_,_,e2.at s1,h2.ext (Xt e1 e2),h3.ext (Xt e1 e2)⟩
 have st2:StB W2 (w.heap.size+1) l2 o2:=by rw [<-hs1];exact ⟨_,_,_,_,s2,k2.ext (Xt e1 e2),k3.ext (Xt e1 e2)⟩
 have e02:=Xt e1 e2
 have ST1:=Lib.hid st1
 have ST2:=Lib.hid st2
 have hle2:w.heap.size<=W2.heap.size:=e02.size
 clear h2 h3 k2 k3 s1 s2 st1 st2
 go_enter Tryz.func82,Tryz.ntmps82
 go_wp2_with (first | (rw [hW1]) | (rw [hW2]))
 go_loopw [4,5,7,9,11,12,13,14,15,16,17,18,19,20,21,22,23,24,25,26,27,28,29,30,31,32,33,34,35,36,37] (fun ov _ _ _ iv _ _ _ _ _ _ _ _ _ _ _ _ _ _ _ _ _ _ _ _ _ _ _ _ _ _ wr=>∃c:Nat,c<=8/\iv= .int .i64 c/\Ext W2 wr/\wr.ownsRow W2.heap.size 127 5 ov (c*256) ((Ji.take (c*256)).flatMap Yf)) (fun _ _ _ _ iv _ _ _ _ _ _ _ _ _ _ _ _ _ _ _ _ _ _ _ _ _ _ _ _ _ _ _=>8-(intOf iv).toNat)
 case atStart=>exact ⟨0,Nat.zero_le _,rfl,Ext.refl _,World.ownsRow_nil _ _ _ _⟩
 obtain ⟨c,hc,rfl,er,hown⟩:=hrel
 obtain ⟨AO,capO,rfl⟩:=Z7 hown
 by_cases hc8:c<8
 ·have g1:(0:Int)<=(c:Int):=by omega
  have g2:(c:Int)<8:=by omega
  go_wp2_with fail
  refine (Zby wr).mono ?_
  rintro e wp ⟨v,rfl,ep,hp⟩
  obtain ⟨PB,pcap,rfl,hpb1,hpb2,hpb3⟩:=Zf2 hp (by omega)
  have hp0:=Uj hp (Nat.zero_le _)
  have erp:=Xt er ep
  have hownp:=Zo hown ep
  clear hp er hown ep
  go_wp2_with fail
  go_loopw [4,7,9,16,17,18,19,20,21,22,23,24,25,26,27,28,29,30,31,32,33,34,35,36] (fun ov _ _ av _ _ _ _ _ _ _ _ _ _ _ _ _ _ _ _ _ _ _ _ wr=>∃a:Nat,a<=16/\av= .int .i64 a/\Ext W2 wr/\wr.ownsRow W2.heap.size 127 5 ov (c*256+a*16) ((Ji.take (c*256+a*16)).flatMap Yf)/\wr.ownsRow 0 24 1 (.slice (some ⟨PB,0,none⟩) 16 pcap) 16 (Zcn.map (Value.int .u8))) (fun _ _ _ av _ _ _ _ _ _ _ _ _ _ _ _ _ _ _ _ _ _ _ _ _=>16-(intOf av).toNat)
  case atStart=>exact ⟨0,Nat.zero_le _,rfl,erp,hownp,hp0⟩
  clear hownp hp0 erp
  obtain ⟨a,ha,rfl,er,hown,hp⟩:=hrel
  obtain ⟨AP,capP,rfl⟩:=Z7 hown
  by_cases ha16:a<16
  ·have g3:(0:Int)<=(a:Int):=by omega
   have g4:(a:Int)<16:=by omega
   have hca:wr.cell? ⟨PB,a,none⟩=some (.int .u8 ((a:Int)+1)):=(Yc hp).2 a _ (by simp [Zcn,ha16])
   go_wp2_with fail
   refine (Zby wr).mono ?_
   rintro e wq ⟨v,rfl,eq,hq⟩
   obtain ⟨QB,qcap,rfl,hqb1,hqb2,hqb3⟩:=Zf2 hq (by omega)
   have hq0:=Uj hq (Nat.zero_le _)
   have erq:=Xt er eq
   have hownq:=Zo hown eq
   have hpq:=Zo hp eq
   clear hq hown hca er eq hp
   go_wp2_with fail
   go_loopw [4,9,22,23,24,25,26,27,28,29,30,31,32,33,34,35] (fun ov _ bv _ _ _ _ _ _ _ _ _ _ _ _ _ wr=>∃b:Nat,b<=16/\bv= .int .i64 b/\Ext W2 wr/\wr.ownsRow W2.heap.size 127 5 ov (c*256+a*16+b) ((Ji.take (c*256+a*16+b)).flatMap Yf)/\wr.ownsRow 0 24 1 (.slice (some ⟨PB,0,none⟩) 16 pcap) 16 (Zcn.map (Value.int .u8))/\wr.ownsRow 0 24 1 (.slice (some ⟨QB,0,none⟩) 16 qcap) 16 (Zcn.map (Value.int .u8))) (fun _ _ bv _ _ _ _ _ _ _ _ _ _ _ _ _ _=>16-(intOf bv).toNat)
   case atStart=>exact ⟨0,Nat.zero_le _,rfl,erq,hownq,hpq,hq0⟩
   clear hownq hpq hq0 erq
   obtain ⟨b,hb,rfl,er,hown,hp,hq⟩:=hrel
   obtain ⟨AQ,capQ,rfl⟩:=Z7 hown
   by_cases hb16:b<16
   ·have g5:(0:Int)<=(b:Int):=by omega
    have g6:(b:Int)<16:=by omega
    have hcb:wr.cell? ⟨QB,b,none⟩=some (.int .u8 ((b:Int)+1)):=(Yc hq).2 b _ (by simp [Zcn,hb16])
    have hnx:=Zq5 (c*256+a*16+b) (by omega)
    rw [show (c*256+a*16+b) / 16%16=a by omega,show (c*256+a*16+b)%16=b by omega,show (c*256+a*16+b) / 256=c by omega] at hnx
    have HNX:=Lib.hid hnx
    clear hnx
    have hws:=er.size
    have e0:=Zc wr (.cells #[.int .u8 ((a:Int)+1),.int .u8 ((b:Int)+1),.int .u8 ((c:Int)+1),.int .i64 0,.int .i64 0] 127)
    go_wp2_with (first
     | (at_builtin;refine wpList_append_own _ rfl _ _ 113 rfl W2.heap.size 127 i0 (.agg #[.int .u8 0,.int .u8 0,.int .u8 0,.int .i64 0,.int .i64 0]) 5 24 Tryz.underlying113 hi hz0 hz1 hz2 rfl (by decide) (.slice AQ (c*256+a*16+b) capQ) (c*256+a*16+b) _ rfl (Zo hown e0) ⟨wr.heap.size,0,none⟩ 1 1 [.int .u8 ((a:Int)+1),.int .u8 ((b:Int)+1),.int .u8 ((c:Int)+1),.int .i64 0,.int .i64 0] rfl rfl (Uv wr [.int .u8 ((a:Int)+1),.int .u8 ((b:Int)+1),.int .u8 ((c:Int)+1),.int .i64 0,.int .i64 0] _) (fun x hx=>by simp only [List.mem_cons,List.not_mem_nil,or_false] at hx;rcases hx with rfl | rfl | rfl | rfl | rfl<;>rfl) (by unfold maxLen;omega) (by omega) (by simp;omega) ?_
        intro v' w3 hown' hgrow3 hnil3
        have E3:Ext W2 w3:=(Y6 (S:=[]) (Kx (Xt er e0)) hgrow3 (fun q hq=>.inr (hown.lt q hq).1)).ext
        have hp3:=Zlh (Zo hown e0) (Zo hp e0) (by decide) hgrow3
        have hq3:=Zlh (Zo hown e0) (Zo hq e0) (by decide) hgrow3))
    exact ⟨⟨b+1,by omega,by go_num,E3,by rw [<-Nat.add_assoc,HNX.out];exact hown',hp3,hq3⟩,by simp [intOf];omega⟩
   have hb':b=16:=by omega
   subst hb'
   go_wp2_with fail
   exact ⟨⟨a+1,by omega,by go_num,er,by rw [show c*256+(a+1)*16=c*256+a*16+16 by omega];exact hown,hp⟩,by simp [intOf];omega⟩
  have ha':a=16:=by omega
  subst ha'
  go_wp2_with fail
  exact ⟨⟨c+1,by omega,by go_num,er,by rw [show (c+1)*256=c*256+16*16 by omega];exact hown⟩,by simp [intOf];omega⟩
 have hc':c=8:=by omega
 subst hc'
 rw [show 8*256=2048 by rfl,List.take_of_length_le (by rw [Uf];exact Nat.le_refl _)] at hown
 obtain ⟨OB,ocap,hv,hob1,hob2,hob3⟩:=Zf2 hown (by omega)
 injection hv with hv1 _ hv2
 subst hv1 hv2
 obtain ⟨W3,hW3,e3,s3,hs3⟩:=Y8 wr #[.func (.func 126) #[] #[]] 229
 have hown3:=Zo hown e3
 have E03:=Xt er e3
 rw [<-Uf] at hown3
 have hdel:=ddel_any W2.heap.size OB capO Ji 131 #[.pointer (some ⟨wr.heap.size,0,none⟩),.pointer (some ⟨w.heap.size,0,none⟩),.pointer (some ⟨w.heap.size+1,0,none⟩)] (fun d=> !J8 l1 d.k&& !J8 l2 d.k) W3 hown3 (by rw [Uf];exact hob3) (by rw [Uf];omega) fnat_l2 (fun d hd W k=>by
  have k2:Ext W2 W:=(Keep.trans_fresh (S:=[]) (Kx E03) k (fun x hx=>by right;simp at hx;omega)).ext
  exact none_ln wr.heap.size w.heap.size (w.heap.size+1) l1 l2 o1 o2 d W (k.at s3 (by simp;omega)) (ST1.out.ext k2) (ST2.out.ext k2))
 rw [Uf] at hdel
 have hbl:Ji.filter (fun d=> !(!J8 l1 d.k&& !J8 l2 d.k))=Zfh l1 l2:=by
  unfold Zfh
  congr 1
  funext d
  cases J8 l1 d.k<;>cases J8 l2 d.k<;>rfl
 rw [hbl] at hdel
 obtain ⟨bl,hbe⟩:∃bl,Zfh l1 l2=bl:=⟨_,rfl⟩
 rw [hbe] at hdel
 have HB:=Lib.hid hbe
 clear hown hown3 hbl hbe
 go_wp2_with (rw [hW3])
 refine hdel.mono ?_
 rintro e w5 ⟨c',rfl,k5,sl5⟩
 have E5:Ext W2 w5:=(Keep.trans_fresh (S:=[]) (Kx E03) k5 (fun x hx=>by right;simp at hx;omega)).ext
 go_wp2_with fail
 go_ret
 exact ⟨_,rfl,Xt e02 E5,by rw [HB.out];exact sl5.low hle2⟩
theorem mkmv_any (x:Mv) (p q:Int) (w:World):Calls Tryz.prog 80 #[Zcp x,.int .i64 p,.int .i64 q] w (Ret (Zcp (x.1,x.2.1,p,q)) w):=by
 obtain ⟨x0,x1,x2,x3⟩:=x
 simp only [Zcp]
 obtain ⟨W1,hW1,e1,r1,hs1⟩:=Y8 w #[.int .u8 x0,.int .u8 x1,.int .i64 x2,.int .i64 x3] 125
 obtain ⟨W2,hW2,e2,r2,hs2⟩:=Y8 W1 #[.int .u8 0,.int .u8 0,.int .i64 0,.int .i64 0] 125
 rw [hs1] at r2
 have q1:=e2.at r1
 have f1:=frozen_of_row W2 w.heap.size 2 _ _ q1
 have d1:=Za (j:=2) q1 rfl
 have q2:=heap_setCell_same W2 w.heap.size 2 _ _ (.int .i64 p) q1
 have f2:=frozen_of_row _ w.heap.size 3 _ _ q2
 have d2:=Za (j:=3) q2 rfl
 have q3:=heap_setCell_same _ w.heap.size 3 _ _ (.int .i64 q) q2
 have k3:Keep [w.heap.size] W2 ((W2.setCell ⟨w.heap.size,2,none⟩ (.int .i64 p)).setCell ⟨w.heap.size,3,none⟩ (.int .i64 q)):=((Keep.refl _ _).setCell (.inl (by simp)) _).setCell (.inl (by simp)) _
 have r3:=k3.at r2 (by simp)
 have e3:=(Keep.trans_fresh (S:=[]) (Kx (Xt e1 e2)) k3 (fun y hy=>by right;simp at hy;omega)).ext
 obtain ⟨W3,hW3⟩:∃W3,W3=(W2.setCell ⟨w.heap.size,2,none⟩ (.int .i64 p)).setCell ⟨w.heap.size,3,none⟩ (.int .i64 q):=⟨_,rfl⟩
 rw [<-hW3] at q3 k3 r3 e3
 have ld:=run_loadVar_row W3 w.heap.size _ _ _ _ _ q3 Tryz.underlying125 rfl (by kernel_rfl)
 go_enter Tryz.func80,Tryz.ntmps80
 go_wp2_with (first
  | (rw [hW1])
  | (rw [hW2])
  | (rw [<-hW3])
  | (refine Zd rfl 125 _ _ _ rfl rfl ld ?_)
  | (refine Ze rfl rfl 125 _ _ rfl (w.heap.size+1) _ rfl rfl 125 _ r3 (by kernel_rfl) (by rfl) (by rfl) ?_
     intro w5 hb5 ho5 hs5
     have e5:Ext w w5:=hb5 _ _ (by omega) e3))
 exact Yp (w.heap.size+1) 125 _ _ _ rfl rfl hs5 Tryz.underlying125 rfl (by kernel_rfl) rfl ⟨rfl,e5⟩
theorem mkdt_any (x:Dt) (p q:Int) (w:World):Calls Tryz.prog 84 #[V5 x,.int .i64 p,.int .i64 q] w (Ret (V5 (x.1,x.2.1,x.2.2.1,p,q)) w):=by
 obtain ⟨x0,x1,x2,x3,x4⟩:=x
 simp only [V5]
 obtain ⟨W1,hW1,e1,r1,hs1⟩:=Y8 w #[.int .u8 x0,.int .u8 x1,.int .u8 x2,.int .i64 x3,.int .i64 x4] 127
 obtain ⟨W2,hW2,e2,r2,hs2⟩:=Y8 W1 #[.int .u8 0,.int .u8 0,.int .u8 0,.int .i64 0,.int .i64 0] 127
 rw [hs1] at r2
 have q1:=e2.at r1
 have f1:=frozen_of_row W2 w.heap.size 3 _ _ q1
 have d1:=Za (j:=3) q1 rfl
 have q2:=heap_setCell_same W2 w.heap.size 3 _ _ (.int .i64 p) q1
 have f2:=frozen_of_row _ w.heap.size 4 _ _ q2
 have d2:=Za (j:=4) q2 rfl
 have q3:=heap_setCell_same _ w.heap.size 4 _ _ (.int .i64 q) q2
 have k3:Keep [w.heap.size] W2 ((W2.setCell ⟨w.heap.size,3,none⟩ (.int .i64 p)).setCell ⟨w.heap.size,4,none⟩ (.int .i64 q)):=((Keep.refl _ _).setCell (.inl (by simp)) _).setCell (.inl (by simp)) _
 have r3:=k3.at r2 (by simp)
 have e3:=(Keep.trans_fresh (S:=[]) (Kx (Xt e1 e2)) k3 (fun y hy=>by right;simp at hy;omega)).ext
 obtain ⟨W3,hW3⟩:∃W3,W3=(W2.setCell ⟨w.heap.size,3,none⟩ (.int .i64 p)).setCell ⟨w.heap.size,4,none⟩ (.int .i64 q):=⟨_,rfl⟩
 rw [<-hW3] at q3 k3 r3 e3
 have ld:=run_loadVar_row W3 w.heap.size _ _ _ _ _ q3 Tryz.underlying127 rfl (by kernel_rfl)
 go_enter Tryz.func84,Tryz.ntmps84
 go_wp2_with (first
  | (rw [hW1])
  | (rw [hW2])
  | (rw [<-hW3])
  | (refine Zd rfl 127 _ _ _ rfl rfl ld ?_)
  | (refine Ze rfl rfl 127 _ _ rfl (w.heap.size+1) _ rfl rfl 127 _ r3 (by kernel_rfl) (by rfl) (by rfl) ?_
     intro w5 hb5 ho5 hs5
     have e5:Ext w w5:=hb5 _ _ (by omega) e3))
 exact Yp (w.heap.size+1) 127 _ _ _ rfl rfl hs5 Tryz.underlying127 rfl (by kernel_rfl) rfl ⟨rfl,e5⟩
def lfAgg (x:Lf):Value:= .agg #[.int .u64 x.1,.int .i64 x.2.1,.int .i64 x.2.2]
theorem mklf_any (x p q:Int) (w:World):Calls Tryz.prog 88 #[.int .u64 x,.int .i64 p,.int .i64 q] w (Ret (lfAgg (x,p,q)) w):=by
 have ez:=Zc w (.cells #[.int .u64 0,.int .i64 0,.int .i64 0] 129)
 have hz:=Zb w (.cells #[.int .u64 0,.int .i64 0,.int .i64 0] 129)
 go_enter Tryz.func88,Tryz.ntmps88
 go_wp2_with (first
  | (refine Ze rfl rfl 129 _ _ rfl w.heap.size _ rfl rfl 129 _ hz (by kernel_rfl) (by rfl) (by rfl) ?_
     intro w5 hb5 ho5 hs5
     have e5:Ext w w5:=hb5 _ _ (Nat.le_refl _) ez))
 exact Yp w.heap.size 129 _ _ _ rfl rfl hs5 Tryz.underlying129 rfl (by kernel_rfl) rfl ⟨rfl,e5⟩
def unL {α β:Type} (a b:α->Int) (mk:α->Int->Int->β) (l:List α):List β:=l.filterMap fun x=>if a x=b x then none else some (mk x (a x) (b x))
theorem Zii {α β:Type} (a b:α->Int) (mk:α->Int->Int->β) (l:List α) (k:Nat) (hk:k<l.length):unL a b mk (l.take (k+1))=unL a b mk (l.take k)++(if a (l[k]'hk)=b (l[k]'hk) then [] else [mk (l[k]'hk) (a (l[k]'hk)) (b (l[k]'hk))]):=by
 unfold unL
 rw [List.take_succ_eq_append_getElem hk,List.filterMap_append]
 congr 1
 by_cases h:a (l[k]'hk)=b (l[k]'hk)
 ·simp [h]
 simp [h]
theorem Zmm {α β:Type} (a b:α->Int) (mk:α->Int->Int->β) (l:List α):(unL a b mk l).length<=l.length:=List.length_filterMap_le _ _
theorem Zgo {w1 wq:World} (h:Cls w1 wq):Ext w1 wq:=by
 obtain ⟨p,rfl⟩:=h
 exact p.h
def Zkl (l:Zr) (x:Mv):Int:=Ur l x.1 x.2.1
def Zku (l:Zr) (x:Dt):Int:=Zr0 l x.k
def mkMv (x:Mv) (p q:Int):Mv:=(x.1,x.2.1,p,q)
def mkDt (x:Dt) (p q:Int):Dt:=(x.1,x.2.1,x.2.2.1,p,q)
def mkLf (x p q:Int):Lf:=(x,p,q)
theorem lf_info:(Tryz.prog.info? 129).map (fun i=>(i.zero,i.size,i.bytes))=some (some (.agg #[.int .u64 0,.int .i64 0,.int .i64 0]),3,24):=by kernel_rfl
theorem load_mv (w:World) (g k:Nat) (l:List Mv) (hk:k<l.length) (h:∀j u,(l.flatMap X8)[j]? =some u->w.cell? ⟨g,j,none⟩=some u):
 (loadVar 125 ⟨g,k*4,none⟩).run Tryz.prog w= .ok (Zcp (l[k]'hk)) w:=
 Zs w g (k*4) 125 (X8 (l[k]'hk)) _ (fun j v hv=>by
  have hj:j<4:=(List.getElem?_eq_some_iff.1 hv).1
  exact h _ _ (by rw [Za8 X8 4 (fun _=>rfl) l k j hk hj];exact hv)) Tryz.underlying125 rfl (by kernel_rfl)
theorem unmv_any (base:Nat) (v:Value) (ks:List Mv) (s1 s2:Nat) (l1 l2:Zr) (o1 o2:List Off) (w:World) (h:Zn w base 4 v ks.length (ks.flatMap X8)) (h1:StB w s1 l1 o1) (h2:StB w s2 l2 o2) (k1:LnsOk l1) (k2:LnsOk l2) (hn:ks.length<=4096):
 Calls Tryz.prog 77 #[v,.func (.func 124) #[] #[.pointer (some ⟨s1,0,none⟩)],.func (.func 124) #[] #[.pointer (some ⟨s2,0,none⟩)],.func (.func 80) #[] #[]] w
  (Zfk 4 (unL (Zkl l1) (Zkl l2) mkMv ks).length ((unL (Zkl l1) (Zkl l2) mkMv ks).flatMap X8) w):=by
 obtain ⟨A,cap,rfl,q1,q2,q3,q4⟩:=h
 obtain ⟨i0,zi,zz0,zz1,zz2⟩:=info_parts mv_info
 have hn63:(ks.length:Int)<=9223372036854775807:=by omega
 have ca:∀W (_:Ext w W) x,Calls Tryz.prog 124 #[Zcp x,.pointer (some ⟨s1,0,none⟩)] W (Ret (.int .i64 (Zkl l1 x)) W):=fun W k x=>Zn7 s1 l1 o1 x W (h1.ext k) k1
 have cb:∀W (_:Ext w W) x,Calls Tryz.prog 124 #[Zcp x,.pointer (some ⟨s2,0,none⟩)] W (Ret (.int .i64 (Zkl l2 x)) W):=fun W k x=>Zn7 s2 l2 o2 x W (h2.ext k) k2
 have cm:∀W x p q,Calls Tryz.prog 80 #[Zcp x,.int .i64 p,.int .i64 q] W (Ret (Zcp (mkMv x p q)) W):=fun W x p q=>mkmv_any x p q W
 generalize Zkl l1=fa at *
 generalize Zkl l2=fb at *
 generalize mkMv=fm at *
 clear h1 h2 k1 k2
 go_enter Tryz.func77,Tryz.ntmps77
 go_wp2
 go_loopw [9,11,12,13,16,17,18,19,20,21,22,23,24,25,26,27,28,29,30,31,32,33,34,35,36,37] (fun ov _ _ _ iv _ _ _ _ _ _ _ _ _ _ _ _ _ _ _ _ _ _ _ _ _ wr=>∃k:Nat,k<=ks.length/\iv= .int .i64 k/\Ext w wr/\wr.ownsRow w.heap.size 125 4 ov (unL fa fb fm (ks.take k)).length ((unL fa fb fm (ks.take k)).flatMap X8)) (fun _ _ _ _ iv _ _ _ _ _ _ _ _ _ _ _ _ _ _ _ _ _ _ _ _ _ _=>ks.length-(intOf iv).toNat)
 case atStart=>exact ⟨0,Nat.zero_le _,rfl,Ext.refl _,World.ownsRow_nil _ _ _ _⟩
 obtain ⟨k,hk,rfl,er,hown⟩:=hrel
 obtain ⟨AO,capO,rfl⟩:=Z7 hown
 by_cases hkn:k<ks.length
 ·rcases q4 with q4 | ⟨g,rfl,hb,hlt,hcell⟩
  ·omega
  have hj1:(0:Int)<=(k:Int):=by omega
  have hj2:(k:Int)<(ks.length:Int):=by omega
  have hld:=load_mv wr g k ks hkn (fun j u hu=>(Zf (er.block hlt)).trans (hcell j u hu))
  have hnx:=Zii fa fb fm ks k hkn
  have hfew:(unL fa fb fm (ks.take k)).length<=4096:=Nat.le_trans (Zmm _ _ _ _) (by rw [List.length_take];omega)
  have hz:=Zb wr (.cells #[.int .u8 0,.int .u8 0,.int .i64 0,.int .i64 0] 125)
  have ez:=Zc wr (.cells #[.int .u8 0,.int .u8 0,.int .i64 0,.int .i64 0] 125)
  generalize (ks[k]'hkn)=x at *
  generalize unL fa fb fm (ks.take k)=acc at *
  have HNX:=Lib.hid hnx
  clear hnx hcell
  have ca1:=fun W (kw:Ext wr W)=>ca W (Xt er kw) x
  have cb1:=fun W (kw:Ext wr W)=>cb W (Xt er kw) x
  have cm1:=fun W p q=>cm W x p q
  generalize hva:fa x=va at *
  generalize hvb:fb x=vb at *
  clear ca cb cm hva hvb
  have cm2:=fun W=>cm1 W va vb
  generalize fm x va vb=y at *
  clear cm1
  obtain ⟨x0,x1,x2,x3⟩:=x
  obtain ⟨y0,y1,y2,y3⟩:=y
  simp only [Zcp] at hld ca1 cb1 cm2
  by_cases hab:va=vb
  ·subst hab
   have HN:=HNX.out
   rw [if_pos rfl,List.append_nil] at HN
   have HN:=Lib.hid HN
   have hne:(va !=va)=false:=by simp [bne]
   clear HNX
   go_wp2_with (first
    | (refine Zd rfl 125 _ _ _ rfl rfl hld ?_)
    | (refine Ze rfl rfl 125 _ _ rfl wr.heap.size _ rfl rfl 125 _ hz (by kernel_rfl) (by rfl) (by rfl) ?_
       intro w5 hb5 ho5 hs5
       have e5:Ext wr w5:=hb5 _ _ (Nat.le_refl _) ez))
   clear hld hb5 ho5 hz ez
   refine Z9 Zl [] (by kernel_rfl) (by kernel_rfl) ?_
   intro w1 hw1
   have ldb:=fun wq (hq:Cls w1 wq)=>run_loadVar_row wq wr.heap.size _ _ _ _ _ ((Xt hw1 (Zgo hq)).at hs5) Tryz.underlying125 rfl (by kernel_rfl)
   have cau:=fun u:ExtOf w1=>ca1 u.to (Xt e5 (Xt hw1 u.h))
   have cbu:=fun u:ExtOf w1=>cb1 u.to (Xt e5 (Xt hw1 u.h))
   simp only [Zk,Rg.hsB,Nat.reduceAdd,↓reduceIte]
   repeat (first | go_big_quiet_step ((go_at_call 124;first | with_reducible exact Ret.cls (cau _) | with_reducible exact Ret.cls (cbu _))) | (go_big_quiet_want;(refine Z0 125 _ _ _ rfl rfl ldb ?_);go_big_quiet_on;simp only [Act.put,Rg.puB]))
   refine wpQuiet_nil ?_
   refine Xc (by kernel_rfl) ?_
   intro w6 e6 e6'
   try simp only [Act.put,Rg.puC,Rg.puB]
   clear ldb cau cbu
   go_wp2_with fail
   exact ⟨⟨k+1,by omega,by go_num,Xt er (Xt e5 e6),by rw [HN.out];exact Zo hown (Xt e5 e6)⟩,by simp [intOf];omega⟩
  have HN:=HNX.out
  rw [if_neg hab] at HN
  have HN:=Lib.hid HN
  have hne:(va !=vb)=true:=by simp [bne,hab]
  clear HNX hab
  go_wp2_with (first
   | (refine Zd rfl 125 _ _ _ rfl rfl hld ?_)
   | (refine Ze rfl rfl 125 _ _ rfl wr.heap.size _ rfl rfl 125 _ hz (by kernel_rfl) (by rfl) (by rfl) ?_
      intro w5 hb5 ho5 hs5
      have e5:Ext wr w5:=hb5 _ _ (Nat.le_refl _) ez))
  clear hld hb5 ho5 hz ez
  refine Z9 Zl [] (by kernel_rfl) (by kernel_rfl) ?_
  intro w1 hw1
  have ldb:=fun wq (hq:Cls w1 wq)=>run_loadVar_row wq wr.heap.size _ _ _ _ _ ((Xt hw1 (Zgo hq)).at hs5) Tryz.underlying125 rfl (by kernel_rfl)
  have cau:=fun u:ExtOf w1=>ca1 u.to (Xt e5 (Xt hw1 u.h))
  have cbu:=fun u:ExtOf w1=>cb1 u.to (Xt e5 (Xt hw1 u.h))
  simp only [Zk,Rg.hsB,Nat.reduceAdd,↓reduceIte]
  repeat (first | go_big_quiet_step ((go_at_call 124;first | with_reducible exact Ret.cls (cau _) | with_reducible exact Ret.cls (cbu _))) | (go_big_quiet_want;(refine Z0 125 _ _ _ rfl rfl ldb ?_);go_big_quiet_on;simp only [Act.put,Rg.puB]))
  refine wpQuiet_nil ?_
  refine Xc (by kernel_rfl) ?_
  intro w6 e6 e6'
  try simp only [Act.put,Rg.puC,Rg.puB]
  clear ldb cau cbu
  have ldc:=run_loadVar_row w6 wr.heap.size _ _ _ _ _ (e6.at hs5) Tryz.underlying125 rfl (by kernel_rfl)
  go_wp2_with (refine Zd rfl 125 _ _ _ rfl rfl ldc ?_)
  refine (cm2 w6).mono ?_
  rintro e w7 ⟨rfl,e7⟩
  have E7:=Xt er (Xt e5 (Xt e6 e7))
  have hs7:=E7.size
  have hown7:=Zo hown (Xt e5 (Xt e6 e7))
  have e8:=Zc w7 (.cells #[.int .u8 y0,.int .u8 y1,.int .i64 y2,.int .i64 y3] 125)
  clear ldc hs5 hown
  go_wp2_with (first
   | (at_builtin;refine wpList_append_own _ rfl _ _ 112 rfl w.heap.size 125 i0 (.agg #[.int .u8 0,.int .u8 0,.int .i64 0,.int .i64 0]) 4 24 Tryz.underlying112 zi zz0 zz1 zz2 rfl (by decide) (.slice AO acc.length capO) acc.length _ rfl (Zo hown7 e8) ⟨w7.heap.size,0,none⟩ 1 1 [.int .u8 y0,.int .u8 y1,.int .i64 y2,.int .i64 y3] rfl rfl (Uv w7 [.int .u8 y0,.int .u8 y1,.int .i64 y2,.int .i64 y3] _) (fun x hx=>by simp only [List.mem_cons,List.not_mem_nil,or_false] at hx;rcases hx with rfl | rfl | rfl | rfl<;>rfl) (by unfold maxLen;omega) (by omega) (by simp;omega) ?_
      intro v' w9 hown9 hgrow9 hnil9
      have E9:Ext w w9:=(Y6 (S:=[]) (Kx (Xt E7 e8)) hgrow9 (fun q hq=>.inr (hown7.lt q hq).1)).ext))
  exact ⟨⟨k+1,by omega,by go_num,E9,by rw [HN.out,List.length_append,List.flatMap_append];simpa [X8] using hown9⟩,by simp [intOf];omega⟩
 have hk':k=ks.length:=by omega
 subst hk'
 rw [List.take_length] at hown
 have hsl:=Zn.of_own hown
 clear q4 ca cb cm
 go_wp2_with fail
 refine (Zr3 w.heap.size _ _ _ wr hsl).mono ?_
 rintro e w5 ⟨v5,rfl,e5,sl5⟩
 go_wp2_with fail
 go_ret
 exact ⟨_,rfl,Xt er e5,sl5⟩
theorem undt_any (base:Nat) (v:Value) (ks:List Dt) (s1 s2:Nat) (l1 l2:Zr) (o1 o2:List Off) (w:World) (h:Zn w base 5 v ks.length (ks.flatMap Yf)) (h1:StB w s1 l1 o1) (h2:StB w s2 l2 o2) (hn:ks.length<=4096):
 Calls Tryz.prog 81 #[v,.func (.func 132) #[] #[.pointer (some ⟨s1,0,none⟩)],.func (.func 132) #[] #[.pointer (some ⟨s2,0,none⟩)],.func (.func 84) #[] #[]] w
  (Zfk 5 (unL (Zku l1) (Zku l2) mkDt ks).length ((unL (Zku l1) (Zku l2) mkDt ks).flatMap Yf) w):=by
 obtain ⟨A,cap,rfl,q1,q2,q3,q4⟩:=h
 obtain ⟨i0,zi,zz0,zz1,zz2⟩:=info_parts dt_info
 have hn63:(ks.length:Int)<=9223372036854775807:=by omega
 have ca:∀W (_:Ext w W) x,Calls Tryz.prog 132 #[V5 x,.pointer (some ⟨s1,0,none⟩)] W (Ret (.int .i64 (Zku l1 x)) W):=fun W k x=>Zk9 s1 l1 o1 x W (h1.ext k)
 have cb:∀W (_:Ext w W) x,Calls Tryz.prog 132 #[V5 x,.pointer (some ⟨s2,0,none⟩)] W (Ret (.int .i64 (Zku l2 x)) W):=fun W k x=>Zk9 s2 l2 o2 x W (h2.ext k)
 have cm:∀W x p q,Calls Tryz.prog 84 #[V5 x,.int .i64 p,.int .i64 q] W (Ret (V5 (mkDt x p q)) W):=fun W x p q=>mkdt_any x p q W
 generalize Zku l1=fa at *
 generalize Zku l2=fb at *
 generalize mkDt=fm at *
 clear h1 h2
 go_enter Tryz.func81,Tryz.ntmps81
 go_wp2
 go_loopw [9,11,12,13,16,17,18,19,20,21,22,23,24,25,26,27,28,29,30,31,32,33,34,35,36,37] (fun ov _ _ _ iv _ _ _ _ _ _ _ _ _ _ _ _ _ _ _ _ _ _ _ _ _ wr=>∃k:Nat,k<=ks.length/\iv= .int .i64 k/\Ext w wr/\wr.ownsRow w.heap.size 127 5 ov (unL fa fb fm (ks.take k)).length ((unL fa fb fm (ks.take k)).flatMap Yf)) (fun _ _ _ _ iv _ _ _ _ _ _ _ _ _ _ _ _ _ _ _ _ _ _ _ _ _ _=>ks.length-(intOf iv).toNat)
 case atStart=>exact ⟨0,Nat.zero_le _,rfl,Ext.refl _,World.ownsRow_nil _ _ _ _⟩
 obtain ⟨k,hk,rfl,er,hown⟩:=hrel
 obtain ⟨AO,capO,rfl⟩:=Z7 hown
 by_cases hkn:k<ks.length
 ·rcases q4 with q4 | ⟨g,rfl,hb,hlt,hcell⟩
  ·omega
  have hj1:(0:Int)<=(k:Int):=by omega
  have hj2:(k:Int)<(ks.length:Int):=by omega
  have hld:=Zmy wr g k ks hkn (fun j u hu=>(Zf (er.block hlt)).trans (hcell j u hu))
  have hnx:=Zii fa fb fm ks k hkn
  have hfew:(unL fa fb fm (ks.take k)).length<=4096:=Nat.le_trans (Zmm _ _ _ _) (by rw [List.length_take];omega)
  have hz:=Zb wr (.cells #[.int .u8 0,.int .u8 0,.int .u8 0,.int .i64 0,.int .i64 0] 127)
  have ez:=Zc wr (.cells #[.int .u8 0,.int .u8 0,.int .u8 0,.int .i64 0,.int .i64 0] 127)
  generalize (ks[k]'hkn)=x at *
  generalize unL fa fb fm (ks.take k)=acc at *
  have HNX:=Lib.hid hnx
  clear hnx hcell
  have ca1:=fun W (kw:Ext wr W)=>ca W (Xt er kw) x
  have cb1:=fun W (kw:Ext wr W)=>cb W (Xt er kw) x
  have cm1:=fun W p q=>cm W x p q
  generalize hva:fa x=va at *
  generalize hvb:fb x=vb at *
  clear ca cb cm hva hvb
  have cm2:=fun W=>cm1 W va vb
  generalize fm x va vb=y at *
  clear cm1
  obtain ⟨x0,x1,x2,x3,x4⟩:=x
  obtain ⟨y0,y1,y2,y3,y4⟩:=y
  simp only [V5] at hld ca1 cb1 cm2
  by_cases hab:va=vb
  ·subst hab
   have HN:=HNX.out
   rw [if_pos rfl,List.append_nil] at HN
   have HN:=Lib.hid HN
   have hne:(va !=va)=false:=by simp [bne]
   clear HNX
   go_wp2_with (first
    | (refine Zd rfl 127 _ _ _ rfl rfl hld ?_)
    | (refine Ze rfl rfl 127 _ _ rfl wr.heap.size _ rfl rfl 127 _ hz (by kernel_rfl) (by rfl) (by rfl) ?_
       intro w5 hb5 ho5 hs5
       have e5:Ext wr w5:=hb5 _ _ (Nat.le_refl _) ez))
   clear hld hb5 ho5 hz ez
   refine Z9 Zl [] (by kernel_rfl) (by kernel_rfl) ?_
   intro w1 hw1
   have ldb:=fun wq (hq:Cls w1 wq)=>run_loadVar_row wq wr.heap.size _ _ _ _ _ ((Xt hw1 (Zgo hq)).at hs5) Tryz.underlying127 rfl (by kernel_rfl)
   have cau:=fun u:ExtOf w1=>ca1 u.to (Xt e5 (Xt hw1 u.h))
   have cbu:=fun u:ExtOf w1=>cb1 u.to (Xt e5 (Xt hw1 u.h))
   simp only [Zk,Rg.hsB,Nat.reduceAdd,↓reduceIte]
   repeat (first | go_big_quiet_step ((go_at_call 132;first | with_reducible exact Ret.cls (cau _) | with_reducible exact Ret.cls (cbu _))) | (go_big_quiet_want;(refine Z0 127 _ _ _ rfl rfl ldb ?_);go_big_quiet_on;simp only [Act.put,Rg.puB]))
   refine wpQuiet_nil ?_
   refine Xc (by kernel_rfl) ?_
   intro w6 e6 e6'
   try simp only [Act.put,Rg.puC,Rg.puB]
   clear ldb cau cbu
   go_wp2_with fail
   exact ⟨⟨k+1,by omega,by go_num,Xt er (Xt e5 e6),by rw [HN.out];exact Zo hown (Xt e5 e6)⟩,by simp [intOf];omega⟩
  have HN:=HNX.out
  rw [if_neg hab] at HN
  have HN:=Lib.hid HN
  have hne:(va !=vb)=true:=by simp [bne,hab]
  clear HNX hab
  go_wp2_with (first
   | (refine Zd rfl 127 _ _ _ rfl rfl hld ?_)
   | (refine Ze rfl rfl 127 _ _ rfl wr.heap.size _ rfl rfl 127 _ hz (by kernel_rfl) (by rfl) (by rfl) ?_
      intro w5 hb5 ho5 hs5
      have e5:Ext wr w5:=hb5 _ _ (Nat.le_refl _) ez))
  clear hld hb5 ho5 hz ez
  refine Z9 Zl [] (by kernel_rfl) (by kernel_rfl) ?_
  intro w1 hw1
  have ldb:=fun wq (hq:Cls w1 wq)=>run_loadVar_row wq wr.heap.size _ _ _ _ _ ((Xt hw1 (Zgo hq)).at hs5) Tryz.underlying127 rfl (by kernel_rfl)
  have cau:=fun u:ExtOf w1=>ca1 u.to (Xt e5 (Xt hw1 u.h))
  have cbu:=fun u:ExtOf w1=>cb1 u.to (Xt e5 (Xt hw1 u.h))
  simp only [Zk,Rg.hsB,Nat.reduceAdd,↓reduceIte]
  repeat (first | go_big_quiet_step ((go_at_call 132;first | with_reducible exact Ret.cls (cau _) | with_reducible exact Ret.cls (cbu _))) | (go_big_quiet_want;(refine Z0 127 _ _ _ rfl rfl ldb ?_);go_big_quiet_on;simp only [Act.put,Rg.puB]))
  refine wpQuiet_nil ?_
  refine Xc (by kernel_rfl) ?_
  intro w6 e6 e6'
  try simp only [Act.put,Rg.puC,Rg.puB]
  clear ldb cau cbu
  have ldc:=run_loadVar_row w6 wr.heap.size _ _ _ _ _ (e6.at hs5) Tryz.underlying127 rfl (by kernel_rfl)
  go_wp2_with (refine Zd rfl 127 _ _ _ rfl rfl ldc ?_)
  refine (cm2 w6).mono ?_
  rintro e w7 ⟨rfl,e7⟩
  have E7:=Xt er (Xt e5 (Xt e6 e7))
  have hs7:=E7.size
  have hown7:=Zo hown (Xt e5 (Xt e6 e7))
  have e8:=Zc w7 (.cells #[.int .u8 y0,.int .u8 y1,.int .u8 y2,.int .i64 y3,.int .i64 y4] 127)
  clear ldc hs5 hown
  go_wp2_with (first
   | (at_builtin;refine wpList_append_own _ rfl _ _ 113 rfl w.heap.size 127 i0 (.agg #[.int .u8 0,.int .u8 0,.int .u8 0,.int .i64 0,.int .i64 0]) 5 24 Tryz.underlying113 zi zz0 zz1 zz2 rfl (by decide) (.slice AO acc.length capO) acc.length _ rfl (Zo hown7 e8) ⟨w7.heap.size,0,none⟩ 1 1 [.int .u8 y0,.int .u8 y1,.int .u8 y2,.int .i64 y3,.int .i64 y4] rfl rfl (Uv w7 [.int .u8 y0,.int .u8 y1,.int .u8 y2,.int .i64 y3,.int .i64 y4] _) (fun x hx=>by simp only [List.mem_cons,List.not_mem_nil,or_false] at hx;rcases hx with rfl | rfl | rfl | rfl | rfl<;>rfl) (by unfold maxLen;omega) (by omega) (by simp;omega) ?_
      intro v' w9 hown9 hgrow9 hnil9
      have E9:Ext w w9:=(Y6 (S:=[]) (Kx (Xt E7 e8)) hgrow9 (fun q hq=>.inr (hown7.lt q hq).1)).ext))
  exact ⟨⟨k+1,by omega,by go_num,E9,by rw [HN.out,List.length_append,List.flatMap_append];simpa [Yf] using hown9⟩,by simp [intOf];omega⟩
 have hk':k=ks.length:=by omega
 subst hk'
 rw [List.take_length] at hown
 have hsl:=Zn.of_own hown
 clear q4 ca cb cm
 go_wp2_with fail
 refine (Zr5 w.heap.size _ _ _ wr hsl).mono ?_
 rintro e w5 ⟨v5,rfl,e5,sl5⟩
 go_wp2_with fail
 go_ret
 exact ⟨_,rfl,Xt er e5,sl5⟩
theorem unlf_any (base:Nat) (v:Value) (ks:List Int) (s1 s2:Nat) (l1 l2:Zr) (o1 o2:List Off) (w:World) (h:Zn w base 1 v ks.length (ks.map (Value.int .u64))) (h1:StB w s1 l1 o1) (h2:StB w s2 l2 o2) (hn:ks.length<=4096):
 Calls Tryz.prog 85 #[v,.func (.func 139) #[] #[.pointer (some ⟨s1,0,none⟩)],.func (.func 139) #[] #[.pointer (some ⟨s2,0,none⟩)],.func (.func 88) #[] #[]] w
  (Zfk 3 (unL (J5 o1) (J5 o2) mkLf ks).length ((unL (J5 o1) (J5 o2) mkLf ks).flatMap Zh3) w):=by
 obtain ⟨A,cap,rfl,q1,q2,q3,q4⟩:=h
 obtain ⟨i0,zi,zz0,zz1,zz2⟩:=info_parts lf_info
 have hn63:(ks.length:Int)<=9223372036854775807:=by omega
 have ca:∀W (_:Ext w W) x,Calls Tryz.prog 139 #[.int .u64 x,.pointer (some ⟨s1,0,none⟩)] W (Ret (.int .i64 (J5 o1 x)) W):=fun W k x=>Zk8 s1 l1 o1 x W (h1.ext k)
 have cb:∀W (_:Ext w W) x,Calls Tryz.prog 139 #[.int .u64 x,.pointer (some ⟨s2,0,none⟩)] W (Ret (.int .i64 (J5 o2 x)) W):=fun W k x=>Zk8 s2 l2 o2 x W (h2.ext k)
 have cm:∀W x p q,Calls Tryz.prog 88 #[.int .u64 x,.int .i64 p,.int .i64 q] W (Ret (lfAgg (mkLf x p q)) W):=fun W x p q=>mklf_any x p q W
 generalize J5 o1=fa at *
 generalize J5 o2=fb at *
 generalize mkLf=fm at *
 clear h1 h2
 go_enter Tryz.func85,Tryz.ntmps85
 go_wp2
 go_loopw [9,11,12,13,16,17,18,19,20,21,22,23,24,25,26,27,28,29,30,31,32,33,34,35,36,37] (fun ov _ _ _ iv _ _ _ _ _ _ _ _ _ _ _ _ _ _ _ _ _ _ _ _ _ wr=>∃k:Nat,k<=ks.length/\iv= .int .i64 k/\Ext w wr/\wr.ownsRow w.heap.size 129 3 ov (unL fa fb fm (ks.take k)).length ((unL fa fb fm (ks.take k)).flatMap Zh3)) (fun _ _ _ _ iv _ _ _ _ _ _ _ _ _ _ _ _ _ _ _ _ _ _ _ _ _ _=>ks.length-(intOf iv).toNat)
 case atStart=>exact ⟨0,Nat.zero_le _,rfl,Ext.refl _,World.ownsRow_nil _ _ _ _⟩
 obtain ⟨k,hk,rfl,er,hown⟩:=hrel
 obtain ⟨AO,capO,rfl⟩:=Z7 hown
 by_cases hkn:k<ks.length
 ·rcases q4 with q4 | ⟨g,rfl,hb,hlt,hcell⟩
  ·omega
  have hj1:(0:Int)<=(k:Int):=by omega
  have hj2:(k:Int)<(ks.length:Int):=by omega
  have hcw:wr.cell? ⟨g,k,none⟩=some (.int .u64 (ks[k]'hkn)):=(Zf (er.block hlt)).trans (hcell k _ (by simp [hkn]))
  have hnx:=Zii fa fb fm ks k hkn
  have hfew:(unL fa fb fm (ks.take k)).length<=4096:=Nat.le_trans (Zmm _ _ _ _) (by rw [List.length_take];omega)
  generalize (ks[k]'hkn)=x at *
  generalize unL fa fb fm (ks.take k)=acc at *
  have HNX:=Lib.hid hnx
  clear hnx hcell
  have ca1:=fun W (kw:Ext wr W)=>ca W (Xt er kw) x
  have cb1:=fun W (kw:Ext wr W)=>cb W (Xt er kw) x
  have cm1:=fun W p q=>cm W x p q
  generalize hva:fa x=va at *
  generalize hvb:fb x=vb at *
  clear ca cb cm hva hvb
  have cm2:=fun W=>cm1 W va vb
  generalize fm x va vb=y at *
  clear cm1
  obtain ⟨y0,y1,y2⟩:=y
  simp only [lfAgg] at cm2
  go_wp2_with fail
  refine (ca1 wr (Ext.refl _)).mono ?_
  rintro e w5 ⟨rfl,e5⟩
  go_wp2_with fail
  refine (cb1 w5 e5).mono ?_
  rintro e w6 ⟨rfl,e6⟩
  by_cases hab:va=vb
  ·subst hab
   have HN:=HNX.out
   rw [if_pos rfl,List.append_nil] at HN
   have HN:=Lib.hid HN
   have hne:(va !=va)=false:=by simp [bne]
   clear HNX
   go_wp2_with fail
   exact ⟨⟨k+1,by omega,by go_num,Xt er (Xt e5 e6),by rw [HN.out];exact Zo hown (Xt e5 e6)⟩,by simp [intOf];omega⟩
  have HN:=HNX.out
  rw [if_neg hab] at HN
  have HN:=Lib.hid HN
  have hne:(va !=vb)=true:=by simp [bne,hab]
  clear HNX hab
  go_wp2_with fail
  refine (cm2 w6).mono ?_
  rintro e w7 ⟨rfl,e7⟩
  have E7:=Xt er (Xt e5 (Xt e6 e7))
  have hs7:=E7.size
  have hown7:=Zo hown (Xt e5 (Xt e6 e7))
  have e8:=Zc w7 (.cells #[.int .u64 y0,.int .i64 y1,.int .i64 y2] 129)
  clear hown
  go_wp2_with (first
   | (at_builtin;refine wpList_append_own _ rfl _ _ 114 rfl w.heap.size 129 i0 (.agg #[.int .u64 0,.int .i64 0,.int .i64 0]) 3 24 Tryz.underlying114 zi zz0 zz1 zz2 rfl (by decide) (.slice AO acc.length capO) acc.length _ rfl (Zo hown7 e8) ⟨w7.heap.size,0,none⟩ 1 1 [.int .u64 y0,.int .i64 y1,.int .i64 y2] rfl rfl (Uv w7 [.int .u64 y0,.int .i64 y1,.int .i64 y2] _) (fun x hx=>by simp only [List.mem_cons,List.not_mem_nil,or_false] at hx;rcases hx with rfl | rfl | rfl<;>rfl) (by unfold maxLen;omega) (by omega) (by simp;omega) ?_
      intro v' w9 hown9 hgrow9 hnil9
      have E9:Ext w w9:=(Y6 (S:=[]) (Kx (Xt E7 e8)) hgrow9 (fun q hq=>.inr (hown7.lt q hq).1)).ext))
  exact ⟨⟨k+1,by omega,by go_num,E9,by rw [HN.out,List.length_append,List.flatMap_append];simpa [Zh3] using hown9⟩,by simp [intOf];omega⟩
 have hk':k=ks.length:=by omega
 subst hk'
 rw [List.take_length] at hown
 have hsl:=Zn.of_own hown
 clear q4 ca cb cm
 go_wp2_with fail
 refine (Zr4 w.heap.size _ _ _ wr hsl).mono ?_
 rintro e w5 ⟨v5,rfl,e5,sl5⟩
 go_wp2_with fail
 go_ret
 exact ⟨_,rfl,Xt er e5,sl5⟩
structure Qt where
 rep:Int×Int×List Gt
 mv:List Mv
 dt:List Dt
 lf:List Lf
def diffQ (r:Int×Int×List Gt) (L:Led) (B:Bk) (L2:Led) (B2:Bk) (ns:List Int):Qt:=
 ⟨r,unL (Zkl (Z2 L.lines)) (Zkl (Z2 L2.lines)) mkMv Jf,unL (Zku (Z2 L.lines)) (Zku (Z2 L2.lines)) mkDt (Zfh (Z2 L.lines) (Z2 L2.lines)),unL (J5 B.offs) (J5 B2.offs) mkLf ns⟩
def Zmr (l:List Stp) (L:Led) (B:Bk) (ns:List Int):Qt:=
 if (Z6 l L B).1.1≠0 then ⟨(Z6 l L B).1,[],[],[]⟩ else diffQ (Z6 l L B).1 L B (Z6 l L B).2.1 (Z6 l L B).2.2 ns
def RetQ (q:Qt) (w:World) (e:Ending) (w':World):Prop:=∃vg vm vd vo,e= .returned (.agg #[.int .i64 q.rep.1,.int .i64 q.rep.2.1,vg,vm,vd,vo])/\Ext w w'/\
 Zn w' w.heap.size 2 vg q.rep.2.2.length (gtC q.rep.2.2)/\Zn w' w.heap.size 4 vm q.mv.length (q.mv.flatMap X8)/\Zn w' w.heap.size 5 vd q.dt.length (q.dt.flatMap Yf)/\Zn w' w.heap.size 3 vo q.lf.length (q.lf.flatMap Zh3)
theorem Zip:Jf.length=128:=by unfold Jf;rw [List.length_map,List.length_range]
theorem bothL_few (l1 l2:Zr):(Zfh l1 l2).length<=4096:=by
 have:=List.length_filter_le (fun d:Dt=>J8 l1 d.k||J8 l2 d.k) Ji
 rw [Uf] at this
 unfold Zfh
 omega
theorem fra_row {w w':World} {b:Nat} (hb:∀(B:Nat) (w0:World),B<=b->Below B w0 w->Below B w0 w') (ho:∀k,k≠b->w'.heap[k]? =w.heap[k]?):FrA (fun x=>x=b) w w':=by
 have h:=hb b w (Nat.le_refl _) (Below.refl _ _)
 exact ⟨h.os,h.tape,h.output,h.size,fun i _ hA=>ho i hA⟩
theorem qof_any (q p m pb:Nat) (g:Option Nat) (L:Led) (B:Bk) (l:List Stp) (v:Value) (w:World) (h:IsM w q p m pb g L B) (hs:Zbu w 10 v l.length (X3 l)) (hin:∀s∈l,Zfl s) (ns:List Int) (hns4:ns.length<=4096)
 (hns:(Z6 l L B).1.1=0->∀W v1 v2 v3 nx u1 u2 u3 nu,(∃A n c,v1= .slice A n c)->(∃A n c,v2= .slice A n c)->(∃A n c,v3= .slice A n c)->(∃A n c,u1= .slice A n c)->(∃A n c,u2= .slice A n c)->(∃A n c,u3= .slice A n c)->
   Zn W 0 7 v3 B.offs.length (Zi B.offs)->Zn W 0 7 u3 (Z6 l L B).2.2.offs.length (Zi (Z6 l L B).2.2.offs)->
   Calls Tryz.prog 86 #[.agg #[v1,v2,v3,.int .u64 nx],.agg #[u1,u2,u3,.int .u64 nu]] W (Zfk 1 ns.length (ns.map (Value.int .u64)) W)):
 Calls Tryz.prog 44 #[.pointer (some ⟨q,0,none⟩),.agg #[v]] w (RetQ (Zmr l L B ns) w):=by
 have hq:Zmr l L B ns=if (Z6 l L B).1.1≠0 then ⟨(Z6 l L B).1,[],[],[]⟩ else diffQ (Z6 l L B).1 L B (Z6 l L B).2.1 (Z6 l L B).2.2 ns:=rfl
 have HQ:=Lib.hid hq
 generalize Zmr l L B ns=qt at *
 clear hq
 have e0:=Zc w (.cells #[v] 42)
 have s0:=size_alloc w (.cells #[v] 42)
 have h0:=Zb w (.cells #[v] 42)
 generalize hW:w.alloc (.cells #[v] 42)=W at *
 have HW:=Lib.hid hW
 clear hW
 have HNS:=Lib.hid hns
 have HS:=Lib.hid hs
 have HIN:=Lib.hid hin
 clear hns hs hin
 go_enter Tryz.func44,Tryz.ntmps44
 go_wp2_with (first
  | (refine Zu rfl 116 rfl (.cells #[.int .i64 0,.int .i64 0,.slice none 0 0,.slice none 0 0,.slice none 0 0,.slice none 0 0] 116) _ rfl (by go_simp) ?_
     rw [HW.out]
     intro w2 e2 h2
     rw [s0] at h2))
 have e02:=Xt e0 e2
 refine (Zk3 q p m pb g L B w2 (h.ext e02)).mono ?_
 rintro e w3 ⟨sv,rfl,e3,hst⟩
 obtain ⟨v1,v2,v3,rfl,⟨A1,n1,c1,rfl⟩,⟨A2,n2,c2,rfl⟩,⟨A3,n3,c3,rfl⟩,sl2,sl3⟩:=stB_new hst
 have hz3:=Zb w3 (.cells #[.slice none 0 0,.slice none 0 0,.slice none 0 0,.int .u64 0] 47)
 go_wp2_with (first
  | (refine Ze rfl rfl 47 _ _ rfl w3.heap.size _ rfl rfl 47 _ hz3 (by kernel_rfl) (by rfl) (by rfl) ?_
     intro w4 hb4 ho4 h4
     have e4:Ext w3 w4:=hb4 _ _ (Nat.le_refl _) (Zc _ _)))
 have E4:=Xt e02 (Xt e3 e4)
 clear hb4 ho4 hz3 hst
 refine (Zf6 q p m pb g L B w4 (h.ext E4)).mono ?_
 rintro e w5 ⟨q1,p1,m1,pb1,g1,rfl,e5,hM5,hq1⟩
 have E5:=Xt E4 e5
 have h24:=(Xt e3 e4).at h2
 have S2:=sl2.ext e4
 have S3:=sl3.ext e4
 have s25:=E4.size
 have lt3:=Zg h4
 have lt2:=Zg h24
 have ldc:=Zi9 (w:=w5) (Za (j:=0) ((Xt e2 (Xt e3 (Xt e4 e5))).at h0) rfl)
 have hAr:=HS.out.ext E5
 have h0M:=h.ok
 clear h0 h2 sl2 sl3 HS HW h e0 s0
 go_wp2_with (refine Zd rfl 42 _ _ _ rfl rfl ldc ?_)
 refine (Zbs q1 p1 m1 pb1 g1 L B l v w5 hM5 hAr (fun s hs=>HIN.out s hs)).mono ?_
 rintro e w6 ⟨v6,p6,m6,pb6,g6,rfl,f6,sg6,hM6⟩
 have E46:Ext w4 w6:=FrA.ext0 e5 f6 (fun x (hx:x=q1)=>by omega)
 have h26:=E46.at h24
 have h46:=E46.at h4
 have S26:=S2.ext E46
 have S36:=S3.ext E46
 have E6:=Xt E4 E46
 have G6:=Zn.low (base':=w4.heap.size) sg6 e5.size
 have le36:=E46.size
 clear h24 h4 S2 S3 ldc hAr HIN f6 hM5 sg6 E5 E46 e5 e3 e4 e2 e02
 generalize Z6 l L B=r at *
 obtain ⟨⟨E,At,gl⟩,L2,B2⟩:=r
 simp only at G6 hM6
 obtain ⟨A6,c6,rfl,b61,b62,b63,b64⟩:=id G6
 have G6:=Lib.hid G6
 clear b61 b62 b63 b64
 have hz6:=Zb w6 (.cells #[.int .i64 0,.int .i64 0,.slice none 0 0] 38)
 by_cases hE:E=0
 ·subst hE
  have hQ:=HQ.out
  rw [if_neg (by simp)] at hQ
  clear HQ
  have HQ:=Lib.hid hQ
  have hN:=HNS.out rfl
  have HN:=Lib.hid hN
  clear hQ hN HNS
  go_wp2_with (first
   | (refine Ze rfl rfl 38 _ _ rfl w6.heap.size _ rfl rfl 38 _ hz6 (by kernel_rfl) (by rfl) (by rfl) ?_
      intro w7 hb7 ho7 h7
      have e7:Ext w6 w7:=hb7 _ _ (Nat.le_refl _) (Zc _ _)
      have y0:=Za (j:=0) h7 rfl))
  clear y0 hb7 ho7 hz6
  refine (Zk3 q1 p6 m6 pb6 g6 L2 B2 w7 (hM6.ext e7)).mono ?_
  rintro e w8 ⟨sv2,rfl,e8,hst2⟩
  obtain ⟨u1,u2,u3,rfl,⟨D1,k1,d1,rfl⟩,⟨D2,k2,d2,rfl⟩,⟨D3,k3,d3,rfl⟩,tl2,tl3⟩:=stB_new hst2
  have hok1:=lns_ok h0M.wf
  have hok2:=lns_ok hM6.ok.wf
  have hz8:=Zb w8 (.cells #[.slice none 0 0,.slice none 0 0,.slice none 0 0,.int .u64 0] 47)
  clear hst2 hM6
  go_wp2_with (first
   | (refine Ze rfl rfl 47 _ _ rfl w8.heap.size _ rfl rfl 47 _ hz8 (by kernel_rfl) (by rfl) (by rfl) ?_
      intro w9 hb9 ho9 h9
      have e9:Ext w8 w9:=hb9 _ _ (Nat.le_refl _) (Zc _ _)))
  clear hb9 ho9 hz8
  have E69:=Xt e7 (Xt e8 e9)
  have h29:=E69.at h26
  have h49:=E69.at h46
  have h79:=(Xt e8 e9).at h7
  have P2:=S26.ext E69
  have P3:=S36.ext E69
  have T2:=tl2.ext e9
  have T3:=tl3.ext e9
  have G9:=Lib.hid (G6.out.ext E69)
  have E9:=Xt E6 E69
  have lt9:w4.heap.size<=w9.heap.size:=Nat.le_trans le36 E69.size
  clear h26 h46 h7 S26 S36 tl2 tl3 G6 E6 E69 e7 e8 e9
  refine Zh Zl 23 [1,3,5,6,9,11,13,14,17,19,21,22] (by kernel_rfl) (by kernel_rfl) ?_
  intro w1 hw1
  have ld7:=fun wq (hq:Cls w1 wq)=>run_loadVar_row wq w6.heap.size _ _ _ _ _ ((Xt hw1 (Zgo hq)).at h79) Tryz.underlying38 rfl (by kernel_rfl)
  have lda:=fun wq (hq:Cls w1 wq)=>run_loadVar_row wq w3.heap.size _ _ _ _ _ ((Xt hw1 (Zgo hq)).at h49) Tryz.underlying47 rfl (by kernel_rfl)
  have ldb:=fun wq (hq:Cls w1 wq)=>run_loadVar_row wq w8.heap.size _ _ _ _ _ ((Xt hw1 (Zgo hq)).at h9) Tryz.underlying47 rfl (by kernel_rfl)
  simp only [Zk,Rg.hsB,Nat.reduceBEq,Nat.reduceAdd,↓reduceIte]
  repeat (first | go_big_quiet_step ((fail)) | (go_big_quiet_want;(first | refine Z0 38 _ _ _ rfl rfl ld7 ?_ | refine Z0 47 _ _ _ rfl rfl lda ?_ | refine Z0 47 _ _ _ rfl rfl ldb ?_);go_big_quiet_on;simp only [Act.put,Rg.puB]))
  refine wpQuiet_nil ?_
  clear ld7 lda ldb hw1
  refine Zv 1 78 _ #[] _ (by rfl) _ _ (by rfl) Tryz.func78 rfl rfl (by kernel_rfl) (by rfl) (by kernel_rfl) (by decide) ?_
  intro wa h0a ha2
  refine (spots_any wa).mono ?_
  rintro e wb ⟨vsp,rfl,eb,hsp⟩
  have h0b:=Xt h0a eb
  have SP:=(Zn.of_own hsp).low (base':=w4.heap.size) (Nat.le_trans lt9 h0a.size)
  clear h0a ha2 eb hsp
  refine ⟨_,rfl,h0b,?_⟩
  refine Zv 3 79 _ #[.agg #[.slice A1 n1 c1,.slice A2 n2 c2,.slice A3 n3 c3,.int .u64 B.next]] _ (by rfl) _ _ (by rfl) Tryz.func79 rfl rfl (by kernel_rfl) (by rfl) (by kernel_rfl) (by decide) ?_
  intro wc h0c hc2
  refine (Zg5 _ _ _ _ (Z2 L.lines) B.offs wc ⟨_,_,_,rfl⟩ ⟨_,_,_,rfl⟩ ⟨_,_,_,rfl⟩ (P2.ext h0c) (P3.ext h0c)).mono ?_
  rintro e wd ⟨bp1,rfl,ed,sp1⟩
  have h0d:=Xt h0c ed
  have SP:=SP.ext (Xt hc2 ed)
  clear h0c hc2 ed h0b
  refine ⟨_,rfl,h0d,?_⟩
  refine Zv 5 79 _ #[.agg #[.slice D1 k1 d1,.slice D2 k2 d2,.slice D3 k3 d3,.int .u64 B2.next]] _ (by rfl) _ _ (by rfl) Tryz.func79 rfl rfl (by kernel_rfl) (by rfl) (by kernel_rfl) (by decide) ?_
  intro wc h0c hc2
  refine (Zg5 _ _ _ _ (Z2 L2.lines) B2.offs wc ⟨_,_,_,rfl⟩ ⟨_,_,_,rfl⟩ ⟨_,_,_,rfl⟩ (T2.ext h0c) (T3.ext h0c)).mono ?_
  rintro e we ⟨bp2,rfl,ed,sp2⟩
  have h0e:=Xt h0c ed
  have SP:=SP.ext (Xt hc2 ed)
  have sp1:=sp1.ext (Xt hc2 ed)
  clear h0c hc2 ed h0d
  refine ⟨_,rfl,h0e,?_⟩
  refine Zv 6 77 _ #[vsp,.func (.func 124) #[] #[.pointer (some ⟨bp1,0,none⟩)],.func (.func 124) #[] #[.pointer (some ⟨bp2,0,none⟩)],.func (.func 80) #[] #[]] _ (by rfl) _ _ (by rfl) Tryz.func77 rfl rfl (by kernel_rfl) (by rfl) (by kernel_rfl) (by decide) ?_
  intro wx6 h0x hx2
  refine (unmv_any w4.heap.size vsp Jf bp1 bp2 (Z2 L.lines) (Z2 L2.lines) B.offs B2.offs wx6 (by rw [Zip];exact SP.ext hx2) (sp1.ext hx2) (sp2.ext hx2) hok1 hok2 (by rw [Zip];decide)).mono ?_
  rintro e wy6 ⟨vmv,rfl,ey,slm⟩
  have h0y6:=Xt h0x ey
  have SM:=slm.low (base':=w4.heap.size) (Nat.le_trans lt9 h0x.size)
  clear SP sp1 sp2 slm
  clear h0x hx2 ey h0e
  refine ⟨_,rfl,h0y6,?_⟩
  refine Zv 9 82 _ #[.agg #[.slice A1 n1 c1,.slice A2 n2 c2,.slice A3 n3 c3,.int .u64 B.next],.agg #[.slice D1 k1 d1,.slice D2 k2 d2,.slice D3 k3 d3,.int .u64 B2.next]] _ (by rfl) _ _ (by rfl) Tryz.func82 rfl rfl (by kernel_rfl) (by rfl) (by kernel_rfl) (by decide) ?_
  intro wx9 h0x hx2
  refine (Zqo _ _ _ _ _ _ _ _ (Z2 L.lines) (Z2 L2.lines) B.offs B2.offs wx9 ⟨_,_,_,rfl⟩ ⟨_,_,_,rfl⟩ ⟨_,_,_,rfl⟩ (P2.ext h0x) (P3.ext h0x) ⟨_,_,_,rfl⟩ ⟨_,_,_,rfl⟩ ⟨_,_,_,rfl⟩ (T2.ext h0x) (T3.ext h0x)).mono ?_
  rintro e wy9 ⟨vln,rfl,ey,sll⟩
  have h0y9:=Xt h0x ey
  have SM:=SM.ext (Xt hx2 ey)
  have SL:=sll.low (base':=w4.heap.size) (Nat.le_trans lt9 h0x.size)
  clear sll
  clear h0x hx2 ey h0y6
  refine ⟨_,rfl,h0y9,?_⟩
  refine Zv 11 83 _ #[.agg #[.slice A1 n1 c1,.slice A2 n2 c2,.slice A3 n3 c3,.int .u64 B.next]] _ (by rfl) _ _ (by rfl) Tryz.func83 rfl rfl (by kernel_rfl) (by rfl) (by kernel_rfl) (by decide) ?_
  intro wx11 h0x hx2
  refine (mk_debt _ _ _ _ (Z2 L.lines) B.offs wx11 ⟨_,_,_,rfl⟩ ⟨_,_,_,rfl⟩ ⟨_,_,_,rfl⟩ (P2.ext h0x) (P3.ext h0x)).mono ?_
  rintro e wy11 ⟨bd1,rfl,ey,sd1⟩
  have h0y11:=Xt h0x ey
  have SM:=SM.ext (Xt hx2 ey)
  have SL:=SL.ext (Xt hx2 ey)
  clear h0x hx2 ey h0y9
  refine ⟨_,rfl,h0y11,?_⟩
  refine Zv 13 83 _ #[.agg #[.slice D1 k1 d1,.slice D2 k2 d2,.slice D3 k3 d3,.int .u64 B2.next]] _ (by rfl) _ _ (by rfl) Tryz.func83 rfl rfl (by kernel_rfl) (by rfl) (by kernel_rfl) (by decide) ?_
  intro wx13 h0x hx2
  refine (mk_debt _ _ _ _ (Z2 L2.lines) B2.offs wx13 ⟨_,_,_,rfl⟩ ⟨_,_,_,rfl⟩ ⟨_,_,_,rfl⟩ (T2.ext h0x) (T3.ext h0x)).mono ?_
  rintro e wy13 ⟨bd2,rfl,ey,sd2⟩
  have h0y13:=Xt h0x ey
  have SM:=SM.ext (Xt hx2 ey)
  have SL:=SL.ext (Xt hx2 ey)
  have sd1:=sd1.ext (Xt hx2 ey)
  clear h0x hx2 ey h0y11
  refine ⟨_,rfl,h0y13,?_⟩
  refine Zv 14 81 _ #[vln,.func (.func 132) #[] #[.pointer (some ⟨bd1,0,none⟩)],.func (.func 132) #[] #[.pointer (some ⟨bd2,0,none⟩)],.func (.func 84) #[] #[]] _ (by rfl) _ _ (by rfl) Tryz.func81 rfl rfl (by kernel_rfl) (by rfl) (by kernel_rfl) (by decide) ?_
  intro wx14 h0x hx2
  refine (undt_any w4.heap.size vln (Zfh (Z2 L.lines) (Z2 L2.lines)) bd1 bd2 (Z2 L.lines) (Z2 L2.lines) B.offs B2.offs wx14 (SL.ext hx2) (sd1.ext hx2) (sd2.ext hx2) (bothL_few _ _)).mono ?_
  rintro e wy14 ⟨vdt,rfl,ey,sld⟩
  have h0y14:=Xt h0x ey
  have SM:=SM.ext (Xt hx2 ey)
  have SD:=sld.low (base':=w4.heap.size) (Nat.le_trans lt9 h0x.size)
  clear SL sd1 sd2 sld
  clear h0x hx2 ey h0y13
  refine ⟨_,rfl,h0y14,?_⟩
  refine Zv 17 86 _ #[.agg #[.slice A1 n1 c1,.slice A2 n2 c2,.slice A3 n3 c3,.int .u64 B.next],.agg #[.slice D1 k1 d1,.slice D2 k2 d2,.slice D3 k3 d3,.int .u64 B2.next]] _ (by rfl) _ _ (by rfl) Tryz.func86 rfl rfl (by kernel_rfl) (by rfl) (by kernel_rfl) (by decide) ?_
  intro wx17 h0x hx2
  refine (HN.out wx17 _ _ _ _ _ _ _ _ ⟨_,_,_,rfl⟩ ⟨_,_,_,rfl⟩ ⟨_,_,_,rfl⟩ ⟨_,_,_,rfl⟩ ⟨_,_,_,rfl⟩ ⟨_,_,_,rfl⟩ (P3.ext h0x) (T3.ext h0x)).mono ?_
  rintro e wy17 ⟨vnu,rfl,ey,sln⟩
  have h0y17:=Xt h0x ey
  have SM:=SM.ext (Xt hx2 ey)
  have SD:=SD.ext (Xt hx2 ey)
  have SN:=sln.low (base':=w4.heap.size) (Nat.le_trans lt9 h0x.size)
  clear sln
  clear h0x hx2 ey h0y14
  refine ⟨_,rfl,h0y17,?_⟩
  refine Zv 19 87 _ #[.agg #[.slice A1 n1 c1,.slice A2 n2 c2,.slice A3 n3 c3,.int .u64 B.next]] _ (by rfl) _ _ (by rfl) Tryz.func87 rfl rfl (by kernel_rfl) (by rfl) (by kernel_rfl) (by decide) ?_
  intro wx19 h0x hx2
  refine (mk_left _ _ _ _ (Z2 L.lines) B.offs wx19 ⟨_,_,_,rfl⟩ ⟨_,_,_,rfl⟩ ⟨_,_,_,rfl⟩ (P2.ext h0x) (P3.ext h0x)).mono ?_
  rintro e wy19 ⟨bl1,rfl,ey,sf1⟩
  have h0y19:=Xt h0x ey
  have SM:=SM.ext (Xt hx2 ey)
  have SD:=SD.ext (Xt hx2 ey)
  have SN:=SN.ext (Xt hx2 ey)
  clear h0x hx2 ey h0y17
  refine ⟨_,rfl,h0y19,?_⟩
  refine Zv 21 87 _ #[.agg #[.slice D1 k1 d1,.slice D2 k2 d2,.slice D3 k3 d3,.int .u64 B2.next]] _ (by rfl) _ _ (by rfl) Tryz.func87 rfl rfl (by kernel_rfl) (by rfl) (by kernel_rfl) (by decide) ?_
  intro wx21 h0x hx2
  refine (mk_left _ _ _ _ (Z2 L2.lines) B2.offs wx21 ⟨_,_,_,rfl⟩ ⟨_,_,_,rfl⟩ ⟨_,_,_,rfl⟩ (T2.ext h0x) (T3.ext h0x)).mono ?_
  rintro e wy21 ⟨bl2,rfl,ey,sf2⟩
  have h0y21:=Xt h0x ey
  have SM:=SM.ext (Xt hx2 ey)
  have SD:=SD.ext (Xt hx2 ey)
  have SN:=SN.ext (Xt hx2 ey)
  have sf1:=sf1.ext (Xt hx2 ey)
  clear h0x hx2 ey h0y19
  refine ⟨_,rfl,h0y21,?_⟩
  refine Zv 22 85 _ #[vnu,.func (.func 139) #[] #[.pointer (some ⟨bl1,0,none⟩)],.func (.func 139) #[] #[.pointer (some ⟨bl2,0,none⟩)],.func (.func 88) #[] #[]] _ (by rfl) _ _ (by rfl) Tryz.func85 rfl rfl (by kernel_rfl) (by rfl) (by kernel_rfl) (by decide) ?_
  intro wx22 h0x hx2
  refine (unlf_any w4.heap.size vnu ns bl1 bl2 (Z2 L.lines) (Z2 L2.lines) B.offs B2.offs wx22 (SN.ext hx2) (sf1.ext hx2) (sf2.ext hx2) hns4).mono ?_
  rintro e wy22 ⟨vlf,rfl,ey,slf⟩
  have h0y22:=Xt h0x ey
  have SM:=SM.ext (Xt hx2 ey)
  have SD:=SD.ext (Xt hx2 ey)
  have SF:=slf.low (base':=w4.heap.size) (Nat.le_trans lt9 h0x.size)
  clear SN sf1 sf2 slf
  clear h0x hx2 ey h0y21
  refine ⟨_,rfl,h0y22,?_⟩
  obtain ⟨M1,m1',m2',rfl⟩:∃A n c,vmv= .slice A n c:=let ⟨A,c,h,_⟩:=SM;⟨A,_,c,h⟩
  obtain ⟨M2,m3',m4',rfl⟩:∃A n c,vdt= .slice A n c:=let ⟨A,c,h,_⟩:=SD;⟨A,_,c,h⟩
  obtain ⟨M3,m5',m6',rfl⟩:∃A n c,vlf= .slice A n c:=let ⟨A,c,h,_⟩:=SF;⟨A,_,c,h⟩
  refine Zj (by kernel_rfl) ?_
  intro wz ez ez'
  simp only [Act.put,Rg.puC,Rg.puB]
  have h2z:=ez.at h29
  go_wp2_with (first
   | (refine Ze rfl rfl 116 _ _ rfl (w.heap.size+1) _ rfl rfl 116 _ h2z (by kernel_rfl) (by rfl) (by rfl) ?_
      intro wl hbl hol hrl))
  have EL:Ext w wl:=hbl _ _ (by omega) (Xt E9 ez)
  have fl:=fra_row hbl hol
  refine Yp (w.heap.size+1) 116 _ _ _ rfl rfl hrl Tryz.underlying116 rfl (by kernel_rfl) rfl ?_
  rw [HQ.out]
  exact ⟨_,_,_,_,rfl,EL,((G9.out.ext ez).fra2 fl (fun x (hx:x=w.heap.size+1)=>by omega)).low s25,((SM.ext ez').fra2 fl (fun x (hx:x=w.heap.size+1)=>by omega)).low s25,
   ((SD.ext ez').fra2 fl (fun x (hx:x=w.heap.size+1)=>by omega)).low s25,((SF.ext ez').fra2 fl (fun x (hx:x=w.heap.size+1)=>by omega)).low s25⟩
 have hEb:(E !=0)=true:=by simpa [bne] using hE
 have hQ:=HQ.out
 rw [if_pos (show E≠0 from hE)] at hQ
 clear HQ
 have HQ:=Lib.hid hQ
 clear hQ HNS hM6
 go_wp2_with (first
  | (refine Ze rfl rfl 38 _ _ rfl w6.heap.size _ rfl rfl 38 _ hz6 (by kernel_rfl) (by rfl) (by rfl) ?_
     intro w7 hb7 ho7 h7
     have e7:Ext w6 w7:=hb7 _ _ (Nat.le_refl _) (Zc _ _)
     have y0:=Za (j:=0) h7 rfl
     have h27:=e7.at h26
     have ld7:=run_loadVar_row w7 w6.heap.size _ _ _ _ _ h7 Tryz.underlying38 rfl (by kernel_rfl))
  | (refine Zd rfl 38 _ _ _ rfl rfl ld7 ?_)
  | (refine Ze rfl rfl 116 _ _ rfl (w.heap.size+1) _ rfl rfl 116 _ h27 (by kernel_rfl) (by rfl) (by rfl) ?_
     intro w8 hb8 ho8 h8))
 have E8:Ext w w8:=hb8 _ _ (by omega) (Xt E6 e7)
 have f8:=fra_row hb8 ho8
 refine Yp (w.heap.size+1) 116 _ _ _ rfl rfl h8 Tryz.underlying116 rfl (by kernel_rfl) rfl ?_
 rw [HQ.out]
 exact ⟨_,_,_,_,rfl,E8,((G6.out.ext e7).fra2 f8 (fun x (hx:x=w.heap.size+1)=>by omega)).low s25,Zbf _ _ _,Zbf _ _ _,Zbf _ _ _⟩
end Go.Proofs.YtipjchbdogmccaaGreat
