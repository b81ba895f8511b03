/- The book: what lies in memory; where an offer is. The book, further: new, find, copy. The book, further: a copy. The book, further: may an offer be; one more. The book, further: a copy. -/
import Derived.Test.YtipjchbdogmccaaGreatLed6
import Derived.Lib.SliceRun
import Derived.Test.YtipjchbdogmccaaGreatNum3
set_option maxHeartbeats 1600000
set_option maxRecDepth 100000
namespace Go.Proofs.YtipjchbdogmccaaGreat
open Go.RowKit Go.Rg Go.BigFrame
structure Off where
 seq:Int
 owner:Int
 sell:Int
 buy:Int
 left:Int
 num:Int
 den:Int
def Off.cells (o:Off):List Value:=[.int .u64 o.seq,.int .u8 o.owner,.int .u8 o.sell,.int .u8 o.buy,.int .i64 o.left,.int .i64 o.num,.int .i64 o.den]
def Off.agg (o:Off):Value:= .agg #[.int .u64 o.seq,.int .u8 o.owner,.int .u8 o.sell,.int .u8 o.buy,.int .i64 o.left,.int .i64 o.num,.int .i64 o.den]
def Zi (l:List Off):List Value:=l.flatMap Off.cells
theorem Yj (l:List Off):(Zi l).length=l.length*7:=by
 induction l with
 | nil=>rfl
 | cons o l ih=>
   have:(Off.cells o).length=7:=rfl
   simp only [Zi,List.flatMap_cons,List.length_append,List.length_cons,this] at ih ⊢
   omega
theorem Y7 (l:List Off) (k j:Nat) (hk:k<l.length) (hj:j<7):(Zi l)[k*7+j]? =(l[k]'hk).cells[j]? :=by
 induction l generalizing k with
 | nil=>simp at hk
 | cons o l ih=>
   have h7:(Off.cells o).length=7:=rfl
   cases k with
   | zero=>
     simp only [Zi,List.flatMap_cons,Nat.zero_mul,Nat.zero_add,List.getElem_cons_zero]
     rw [List.getElem?_append_left (by rw [h7];exact hj)]
   | succ k=>
     have:=ih k (by simpa using hk)
     simp only [Zi,List.flatMap_cons,List.getElem_cons_succ] at this ⊢
     rw [List.getElem?_append_right (by rw [h7];omega),h7,show (k+1)*7+j-7=k*7+j by omega]
     exact this
structure Bk where
 offs:List Off
 next:Int
structure IsBook (w:World) (p:Nat) (g:Option Nat) (B:Bk):Prop where
 row:∃v,w.heap[p]? =some (.cells #[v,.int .u64 B.next] 205 (0,0))/\v.ownBlock=g/\w.ownsRow 0 153 7 v B.offs.length (Zi B.offs)
 made:0<B.next
 top:B.next<=18446744073709551615
 few:B.offs.length<=32
theorem IsBook.ltp {w:World} {p:Nat} {g:Option Nat} {B:Bk} (h:IsBook w p g B):p<w.heap.size:=by
 obtain ⟨v,h1,_⟩:=h.row;exact Zg h1
theorem IsBook.keep {S:List Nat} {w w':World} {p:Nat} {g:Option Nat} {B:Bk} (h:IsBook w p g B) (k:Keep S w w') (hp:p∉S) (hg:∀x,g=some x->x∉S):IsBook w' p g B:=by
 obtain ⟨v,h1,h2,h3⟩:=h.row
 refine ⟨⟨v,k.at h1 hp,h2,h3.1,?_⟩,h.made,h.top,h.few⟩
 rcases h3.2 with h4 | ⟨b,cap,cur,rfl,hb,hh,rest⟩
 ·exact .inl h4
 refine .inr ⟨b,cap,cur,rfl,hb,k.at hh (hg b ?_),rest⟩
 rw [<-h2];rfl
theorem IsBook.ext {w w':World} {p:Nat} {g:Option Nat} {B:Bk} (h:IsBook w p g B) (k:Ext w w'):IsBook w' p g B:=
 h.keep (Kx (S:=[]) k) (by simp) (by simp)
theorem IsBook.cell0 {w:World} {p:Nat} {g:Option Nat} {B:Bk} (h:IsBook w p g B):∃v,w.cell? ⟨p,0,none⟩=some v/\v.ownBlock=g/\w.ownsRow 0 153 7 v B.offs.length (Zi B.offs):=by
 obtain ⟨v,h1,h2,h3⟩:=h.row;exact ⟨v,Za h1 rfl,h2,h3⟩
theorem IsBook.cell1 {w:World} {p:Nat} {g:Option Nat} {B:Bk} (h:IsBook w p g B):w.cell? ⟨p,1,none⟩=some (.int .u64 B.next):=by
 obtain ⟨v,h1,_⟩:=h.row;exact Za h1 rfl
theorem Z7 {w:World} {base size n:Nat} {e:TypeId} {v:Value} {xs:List Value} (h:w.ownsRow base e size v n xs):∃A cap,v= .slice A n cap:=by
 rcases h.2 with ⟨rfl,rfl⟩ | ⟨g,cap,cur,rfl,_⟩
 ·exact ⟨_,_,rfl⟩
 exact ⟨_,_,rfl⟩
theorem V1 (p:Nat) (g:Option Nat) (B:Bk) (w:World) (h:IsBook w p g B):Calls Tryz.prog 106 #[.pointer (some ⟨p,0,none⟩)] w (Ret (.bool true) w):=by
 have c:=h.cell1
 have hm:0<B.next:=h.made
 have hm':decide (0<B.next)=true:=by simpa using hm
 go_enter Tryz.func106,Tryz.ntmps106
 go_wp2
 go_ret
 exact ⟨rfl,Ext.refl _⟩
theorem pred_any (o:Off) (c:Nat) (seq:Int) (w:World) (h:w.cell? ⟨c,0,none⟩=some (.int .u64 seq)) (hc:c<w.heap.size):
 Calls Tryz.prog 236 #[o.agg,.pointer (some ⟨c,0,none⟩)] w (Ret (.bool (o.seq==seq)) w):=by
 unfold Off.agg
 have e0:=Zc w (.cells o.cells.toArray 153)
 have h0:=Zb w (.cells o.cells.toArray 153)
 have hcell:(w.alloc (.cells o.cells.toArray 153)).cell? ⟨c,0,none⟩=some (.int .u64 seq):=by
  rw [Zf (e0.block hc)];exact h
 simp only [Off.cells] at e0 h0 hcell
 have g0:=Za h0 (j:=0) rfl
 generalize hW:w.alloc (.cells [Value.int .u64 o.seq,.int .u8 o.owner,.int .u8 o.sell,.int .u8 o.buy,.int .i64 o.left,.int .i64 o.num,.int .i64 o.den].toArray 153)=W at e0 h0 hcell g0
 have HW:=Lib.hid hW
 clear hW
 go_enter Tryz.func236,Tryz.ntmps236
 go_wp2
 rw [HW.out]
 go_ret
 exact ⟨rfl,e0⟩
def Za5:List Off->Int->Nat->Int
 | [],_,_=>-1
 | o::l,s,k=>if o.seq==s then k else Za5 l s (k+1)
def Zht (l:List Off) (s:Int):Int:=Za5 l s 0
def Zhk (w:World) (base:Nat) (v:Value) (l:List Off):Prop:=Zn w base 7 v l.length (Zi l)
theorem Zbn (w:World) (g k:Nat) (l:List Off) (hk:k<l.length) (h:∀j u,(Zi l)[j]? =some u->w.cell? ⟨g,j,none⟩=some u):
 (loadVar 153 ⟨g,k*7,none⟩).run Tryz.prog w= .ok (l[k]'hk).agg w:=
 Zs w g (k*7) 153 (l[k]'hk).cells _ (fun j u hu=>by
  have hj:j<7:=(List.getElem?_eq_some_iff.1 hu).1
  exact h _ _ ((Y7 l k j hk hj).trans hu)) Tryz.underlying153 rfl (by kernel_rfl)
theorem index_any (base c:Nat) (v:Value) (l:List Off) (seq:Int) (w:World) (h:Zhk w base v l) (hs:w.cell? ⟨c,0,none⟩=some (.int .u64 seq)) (hc:c<w.heap.size):
 Calls Tryz.prog 140 #[v,.func (.func 236) #[] #[.pointer (some ⟨c,0,none⟩)]] w (Ret (.int .i64 (Zht l seq)) w):=by
 obtain ⟨A,cap,rfl,h1,h2,h3,h4⟩:=h
 have hn63:(l.length:Int)<=9223372036854775807:=by unfold maxLen at h2;omega
 have cp:=fun o w (h:w.cell? ⟨c,0,none⟩=some (.int .u64 seq)) (hc:c<w.heap.size)=>pred_any o c seq w h hc
 go_enter Tryz.func140,Tryz.ntmps140
 go_wp2
 go_loopw [8] (fun i wr=>∃k:Nat,k<=l.length/\i= .int .i64 k/\Ext w wr/\Zht l seq=Za5 (l.drop k) seq k) (fun i _=>l.length-(intOf i).toNat)
 case atStart=>exact ⟨0,Nat.zero_le _,rfl,Ext.refl _,rfl⟩
 obtain ⟨k,hk,rfl,e1,hid⟩:=hrel
 have hs1:wr.cell? ⟨c,0,none⟩=some (.int .u64 seq):=by rw [Zf (e1.block hc)];exact hs
 have hc1:c<wr.heap.size:=Nat.lt_of_lt_of_le hc e1.size
 by_cases hkn:k<l.length
 ·rw [List.drop_eq_getElem_cons hkn] at hid
  unfold Za5 at hid
  rcases h4 with h4 | ⟨g,rfl,hb,hlt,hcell⟩
  ·omega
  have hld:=Zbn wr g k l hkn (fun j u hu=>by rw [Zf (e1.block hlt)];exact hcell j u hu)
  have cp1:=cp (l[k]'hkn) wr hs1 hc1
  by_cases hq:((l[k]'hkn).seq==seq)=true
  ·rw [if_pos hq] at hid
   rw [hq] at cp1
   rw [hid]
   generalize (l[k]'hkn)=o at *
   go_wp2_with (first | (refine Zd rfl 153 _ _ _ rfl rfl hld ?_))
   refine cp1.mono ?_
   rintro e w5 ⟨rfl,e5⟩
   go_wp2
   go_ret
   exact ⟨rfl,Xt e1 e5⟩
  rw [if_neg hq] at hid
  rw [Bool.not_eq_true] at hq
  rw [hq] at cp1
  rw [hid]
  have hid':Zht l seq=Za5 (l.drop (k+1)) seq (k+1):=hid
  generalize (l[k]'hkn)=o at *
  go_wp2_with (first | (refine Zd rfl 153 _ _ _ rfl rfl hld ?_))
  refine cp1.mono ?_
  rintro e w5 ⟨rfl,e5⟩
  go_wp2
  exact ⟨⟨k+1,by omega,by go_num,Xt e1 e5,by first | exact hid' | rfl⟩,by simp [intOf];omega⟩
 have hk':k=l.length:=by omega
 subst hk'
 rw [List.drop_length] at hid
 go_wp2
 go_ret
 exact ⟨by rw [hid];rfl,e1⟩
theorem Zsc (p:Nat) (g:Option Nat) (B:Bk) (seq:Int) (w:World) (h:IsBook w p g B):
 Calls Tryz.prog 185 #[.pointer (some ⟨p,0,none⟩),.int .u64 seq] w (Ret (.int .i64 (Zht B.offs seq)) w):=by
 have e0:=Zc w (.cells #[.int .u64 seq] 28)
 have h0:=Zb w (.cells #[.int .u64 seq] 28)
 have sz:=size_alloc w (.cells #[.int .u64 seq] 28)
 obtain ⟨v,cv,hv,hown⟩:=(h.ext e0).cell0
 obtain ⟨A,cap,rfl⟩:=Z7 hown
 have ci:=index_any 0 w.heap.size _ B.offs seq _ (Zn.of_own hown) (Za h0 rfl) (by omega)
 go_enter Tryz.func185,Tryz.ntmps185
 go_wp2_with fail
 refine ci.mono ?_
 rintro e w5 ⟨rfl,e5⟩
 go_wp2
 go_ret
 exact ⟨rfl,Xt e0 e5⟩
def Zw:Off:=⟨0,0,0,0,0,0,0⟩
def Yk (l:List Off) (s:Int):Option Off:=l.find? fun o=>o.seq==s
def Zfb:Option Off->Value
 | some o=>.tuple #[o.agg,.bool true]
 | none=>.tuple #[Zw.agg,.bool false]
theorem Zb2 (s:Int):∀(l:List Off) (k:Nat),(Za5 l s k= -1/\Yk l s=none)\/∃j,∃hj:j<l.length,Za5 l s k=((k+j:Nat):Int)/\Yk l s=some (l[j]'hj)
 | [],k=>.inl ⟨rfl,rfl⟩
 | o::l,k=>by
   unfold Za5 Yk
   rw [List.find?_cons]
   by_cases h:(o.seq==s)=true
   ·rw [if_pos h,h]
    exact .inr ⟨0,by simp,by simp,rfl⟩
   rw [if_neg h]
   rw [Bool.not_eq_true] at h
   rw [h]
   rcases Zb2 s l (k+1) with ⟨h1,h2⟩ | ⟨j,hj,h1,h2⟩
   ·exact .inl ⟨h1,h2⟩
   exact .inr ⟨j+1,by simpa using hj,by rw [h1];congr 1;omega,h2⟩
theorem Zgg (l:List Off) (s:Int):(Zht l s= -1/\Yk l s=none)\/∃j,∃hj:j<l.length,Zht l s=(j:Int)/\Yk l s=some (l[j]'hj):=by
 rcases Zb2 s l 0 with h | ⟨j,hj,h1,h2⟩
 ·exact .inl h
 exact .inr ⟨j,hj,by rw [Zht,h1,Nat.zero_add],h2⟩
def RetBook (B:Bk) (w:World) (e:Ending) (w':World):Prop:=∃p g,e= .returned (.pointer (some ⟨p,0,none⟩))/\Ext w w'/\IsBook w' p g B/\w.heap.size<=p/\(∀x,g=some x->w.heap.size<=x)
theorem Zps (w:World):Calls Tryz.prog 51 #[] w (RetBook ⟨[],1⟩ w):=by
 have h0:=Zb w (.cells #[.slice none 0 0,.int .u64 1] 205)
 have e0:=Zc w (.cells #[.slice none 0 0,.int .u64 1] 205)
 go_enter Tryz.func51,Tryz.ntmps51
 go_wp2
 go_ret
 exact ⟨_,none,rfl,e0,⟨⟨_,h0,rfl,World.ownsRow_nil _ _ _ _⟩,by decide,by decide,by simp⟩,Nat.le_refl _,by simp⟩
theorem Zju (p:Nat) (g:Option Nat) (B:Bk) (seq:Int) (w:World) (h:IsBook w p g B):Calls Tryz.prog 154 #[.pointer (some ⟨p,0,none⟩),.int .u64 seq] w (Ret (Zfb (Yk B.offs seq)) w):=by
 have ct:=fun w h=>V1 p g B w h
 have ca:=fun w h=>Zsc p g B seq w h
 have e0:Ext w (w.alloc (.cells Zw.cells.toArray 153)):=Zc _ _
 have h0:=Zb w (.cells Zw.cells.toArray 153)
 unfold Zw at e0 h0
 simp only [Off.cells] at e0 h0
 generalize hW:w.alloc (.cells [Value.int .u64 0,.int .u8 0,.int .u8 0,.int .u8 0,.int .i64 0,.int .i64 0,.int .i64 0].toArray 153)=W at e0 h0
 have HW:=Lib.hid hW
 clear hW
 have hB:=h.ext e0
 rcases Zgg B.offs seq with ⟨h1,h2⟩ | ⟨j,hj,h1,h2⟩
 focus
  rw [h1] at ca
  rw [h2]
  unfold Zfb Zw Off.agg
  go_enter Tryz.func154,Tryz.ntmps154
  go_wp2_with fail
  rw [HW.out]
  refine (ct _ hB).mono ?_
  rintro e w1 ⟨rfl,e1⟩
  go_wp2_with fail
  refine (ca _ (hB.ext e1)).mono ?_
  rintro e w2 ⟨rfl,e2'⟩
  have e2:=Xt e1 e2'
  have t2:=e2.at h0
  go_wp2_with (refine Ze rfl rfl 153 _ _ rfl w.heap.size _ rfl rfl 153 _ t2 (by kernel_rfl) (by rfl) (by rfl) ?_;intro w3 hb3 _ hs3)
 rotate_left
 focus
  rw [h1] at ca
  rw [h2]
  generalize ho:B.offs[j]'hj=o
  have HO:=Lib.hid ho
  clear ho h2
  unfold Zfb Off.agg
  go_enter Tryz.func154,Tryz.ntmps154
  go_wp2_with fail
  rw [HW.out]
  refine (ct _ hB).mono ?_
  rintro e w1 ⟨rfl,e1⟩
  go_wp2_with fail
  refine (ca _ (hB.ext e1)).mono ?_
  rintro e w2 ⟨rfl,e2'⟩
  have e2:=Xt e1 e2'
  have t2:=e2.at h0
  obtain ⟨v,cv,hv,hown⟩:=(hB.ext e2).cell0
  obtain ⟨A,cap,rfl,q1,q2,q3,q4⟩:=Zn.of_own hown
  rcases q4 with q4 | ⟨b,rfl,hb,hlt,hcell⟩
  ·omega
  have hld:=Zbn w2 b j B.offs hj hcell
  rw [HO.out] at hld
  unfold Off.agg at hld
  go_wp2_with (first | (refine Zd rfl 153 _ _ _ rfl rfl hld ?_) | (refine Ze rfl rfl 153 _ _ rfl w.heap.size _ rfl rfl 153 _ t2 (by kernel_rfl) (by rfl) (by rfl) ?_;intro w3 hb3 _ hs3))
 all_goals exact Zt w.heap.size 153 _ _ _ rfl rfl hs3 Tryz.underlying153 rfl (by kernel_rfl) rfl ⟨rfl,hb3 _ _ (Nat.le_refl _) (Xt e0 e2)⟩
theorem Zbi:(Tryz.prog.info? 153).map (fun i=>(i.zero,i.size,i.bytes))=some (some Zw.agg,7,40):=by kernel_rfl
theorem Ut (l:List Off):∀u∈Zi l,u.oneCell'=true:=by
 intro u hu
 obtain ⟨o,_,ho⟩:=List.mem_flatMap.1 hu
 simp only [Off.cells,List.mem_cons,List.not_mem_nil,or_false] at ho
 rcases ho with rfl | rfl | rfl | rfl | rfl | rfl | rfl<;>rfl
def Zsg (l:List Off) (w:World) (e:Ending) (w':World):Prop:=∃v,e= .returned v/\Ext w w'/\w'.ownsRow w.heap.size 153 7 v l.length (Zi l)
theorem Zep (base:Nat) (v:Value) (l:List Off) (w:World) (h:Zhk w base v l) (hl:l.length<=64):Calls Tryz.prog 108 #[v] w (Zsg l w):=by
 obtain ⟨A,cap,rfl,h1,h2,h3,h4⟩:=h
 obtain ⟨i0,hi,hz0,hz1,hz2⟩:=info_parts Zbi
 have hq:=fun w=>Lib.run_eql_slice_nil (P:=Tryz.prog) w 45 _ A l.length cap 0 0 Tryz.underlying45
 cases A with
 | none=>
   have h0:l.length=0:=by
    rcases h4 with h4 | ⟨g,hg,_⟩
    ·exact h4
    simp at hg
   have:l=[]:=List.eq_nil_of_length_eq_zero h0
   subst this
   simp only [List.length_nil] at hq
   go_enter Tryz.func108,Tryz.ntmps108
   go_wp2
   go_ret
   exact ⟨_,rfl,Ext.refl _,World.ownsRow_nil _ _ _ _⟩
 | some ad=>
   have hnews:∀j u,(Zi l)[j]? =some u->w.cell? (ad.add j)=some u:=by
    intro j u hu
    rcases h4 with h4 | ⟨g,hg,hb,hlt,hc⟩
    ·have:l=[]:=List.eq_nil_of_length_eq_zero h4
     subst this
     simp [Zi] at hu
    simp only [Option.some.injEq] at hg
    subst hg
    have hadd:(⟨g,0,none⟩:Addr).add j=⟨g,j,none⟩:=by unfold Addr.add;split<;>simp_all
    rw [hadd];exact hc j u hu
   have hlt:0<l.length->ad.block<w.heap.size:=fun hp=>by
    rcases h4 with h4 | ⟨g,hg,hb,hlt,hc⟩
    ·omega
    simp only [Option.some.injEq] at hg;subst hg;exact hlt
   have hW:=World.ownsRow_lit (base:=w.heap.size) (e:=153) (size:=7) w #[] 0 (Nat.le_refl _) (by unfold maxLen;omega) rfl
   have e0:=Zc w (.cells #[] 153)
   have hn2:∀j u,(Zi l)[j]? =some u->(w.alloc (.cells #[] 153)).cell? (ad.add j)=some u:=by
    intro j u hu
    have hj:=(List.getElem?_eq_some_iff.1 hu).1
    rw [Yj] at hj
    have hb:(ad.add j).block=ad.block:=by unfold Addr.add;split<;>rfl
    have hk:(w.alloc (.cells #[] 153)).heap[(ad.add j).block]? =w.heap[(ad.add j).block]? :=by rw [hb];exact e0.block (hlt (by omega))
    exact (Zf hk).trans (hnews j u hu)
   have hl3:=Yj l
   have h1c:=Ut l
   generalize hcs:Zi l=news at *
   go_enter Tryz.func108,Tryz.ntmps108
   go_wp2_with (first
    | (at_builtin;refine wpList_append_own _ rfl _ _ 45 rfl w.heap.size 153 i0 Zw.agg 7 40 Tryz.underlying45 hi hz0 hz1 hz2 rfl (by decide) _ _ _ rfl hW ad l.length cap news rfl hl3 hn2 h1c (by unfold maxLen;omega) (by omega) (by simp) ?_;intro v' w3 hown' hgrow3 hnil3))
   go_ret
   rw [Nat.zero_add,List.nil_append] at hown'
   have e3:Ext w w3:=by
    have:=(Below.refl w.heap.size w).alloc (Nat.le_refl _) (.cells #[] 153)
    exact this.grown hgrow3 (by simp) (fun q hq=>by have:=hW.lt q hq;omega)
   exact ⟨v',rfl,e3,hcs▸hown'⟩
def Zc4 (c:Int):Bool:=decide (1<=c/\c<=8)
theorem Zng (c:Int) (w:World):Calls Tryz.prog 268 #[.int .u8 c] w (fun e w'=>e= .returned (.bool (Zc4 c))/\w'=w):=by
 by_cases h1:1<=c
 focus
  have hv:Zc4 c=decide (c<=8):=by unfold Zc4;rw [Bool.eq_iff_iff];simp [h1]
  rw [hv]
 rotate_left
 focus
  have hv:Zc4 c=false:=by unfold Zc4;simp [h1]
  rw [hv]
  have h1':decide (1<=c)=false:=by simpa using h1
 all_goals
  go_enter Tryz.func268,Tryz.ntmps268
  go_wp2
  go_ret
  exact ⟨rfl,rfl⟩
def Xr (o:Off):Bool:=decide (1<=o.owner/\o.owner<=16/\1<=o.sell/\o.sell<=8/\1<=o.buy/\o.buy<=8/\o.sell≠o.buy/\1<=o.left/\o.left<=1099511627776/\Xl o.num o.den=true)
theorem bmay_any (seq owner sell buy left num den:Int) (w:World) (hn2:num<=9223372036854775807) (hd2:den<=9223372036854775807):
 Calls Tryz.prog 235 #[Off.agg ⟨seq,owner,sell,buy,left,num,den⟩] w (Ret (.bool (Xr ⟨seq,owner,sell,buy,left,num,den⟩)) w):=by
 have cc:=Zng
 have cm:=fun w=>Za4 num den w hn2 hd2
 simp only [rat] at cm
 unfold Off.agg
 simp only
 by_cases h1:owner<1
 focus
  have hr:Xr ⟨seq,owner,sell,buy,left,num,den⟩=false:=by unfold Xr;simp;omega
  rw [hr];clear hr
 rotate_left
 focus
  by_cases h2:16<owner
  focus
   have hr:Xr ⟨seq,owner,sell,buy,left,num,den⟩=false:=by unfold Xr;simp;omega
   rw [hr];clear hr
  rotate_left
  focus
   by_cases h3:Zc4 sell=false
   focus
    have hr:Xr ⟨seq,owner,sell,buy,left,num,den⟩=false:=by unfold Xr;unfold Zc4 at h3;simp at h3 ⊢;omega
    rw [hr];clear hr
   rotate_left
   focus
    rw [Bool.not_eq_false] at h3
    have h3':=h3
    unfold Zc4 at h3'
    rw [decide_eq_true_eq] at h3'
    by_cases h4:Zc4 buy=false
    focus
     have hr:Xr ⟨seq,owner,sell,buy,left,num,den⟩=false:=by unfold Xr;unfold Zc4 at h4;simp at h4 ⊢;omega
     rw [hr];clear hr
    rotate_left
    focus
     rw [Bool.not_eq_false] at h4
     have h4':=h4
     unfold Zc4 at h4'
     rw [decide_eq_true_eq] at h4'
     by_cases h5:sell=buy
     focus
      have hr:Xr ⟨seq,owner,sell,buy,left,num,den⟩=false:=by unfold Xr;simp;omega
      rw [hr];clear hr
      have h5':(sell==buy)=true:=by simpa using h5
     rotate_left
     focus
      have h5':(sell==buy)=false:=by simpa using h5
      by_cases h6:1<=left
      focus
       have h6':decide (1<=left)=true:=by simpa using h6
       by_cases h7:left<=1099511627776
       ·have h7':decide (left<=1099511627776)=true:=by simpa using h7
        have hr:Xr ⟨seq,owner,sell,buy,left,num,den⟩=Xl num den:=by
         unfold Xr
         rw [Bool.eq_iff_iff,decide_eq_true_eq]
         exact ⟨fun h=>h.2.2.2.2.2.2.2.2.2,fun h=>⟨by show 1<=owner;omega,by show owner<=16;omega,h3'.1,h3'.2,h4'.1,h4'.2,h5,h6,h7,h⟩⟩
        rw [hr];clear hr
        go_enter Tryz.func235,Tryz.ntmps235
        go_wp2_with (first | (go_at_call 268;refine (cc _ _).mono ?_;rintro e w' ⟨rfl,rfl⟩) | (go_at_call 264;refine (cm _).mono ?_;rintro e w2 ⟨rfl,e2⟩))
        go_ret
        exact ⟨rfl,Xt (Zc _ _) e2⟩
       have h7':decide (left<=1099511627776)=false:=by simpa using h7
      rotate_left
      focus have h6':decide (1<=left)=false:=by simpa using h6
      all_goals
       have hr:Xr ⟨seq,owner,sell,buy,left,num,den⟩=false:=by unfold Xr;simp;omega
       rw [hr];clear hr
 all_goals
  go_enter Tryz.func235,Tryz.ntmps235
  go_wp2_with (go_at_call 268;refine (cc _ _).mono ?_;rintro e w' ⟨rfl,rfl⟩)
  go_ret
  exact ⟨rfl,Zc _ _⟩
def ReadBook (w:World) (base p:Nat) (B:Bk):Prop:=∃v,w.heap[p]? =some (.cells #[v,.int .u64 B.next] 205 (0,0))/\base<=p/\Zhk w base v B.offs
theorem bcopy_any (p:Nat) (g:Option Nat) (B:Bk) (w:World) (h:IsBook w p g B):
 Calls Tryz.prog 90 #[.pointer (some ⟨p,0,none⟩)] w (fun e w'=>∃p',e= .returned (.pointer (some ⟨p',0,none⟩))/\Ext w w'/\ReadBook w' w.heap.size p' B):=by
 have ct:=fun w h=>V1 p g B w h
 go_enter Tryz.func90,Tryz.ntmps90
 go_wp2_with fail
 refine (ct _ h).mono ?_
 rintro e w2 ⟨rfl,e2⟩
 have h2:=h.ext e2
 obtain ⟨v,c0,hv,hown⟩:=h2.cell0
 obtain ⟨A,cap,rfl⟩:=Z7 hown
 have c1:=h2.cell1
 have hcl:=fun w3 (e:Ext w2 w3)=>Zep 0 _ B.offs w3 ((Zn.of_own hown).ext e) (by have:=h.few;omega)
 have l0:=h2.ltp
 go_wp2
 refine Zh Zl 9 [4] (by kernel_rfl) (by kernel_rfl) ?_
 intro w1 hw1
 have d0:∀q:ExtOf w1,q.to.cell? ⟨p,0,none⟩=some (.slice A B.offs.length cap):=fun q=>(Zf ((Xt hw1 q.h).block l0)).trans c0
 have d1:∀q:ExtOf w1,q.to.cell? ⟨p,1,none⟩=some (.int .u64 B.next):=fun q=>(Zf ((Xt hw1 q.h).block l0)).trans c1
 simp only [Zk,Rg.hsB,Nat.reduceBEq,Nat.reduceAdd,↓reduceIte]
 repeat (go_big_quiet_step (fail))
 refine wpQuiet_nil ?_
 refine Zv 4 108 _ #[.slice A B.offs.length cap] _ (by rfl) _ _ (by rfl) Tryz.func108 rfl rfl (by kernel_rfl) (by rfl) (by kernel_rfl) (by decide) ?_
 intro w3 h03 h3
 refine (hcl w3 h03).mono ?_
 rintro e w4 ⟨v',rfl,e4,hown'⟩
 refine ⟨_,rfl,Xt h03 e4,?_⟩
 refine Zj (by kernel_rfl) ?_
 intro w5 e5 e5'
 simp only [Act.put,Rg.puB]
 obtain ⟨A',cap',rfl⟩:=Z7 hown'
 have hp:=Zb w5 (.cells #[.slice A' B.offs.length cap',.int .u64 B.next] 205)
 have ep:=Zc w5 (.cells #[.slice A' B.offs.length cap',.int .u64 B.next] 205)
 have s2:=e2.size
 have s3:=h03.size
 have s5:=e5.size
 clear d0 d1
 go_wp2
 go_ret
 refine ⟨_,rfl,Xt e2 (Xt e5 ep),_,hp,by omega,?_⟩
 obtain ⟨A2,cap2,q0,q1,q2,q3,q4⟩:=((Zn.of_own hown').ext (Xt e5' ep))
 refine ⟨A2,cap2,q0,q1,q2,q3,?_⟩
 rcases q4 with q4 | ⟨g',q4,q5,q6⟩
 ·exact .inl q4
 exact .inr ⟨g',q4,by omega,q6⟩
end Go.Proofs.YtipjchbdogmccaaGreat
