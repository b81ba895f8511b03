/- The book, further: an offer more. The book, further: one offer is struck; less is left of one. The book, further: less is left of one. -/
import Derived.Test.YtipjchbdogmccaaGreatBk
import Derived.Test.YtipjchbdogmccaaGreatGen
set_option maxHeartbeats 1600000
set_option maxRecDepth 100000
namespace Go.Proofs.YtipjchbdogmccaaGreat
open Go.RowKit Go.Rg Go.BigFrame
def Xh (B:Bk) (owner sell buy left num den:Int):Int×Int×Bk:=
 if Xr ⟨B.next,owner,sell,buy,left,num,den⟩=false then (0,1,B)
 else if 32<=B.offs.length\/B.next=18446744073709551615 then (0,9,B)
 else (B.next,0,⟨B.offs++[⟨B.next,owner,sell,buy,left,num,den⟩],B.next+1⟩)
def Zj7 (v:Value) (p:Nat) (g:Option Nat) (B':Bk) (w:World) (e:Ending) (w':World):Prop:=
 e= .returned v/\∃g',Keep (p::g.toList) w w'/\IsBook w' p g' B'/\(g'=g\/∀x,g'=some x->w.heap.size<=x)
theorem Zj7.same {v:Value} {p:Nat} {g:Option Nat} {B:Bk} {w w':World} (h:IsBook w p g B) (k:Ext w w'):Zj7 v p g B w (.returned v) w':=
 ⟨rfl,g,Kx k,h.ext k,.inl rfl⟩
theorem IsBook.ltg {w:World} {p:Nat} {g:Option Nat} {B:Bk} (h:IsBook w p g B):∀q,g=some q->q<w.heap.size:=by
 obtain ⟨v,_,hv,hown⟩:=h.row
 intro q hq
 subst hq
 exact (hown.lt q hv).2
theorem Zle (p:Nat) (g:Option Nat) (B:Bk) (owner sell buy left num den:Int) (w:World) (h:IsBook w p g B) (hn2:num<=9223372036854775807) (hd2:den<=9223372036854775807):
 Calls Tryz.prog 184 #[.pointer (some ⟨p,0,none⟩),.int .u8 owner,.int .u8 sell,.int .u8 buy,.int .i64 left,.agg #[.int .i64 num,.int .i64 den]] w
  (Zj7 (.tuple #[.int .u64 (Xh B owner sell buy left num den).1,.int .i64 (Xh B owner sell buy left num den).2.1]) p g (Xh B owner sell buy left num den).2.2 w):=by
 have ct:=fun w h=>V1 p g B w h
 have cm:=fun w=>bmay_any B.next owner sell buy left num den w hn2 hd2
 have e0:=Zc w (.cells #[.int .i64 num,.int .i64 den] 27)
 have h0:=Zb w (.cells #[.int .i64 num,.int .i64 den] 27)
 generalize hW:w.alloc (.cells #[.int .i64 num,.int .i64 den] 27)=W at e0 h0
 have HW:=Lib.hid hW
 clear hW
 have hB:=h.ext e0
 have hmade:=h.made
 have htop:=h.top
 have hfew:=h.few
 unfold Off.agg at cm
 simp only at cm
 by_cases hok:Xr ⟨B.next,owner,sell,buy,left,num,den⟩=false
 focus
  have hr:Xh B owner sell buy left num den=(0,1,B):=by unfold Xh;rw [if_pos hok]
  rw [hr]
  rw [hok] at cm
  clear hr hok
 rotate_left
 focus
  by_cases hfull:32<=B.offs.length
  focus
   have hr:Xh B owner sell buy left num den=(0,9,B):=by unfold Xh;rw [if_neg hok,if_pos (.inl hfull)]
   rw [hr]
   rw [Bool.not_eq_false] at hok
   rw [hok] at cm
   have hf1:decide (32<=(B.offs.length:Int))=true:=by simp;omega
   clear hr hok
  rotate_left
  focus
   have hf1:decide (32<=(B.offs.length:Int))=false:=by simp;omega
   by_cases hmax:B.next=18446744073709551615
   focus
    have hr:Xh B owner sell buy left num den=(0,9,B):=by unfold Xh;rw [if_neg hok,if_pos (.inr hmax)]
    rw [hr]
    rw [Bool.not_eq_false] at hok
    rw [hok] at cm
    have hmax':(B.next==18446744073709551615)=true:=by simpa using hmax
    clear hr hok hmax
   rotate_left
   ·have hr:Xh B owner sell buy left num den=(B.next,0,⟨B.offs++[⟨B.next,owner,sell,buy,left,num,den⟩],B.next+1⟩):=by unfold Xh;rw [if_neg hok,if_neg (by omega)]
    rw [hr]
    rw [Bool.not_eq_false] at hok
    rw [hok] at cm
    have hmax':(B.next==18446744073709551615)=false:=by simpa using hmax
    clear hr hok
    go_enter Tryz.func184,Tryz.ntmps184
    go_wp2_with fail
    rw [HW.out]
    refine (ct _ hB).mono ?_
    rintro e w2 ⟨rfl,e2⟩
    have h2:=hB.ext e2
    have t2:=e2.at h0
    have cn:=h2.cell1
    have lp:=h2.ltp
    go_wp2
    refine Zh Zl 11 [10] (by kernel_rfl) (by kernel_rfl) ?_
    intro w1 hw1
    have d1:∀q:ExtOf w1,q.to.cell? ⟨p,1,none⟩=some (.int .u64 B.next):=fun q=>(Zf ((Xt hw1 q.h).block lp)).trans cn
    have d2:=fun q:ExtOf w1=>Za (j:=0) ((Xt hw1 q.h).at t2) rfl
    have d3:=fun q:ExtOf w1=>Za (j:=1) ((Xt hw1 q.h).at t2) rfl
    simp only [Zk,Rg.hsB,Nat.reduceBEq,Nat.reduceAdd,↓reduceIte]
    repeat (go_big_quiet_step (fail))
    refine wpQuiet_nil ?_
    refine Ub 10 _ (.cells Zw.cells.toArray 153) (fun a w=> ?_) rfl (by kernel_rfl) (by decide) rfl ?_
    ·unfold Zw;simp only [Off.cells];simp [go_sem]
    intro s w3 h03 h3 hs3 _ hsb
    refine Zj (by kernel_rfl) ?_
    intro w4 h4 h4'
    simp only [Act.put,Rg.puB]
    have hs4:=h4'.at hsb
    refine Ze rfl rfl 153 _ _ rfl s _ rfl rfl 153 _ hs4 (by kernel_rfl) (by rfl) (by rfl) ?_
    intro w5 hb5 hk5 hs5
    have e5:Ext w2 w5:=hb5 _ _ hs3 h4
    have E5:Ext w w5:=Xt e0 (Xt e2 e5)
    have h5:=h2.ext e5
    have o0:=Za hs5 (j:=0) rfl
    have o1:=Za hs5 (j:=1) rfl
    have o2:=Za hs5 (j:=2) rfl
    have o3:=Za hs5 (j:=3) rfl
    have o4:=Za hs5 (j:=4) rfl
    have o5:=Za hs5 (j:=5) rfl
    have o6:=Za hs5 (j:=6) rfl
    clear d1 d2 d3
    go_wp2_with fail
    refine (cm _).mono ?_
    rintro e w6 ⟨rfl,e6⟩
    have h6:=h5.ext e6
    have E6:Ext w w6:=Xt E5 e6
    have cn6:=h6.cell1
    obtain ⟨v,cv,hv,hown⟩:=h6.cell0
    obtain ⟨A,cap,rfl⟩:=Z7 hown
    clear cn t2
    go_wp2
    have hs6:=e6.at hs5
    have l6:=h6.ltp
    have hrow6:=h6.row
    obtain ⟨i0,hi,hz0,hz1,hz2⟩:=info_parts Zbi
    clear o0 o1 o2 o3 o4 o5 o6
    obtain ⟨vp,hp6,hvp,hownp⟩:=hrow6
    have hve:vp= .slice A B.offs.length cap:=by
     have:=(Za hp6 (j:=0) rfl).symm.trans cv
     simpa using this
    subst hve
    clear hownp hvp
    have hpg:∀q,(Value.slice A B.offs.length cap).ownBlock=some q->q≠p:=by
     intro q hq hqp
     subst hqp
     rcases hown.2 with ⟨hn,_⟩ | ⟨b,c2,cur,hn,_,hh,_⟩
     ·rw [hn] at hq;simp [Value.ownBlock] at hq
     rw [hn] at hq
     simp only [Value.ownBlock,Option.some.injEq] at hq
     subst hq
     rw [hh] at hp6
     simp at hp6
    have hpg':p∉(Value.slice A B.offs.length cap).ownBlock.toList:=by
     intro hm
     have:(Value.slice A B.offs.length cap).ownBlock=some p:=by simpa using hm
     exact hpg p this rfl
    have hsg':s∉(Value.slice A B.offs.length cap).ownBlock.toList:=by
     intro hm
     have hm':(Value.slice A B.offs.length cap).ownBlock=some s:=by simpa using hm
     have:=h.ltg s (hv▸hm')
     have:=e0.size
     have:=e2.size
     omega
    generalize hSL:(Value.slice A B.offs.length cap).ownBlock.toList=SL at hpg' hsg'
    refine RgK.Zh SL Zl 8 [6,7] (by kernel_rfl) (by kernel_rfl) (by kernel_rfl) ?_
    intro w1 hw1
    have d0:=fun q:KeepOf SL w1=>Za (j:=0) ((hw1.trans q.h).at hp6 hpg') rfl
    have ld:∀w2,U9 SL w1 w2->(loadVar 153 ⟨s,0,none⟩).run Tryz.prog w2= .ok (.agg #[.int .u64 B.next,.int .u8 owner,.int .u8 sell,.int .u8 buy,.int .i64 left,.int .i64 num,.int .i64 den]) w2:=by
     rintro _ ⟨q,rfl⟩
     exact run_loadVar_row q.to s _ _ _ _ _ ((hw1.trans q.h).at hs6 hsg') Tryz.underlying153 rfl (by kernel_rfl)
    simp only [Zk,Rg.hsB,Nat.reduceBEq,Nat.reduceAdd,↓reduceIte]
    repeat (first | go_big_quiet_step (fail) | (go_big_quiet_want;refine Z0 153 _ _ _ rfl rfl ld ?_;go_big_quiet_on;simp only [Act.put,Rg.puB]))
    refine wpQuiet_nil ?_
    intro hx1
    refine RgK.Xb 6 _ (.cells #[.int .u64 B.next,.int .u8 owner,.int .u8 sell,.int .u8 buy,.int .i64 left,.int .i64 num,.int .i64 den] 153) (fun p=>.slice (some ⟨p,0,none⟩) 1 1) (by intro w;go_simp) rfl (by kernel_rfl) (by decide) rfl ?_
    intro b w7 h07 h7 hb0 hb7 hbb
    have hown7:=Zo (Zo hown hx1) h7
    have hp7:=(h7.at (hx1.at hp6))
    have hs7:=(h7.at (hx1.at hs6))
    refine RgK.Zaj 7 _ _ _ _ rfl rfl (by kernel_rfl) (by decide) rfl 0 153 i0 Zw.agg 7 40 Tryz.underlying45 hi hz0 hz1 hz2 rfl (by decide) (.slice A B.offs.length cap) B.offs.length (Zi B.offs) (by kernel_rfl) hown7 (fun q hq=>by rw [<-hSL];simp [hq]) b 1 1 _ _ _ (by kernel_rfl) hbb rfl (by simp [Value.oneCell']) (by unfold maxLen;omega) (by omega) (Nat.zero_le _) ?_
    intro v' w8 h08 h78 hown8 hwh
    rw [hSL] at h78
    obtain ⟨A',cap',rfl⟩:=Z7 hown8
    have hp8:=h78.at hp7 hpg'
    have hs8:=h78.at hs7 hsg'
    refine RgK.Zj (by kernel_rfl) ?_
    intro w9 h09 h89
    simp only [Act.put,Rg.puB]
    have hp9:=h89.at hp8
    have hs9:=h89.at hs8
    have hown9:=Zo hown8 h89
    have hne9:=Y4 hown9 hp9 (by decide)
    have hsp:s∉[p]:=by
     have:=h.ltp
     have:=e0.size
     have:=e2.size
     simp
     omega
    have c0:=Za hp9 (j:=0) rfl
    have f0:=frozen_of_row w9 p 0 _ _ hp9
    have k10:Keep [p] w9 (w9.setCell ⟨p,0,none⟩ (.slice A' (B.offs.length+1) cap')):=(Keep.refl _ _).setCell (Or.inl (by simp)) _
    have hp10:=heap_setCell_same w9 p 0 _ _ (.slice A' (B.offs.length+1) cap') hp9
    have hs10:=k10.at hs9 hsp
    have hown10:=ownsRow_setCell_other hown9 (a:=⟨p,0,none⟩) hne9 (.slice A' (B.offs.length+1) cap')
    clear d0 ld
    have c1:=Za hp10 (j:=1) rfl
    have f1:=frozen_of_row _ p 1 _ _ hp10
    have k11:Keep [p] w9 ((w9.setCell ⟨p,0,none⟩ (.slice A' (B.offs.length+1) cap')).setCell ⟨p,1,none⟩ (.int .u64 (B.next+1))):=k10.setCell (Or.inl (by simp)) _
    have hp11:=heap_setCell_same _ p 1 _ _ (.int .u64 (B.next+1)) hp10
    have hs11:=k11.at hs9 hsp
    have hown11:=ownsRow_setCell_other hown10 (a:=⟨p,1,none⟩) hne9 (.int .u64 (B.next+1))
    have q0:=Za hs11 (j:=0) rfl
    have hlt:B.next<18446744073709551615:=by omega
    have hlt2:B.next+1<=18446744073709551615:=by omega
    go_wp2
    go_ret2
    refine ⟨rfl,_,?_,⟨⟨_,hp11,rfl,?_⟩,?_,?_,?_⟩,?_⟩
    ·have a1:Keep (p::g.toList) w w8:=(Kx (Xt E6 (Xt hx1 h7))).trans (h78.mono (fun x hx=>by rw [<-hSL,hv] at hx;exact List.mem_cons_of_mem _ hx))
     exact (a1.trans (Kx h89)).trans (k11.mono (fun x hx=>by simp at hx;simp [hx]))
    ·have:=hown11
     rw [show Zi (B.offs++[⟨B.next,owner,sell,buy,left,num,den⟩])=Zi B.offs++[.int .u64 B.next,.int .u8 owner,.int .u8 sell,.int .u8 buy,.int .i64 left,.int .i64 num,.int .i64 den] by simp [Zi,Off.cells],List.length_append]
     exact this
    ·show 0<B.next+1;omega
    ·exact hlt2
    ·rw [List.length_append];simp;omega
    rcases hwh with hh | ⟨q,hh,hq⟩
    ·exact .inl (hh.trans hv)
    refine .inr fun x hx=> ?_
    rw [hh] at hx
    have:=(Xt E6 (Xt hx1 h7)).size
    have:q=x:=by simpa using hx
    omega
 all_goals
  go_enter Tryz.func184,Tryz.ntmps184
  go_wp2_with fail
  rw [HW.out]
  refine (ct _ hB).mono ?_
  rintro e w2 ⟨rfl,e2⟩
  have h2:=hB.ext e2
  have t2:=e2.at h0
  have cn:=h2.cell1
  have lp:=h2.ltp
  go_wp2
  refine Zh Zl 11 [10] (by kernel_rfl) (by kernel_rfl) ?_
  intro w1 hw1
  have d1:∀q:ExtOf w1,q.to.cell? ⟨p,1,none⟩=some (.int .u64 B.next):=fun q=>(Zf ((Xt hw1 q.h).block lp)).trans cn
  have d2:=fun q:ExtOf w1=>Za (j:=0) ((Xt hw1 q.h).at t2) rfl
  have d3:=fun q:ExtOf w1=>Za (j:=1) ((Xt hw1 q.h).at t2) rfl
  simp only [Zk,Rg.hsB,Nat.reduceBEq,Nat.reduceAdd,↓reduceIte]
  repeat (go_big_quiet_step (fail))
  refine wpQuiet_nil ?_
  refine Ub 10 _ (.cells Zw.cells.toArray 153) (fun a w=> ?_) rfl (by kernel_rfl) (by decide) rfl ?_
  ·unfold Zw;simp only [Off.cells];simp [go_sem]
  intro s w3 h03 h3 hs3 _ hsb
  refine Zj (by kernel_rfl) ?_
  intro w4 h4 h4'
  simp only [Act.put,Rg.puB]
  have hs4:=h4'.at hsb
  refine Ze rfl rfl 153 _ _ rfl s _ rfl rfl 153 _ hs4 (by kernel_rfl) (by rfl) (by rfl) ?_
  intro w5 hb5 hk5 hs5
  have e5:Ext w2 w5:=hb5 _ _ hs3 h4
  have E5:Ext w w5:=Xt e0 (Xt e2 e5)
  have h5:=h2.ext e5
  have o0:=Za hs5 (j:=0) rfl
  have o1:=Za hs5 (j:=1) rfl
  have o2:=Za hs5 (j:=2) rfl
  have o3:=Za hs5 (j:=3) rfl
  have o4:=Za hs5 (j:=4) rfl
  have o5:=Za hs5 (j:=5) rfl
  have o6:=Za hs5 (j:=6) rfl
  clear d1 d2 d3
  go_wp2_with fail
  refine (cm _).mono ?_
  rintro e w6 ⟨rfl,e6⟩
  have h6:=h5.ext e6
  have E6:Ext w w6:=Xt E5 e6
  have cn6:=h6.cell1
  obtain ⟨v,cv,hv,hown⟩:=h6.cell0
  obtain ⟨A,cap,rfl⟩:=Z7 hown
  clear cn t2
  go_wp2
  go_ret2
  exact Zj7.same h E6
theorem Zke (w:World) (g off:Nat) (cur:Array Value) (ty:TypeId) (c:Nat) (hg:w.heap[g]? =some (.cells cur 153 (0,0))) (hfit:off+7<=cur.size):
 (Builtin.clear_ #[45] ty #[.slice (some ⟨g,off,none⟩) 1 c]).run Tryz.prog w= .ok (.tuple #[]) (w.setRow g (cur.toList.take off++Zw.cells++cur.toList.drop (off+7)).toArray):=by
 have hz:(zeroValue 153).run Tryz.prog w= .ok Zw.agg w:=by unfold Zw Off.agg;simp [go_sem]
 have hst:=run_storeCells_at Tryz.prog g off 153 Zw.cells 0 cur w hg (by simpa [Off.cells] using hfit) (by
  intro u hu
  exact Ut [Zw] u (by simpa [Zi] using hu))
 simp only [Nat.add_zero] at hst
 have hcells:(Builtin.zeroCells Zw.agg.cells 1).toList=Zw.cells:=by kernel_rfl
 have a0:(#[45]:Array TypeId)[0]? =some 45:=rfl
 have a1:(#[Value.slice (some ⟨g,off,none⟩) 1 c]:Array Value)[0]? =some (.slice (some ⟨g,off,none⟩) 1 c):=rfl
 unfold Builtin.clear_
 simp only [a0,a1,Sem.run_bind,run_underlying Tryz.underlying45 w,Result.andThen_ok,hz,hcells,hst,Sem.run_pure]
 rfl
theorem Xk (a b:List Off):Zi (a++b)=Zi a++Zi b:=by simp [Zi]
theorem Zkn (l:List Off) (k:Nat):Zi (l.take k)=(Zi l).take (k*7):=by
 by_cases hk:k<=l.length
 ·have h:=List.take_append_drop k l
  have hl:(Zi (l.take k)).length=k*7:=by rw [Yj,List.length_take];congr 1;omega
  have:Zi l=Zi (l.take k)++Zi (l.drop k):=by rw [<-Xk,h]
  rw [this,<-hl,List.take_left]
 rw [List.take_of_length_le (by omega),List.take_of_length_le (by rw [Yj];omega)]
theorem Zko (l:List Off) (k:Nat):Zi (l.drop k)=(Zi l).drop (k*7):=by
 by_cases hk:k<=l.length
 ·have h:=List.take_append_drop k l
  have hl:(Zi (l.take k)).length=k*7:=by rw [Yj,List.length_take];congr 1;omega
  have:Zi l=Zi (l.take k)++Zi (l.drop k):=by rw [<-Xk,h]
  rw [this,<-hl,List.drop_left]
 rw [List.drop_of_length_le (by omega),List.drop_of_length_le (by rw [Yj];omega)]
 rfl
theorem Zne (l:List Off) (i:Nat):(Zi l).take (i*7)++(Zi l).drop ((i+1)*7)=Zi (l.eraseIdx i):=by
 rw [<-Zkn,<-Zko,<-Xk,List.eraseIdx_eq_take_drop_succ]
theorem Zhj (g cap i:Nat) (cur:Array Value) (l:List Off) (w:World) (hi:i<l.length) (hcap:l.length<=cap) (hm:cap<=maxLen) (hg:w.heap[g]? =some (.cells cur 153 (0,0))) (hcs:cur.size=cap*7) (htk:cur.toList.take (l.length*7)=Zi l):
 Calls Tryz.prog 186 #[.slice (some ⟨g,0,none⟩) l.length cap,.int .i64 i,.int .i64 (↑i+1)] w
  (fun e w'=>e= .returned (.slice (some ⟨g,0,none⟩) (l.length-1) cap)/\Keep [g] w w'/\∃cur',w'.heap[g]? =some (.cells cur' 153 (0,0))/\cur'.size=cap*7/\cur'.toList.take ((l.length-1)*7)=Zi (l.eraseIdx i)):=by
 obtain ⟨i0,hi0,hz0,hz1,hz2⟩:=info_parts Zbi
 have hn63:(l.length:Int)<=9223372036854775807:=by unfold maxLen at hm;omega
 have hc63:(cap:Int)<=9223372036854775807:=by unfold maxLen at hm;omega
 have hne1:((i:Int)==((i:Int)+1))=false:=by simp;omega
 have hicap:i<=cap:=by omega
 have hi1cap:i+1<=cap:=by omega
 have hi1n:i+1<=l.length:=by omega
 -- the cells that are moved
 have hlen:=Yj l
 have hnl:((Zi l).drop ((i+1)*7)).length=(l.length-(i+1))*7:=by rw [List.length_drop,hlen];omega
 have hone:∀u∈(Zi l).drop ((i+1)*7),u.oneCell'=true:=fun u hu=>Ut l u (List.mem_of_mem_drop hu)
 have hcell:∀j u,(Zi l)[j]? =some u->w.cell? ⟨g,j,none⟩=some u:=fun j u hu=>by
  rw [cell_of_row w g j cur _ _ hg,<-Array.getElem?_toList]
  rw [<-htk] at hu
  have hj:=(List.getElem?_eq_some_iff.1 hu).1
  rw [List.length_take] at hj
  rw [List.getElem?_take_of_lt (by omega)] at hu
  exact hu
 obtain ⟨AD,hAD,hsrc⟩:∃AD:Addr,(if cap=i+1 then (⟨g,0,none⟩:Addr) else ⟨g,(i+1)*7,none⟩)=AD/\∀j u,((Zi l).drop ((i+1)*7))[j]? =some u->w.cell? (AD.add j)=some u:=by
  by_cases hc:cap=i+1
  ·refine ⟨_,rfl,fun j u hu=> ?_⟩
   have hl0:((Zi l).drop ((i+1)*7)).length=0:=by rw [hnl];omega
   have:=(List.getElem?_eq_some_iff.1 hu).1
   omega
  refine ⟨_,rfl,fun j u hu=> ?_⟩
  rw [if_neg hc,Addr.add_lit]
  rw [List.getElem?_drop] at hu
  exact hcell _ _ hu
 have hgf:cur.toList.length=cap*7:=by simpa using hcs
 have hfit:i*7+((Zi l).drop ((i+1)*7)).length<=cur.size:=by rw [hnl,hcs];omega
 -- behind the append
 obtain ⟨cur1,hcur1⟩:∃cur1,cur1=(cur.toList.take (i*7)++(Zi l).drop ((i+1)*7)++cur.toList.drop (i*7+((Zi l).drop ((i+1)*7)).length)).toArray:=⟨_,rfl⟩
 have hcs1:cur1.size=cap*7:=by rw [hcur1];simp only [List.size_toArray,List.length_append,List.length_take,List.length_drop];rw [hgf,hlen];omega
 have htk1:cur1.toList.take ((l.length-1)*7)=Zi (l.eraseIdx i):=by
  rw [hcur1]
  have hA:cur.toList.take (i*7)=(Zi l).take (i*7):=by rw [<-htk,List.take_take];congr 1;omega
  show List.take _ (_++_++_)=_
  rw [hA,Zne,List.take_append_of_le_length (by rw [Yj,List.length_eraseIdx,if_pos hi];omega),List.take_of_length_le (by rw [Yj,List.length_eraseIdx,if_pos hi];omega)]
 have hrun:∀w':World,Ext w w'->∀c,(Builtin.append_ #[45,45] 45 #[.slice (some ⟨g,0,none⟩) i cap,.slice (some AD) (l.length-(i+1)) c]).run Tryz.prog w'= .ok (.slice (some ⟨g,0,none⟩) (l.length-1) cap) (w'.setRow g cur1):=by
  intro w' hw' c
  have h1:=run_append_room (P:=Tryz.prog) w' 45 45 153 i0 Tryz.underlying45 hi0 g i cap cur (hw'.at hg) AD (l.length-(i+1)) c ((Zi l).drop ((i+1)*7)) (by rw [hz1];exact hnl)
   (fun j u hu=>by
     have hb:(AD.add j).block=g:=by
      rw [<-hAD]
      by_cases hc:cap=i+1
      ·rw [if_pos hc,Addr.add_lit]
      rw [if_neg hc,Addr.add_lit]
     rw [Zf (w:=w) (by rw [hb];exact hw'.block (Zg hg))]
     exact hsrc j u hu) hone (by omega) (by rw [hz1];exact hfit)
  rw [h1,hz1,<-hcur1,show i+(l.length-(i+1))=l.length-1 by omega]
 obtain ⟨cur2,hcur2⟩:∃cur2,cur2=(cur1.toList.take ((l.length-1)*7)++Zw.cells++cur1.toList.drop ((l.length-1)*7+7)).toArray:=⟨_,rfl⟩
 have hclr:∀W:World,W.heap[g]? =some (.cells cur1 153 (0,0))->∀ty c,(Builtin.clear_ #[45] ty #[.slice (some ⟨g,(l.length-1)*7,none⟩) (l.length-(l.length-1)) c]).run Tryz.prog W= .ok (.tuple #[]) (W.setRow g cur2):=fun W hW ty c=>by
  rw [show l.length-(l.length-1)=1 by omega,hcur2]
  exact Zke W g _ cur1 ty c hW (by rw [hcs1];omega)
 have hl1:cur1.toList.length=cap*7:=by simpa using hcs1
 have hcs2:cur2.size=cap*7:=by
  rw [hcur2]
  simp only [List.size_toArray,List.length_append,List.length_take,List.length_drop,hl1]
  have:Zw.cells.length=7:=rfl
  omega
 have htk2:cur2.toList.take ((l.length-1)*7)=Zi (l.eraseIdx i):=by
  rw [hcur2]
  show List.take _ (_++_++_)=_
  rw [List.append_assoc,List.take_append_of_le_length (by rw [List.length_take,hl1];omega),List.take_of_length_le (by rw [List.length_take];omega)]
  exact htk1
 clear hcur2 hl1 htk1
 clear hsrc hcell hfit hgf hnl hone htk hcur1 hlen
 by_cases hc:cap=i+1
 focus
  rw [if_pos hc] at hAD
  subst hc
  subst hAD
  go_enter Tryz.func186,Tryz.ntmps186
  go_wp2
  refine Zh Zl 6 [] (by kernel_rfl) (by kernel_rfl) ?_
  intro w1 hw1
  simp only [Zk,Rg.hsB,Nat.reduceAdd,↓reduceIte]
  repeat (go_big_quiet_step (fail))
  refine wpQuiet_nil ?_
  refine Zj (by kernel_rfl) ?_
  intro w2 e2 e2'
  simp only [Rg.puB]
  have hr2:=hrun w2 e2 0
  rw [show l.length-(i+1)=0 by omega] at hr2
 rotate_left
 focus
  rw [if_neg hc] at hAD
  subst hAD
  go_enter Tryz.func186,Tryz.ntmps186
  go_wp2
  refine Zh Zl 6 [] (by kernel_rfl) (by kernel_rfl) ?_
  intro w1 hw1
  simp only [Zk,Rg.hsB,Nat.reduceAdd,↓reduceIte]
  repeat (go_big_quiet_step (fail))
  refine wpQuiet_nil ?_
  refine Zj (by kernel_rfl) ?_
  intro w2 e2 e2'
  simp only [Rg.puB]
  have hr2:=hrun w2 e2 (cap-(i+1))
 all_goals
  have hg2:=e2.at hg
  refine Jd rfl _ _ _ rfl _ _ _ _ (by kernel_rfl) (by kernel_rfl) hr2 ?_
  simp only [Act.put,Rg.puB]
  have hg3:=setRow_heap w2 g cur cur1 _ _ hg2
  have k3:Keep [g] w (w2.setRow g cur1):=(Kx e2).trans ⟨rfl,rfl,rfl,by simp [World.setRow],fun k _ hk=>setRow_other w2 g k _ (by simpa using hk)⟩
  generalize w2.setRow g cur1=w3 at hg3 k3 ⊢
  go_wp2_with (refine J3 rfl rfl _ _ rfl _ _ _ (by kernel_rfl) (hclr _ hg3 _ _) ?_)
  go_ret
  have hg4:=setRow_heap w3 g cur1 cur2 _ _ hg3
  exact ⟨rfl,k3.trans ⟨rfl,rfl,rfl,by simp [World.setRow],fun k _ hk=>setRow_other w3 g k _ (by simpa using hk)⟩,_,hg4,hcs2,htk2⟩
def Ja (B:Bk) (seq n:Int):Int×Bk:=match Yk B.offs seq with
 | none=>(7,B)
 | some o=>if n<1\/o.left<n then (1,B)
   else if o.left=n then (0,{ B with offs:=B.offs.eraseIdx (Zht B.offs seq).toNat })
   else (0,{ B with offs:=B.offs.set (Zht B.offs seq).toNat { o with left:=o.left-n } })
theorem Zmu (l:List Off) (j:Nat) (hj:j<l.length) (x:Int):(Zi l).set (j*7+4) (.int .i64 x)=Zi (l.set j { (l[j]'hj) with left:=x }):=by
 induction l generalizing j with
 | nil=>simp at hj
 | cons o l ih=>
   have h7:(Off.cells o).length=7:=rfl
   cases j with
   | zero=>
     simp only [Zi,List.flatMap_cons,List.getElem_cons_zero,List.set_cons_zero,Nat.zero_mul,Nat.zero_add]
     rw [List.set_append_left _ _ (by rw [h7];omega)]
     rfl
   | succ j=>
     have:=ih j (by simpa using hj)
     simp only [Zi,List.flatMap_cons,List.getElem_cons_succ,List.set_cons_succ] at this ⊢
     rw [List.set_append_right _ _ (by rw [h7];omega),h7,show (j+1)*7+4-7=j*7+4 by omega,this]
theorem take_any (p:Nat) (g:Option Nat) (B:Bk) (seq n:Int) (w:World) (h:IsBook w p g B) (hok:∀o∈B.offs,Xr o=true):
 Calls Tryz.prog 232 #[.pointer (some ⟨p,0,none⟩),.int .u64 seq,.int .i64 n] w (Zj7 (.int .i64 (Ja B seq n).1) p g (Ja B seq n).2 w):=by
 have ct:=fun w h=>V1 p g B w h
 have ca:=fun w h=>Zsc p g B seq w h
 rcases Zgg B.offs seq with ⟨h1,h2⟩ | ⟨j,hj,h1,h2⟩
 ·have hr:Ja B seq n=(7,B):=by unfold Ja;rw [h2]
  rw [hr]
  rw [h1] at ca
  clear hr h1 h2
  go_enter Tryz.func232,Tryz.ntmps232
  go_wp2_with fail
  refine (ct _ h).mono ?_
  rintro e w1 ⟨rfl,e1⟩
  go_wp2_with fail
  refine (ca _ (h.ext e1)).mono ?_
  rintro e w2 ⟨rfl,e2⟩
  have E2:=Xt e1 e2
  have h2:=h.ext E2
  go_wp2
  go_ret
  exact Zj7.same h E2
 have hmem:(B.offs[j]'hj)∈B.offs:=List.getElem_mem hj
 have hoo:=hok _ hmem
 have hset:=Zmu B.offs j hj
 have hr:Ja B seq n=if n<1\/(B.offs[j]'hj).left<n then (1,B)
  else if (B.offs[j]'hj).left=n then (0,{ B with offs:=B.offs.eraseIdx j })
  else (0,{ B with offs:=B.offs.set j { (B.offs[j]'hj) with left:=(B.offs[j]'hj).left-n } }):=by
  unfold Ja;rw [h2,h1];rfl
 rw [hr]
 rw [h1] at ca
 generalize ho:B.offs[j]'hj=o at *
 have HO:=Lib.hid ho
 clear hr h1 h2 ho hmem hok
 by_cases hn1:n<1
 ·rw [if_pos (.inl hn1)]
  go_enter Tryz.func232,Tryz.ntmps232
  go_wp2_with fail
  refine (ct _ h).mono ?_
  rintro e w1 ⟨rfl,e1⟩
  go_wp2_with fail
  refine (ca _ (h.ext e1)).mono ?_
  rintro e w2 ⟨rfl,e2⟩
  have E2:=Xt e1 e2
  have h2:=h.ext E2
  go_wp2
  go_ret
  exact Zj7.same h E2
 by_cases hn2:o.left<n
 ·rw [if_pos (.inr hn2)]
  go_enter Tryz.func232,Tryz.ntmps232
  go_wp2_with fail
  refine (ct _ h).mono ?_
  rintro e w1 ⟨rfl,e1⟩
  go_wp2_with fail
  refine (ca _ (h.ext e1)).mono ?_
  rintro e w2 ⟨rfl,e2⟩
  have E2:=Xt e1 e2
  have h2:=h.ext E2
  obtain ⟨v,hp2,hv,hown⟩:=h2.row
  obtain ⟨b,cap,cur,rfl,hg2,q1,q2,q3,q4⟩:∃b cap cur,v= .slice (some ⟨b,0,none⟩) B.offs.length cap/\w2.heap[b]? =some (.cells cur 153 (0,0))/\B.offs.length<=cap/\cap<=maxLen/\cur.size=cap*7/\cur.toList.take (B.offs.length*7)=Zi B.offs:=by
   rcases hown.2 with ⟨_,h4⟩ | ⟨b,cap,cur,hvv,_,hh,r1,r2,r3,r4⟩
   ·omega
   exact ⟨b,cap,cur,hvv,hh,r1,r2,r3,r4⟩
  have hc0:=Za hp2 (j:=0) rfl
  have hcurL:cur.toList[j*7+4]? =some (.int .i64 o.left):=by
   have:=Y7 B.offs j 4 hj (by omega)
   rw [HO.out,<-q4,List.getElem?_take_of_lt (by omega)] at this
   exact this
  have hcL:w2.cell? ⟨b,j*7+4,none⟩=some (.int .i64 o.left):=Za hg2 (by rw [<-Array.getElem?_toList];exact hcurL)
  have hn63:(B.offs.length:Int)<=9223372036854775807:=by have:=h.few;omega
  have hgt:decide (o.left<n)=true:=by simpa using hn2
  go_wp2
  go_ret
  exact Zj7.same h E2
 have hgt:decide (o.left<n)=false:=by simpa using hn2
 rw [if_neg (by omega)]
 have hlb:1<=o.left/\o.left<=1099511627776:=by unfold Xr at hoo;rw [decide_eq_true_eq] at hoo;omega
 by_cases hz:o.left=n
 ·rw [if_pos hz]
  have hz1:(o.left-n==0)=true:=by simp;omega
  have hz2:0<=o.left-n:=by omega
  have hz3:o.left-n<=1099511627776:=by omega
  go_enter Tryz.func232,Tryz.ntmps232
  go_wp2_with fail
  refine (ct _ h).mono ?_
  rintro e w1 ⟨rfl,e1⟩
  go_wp2_with fail
  refine (ca _ (h.ext e1)).mono ?_
  rintro e w2 ⟨rfl,e2⟩
  have E2:=Xt e1 e2
  have h2:=h.ext E2
  obtain ⟨v,hp2,hv,hown⟩:=h2.row
  obtain ⟨b,cap,cur,rfl,hg2,q1,q2,q3,q4⟩:∃b cap cur,v= .slice (some ⟨b,0,none⟩) B.offs.length cap/\w2.heap[b]? =some (.cells cur 153 (0,0))/\B.offs.length<=cap/\cap<=maxLen/\cur.size=cap*7/\cur.toList.take (B.offs.length*7)=Zi B.offs:=by
   rcases hown.2 with ⟨_,h4⟩ | ⟨b,cap,cur,hvv,_,hh,r1,r2,r3,r4⟩
   ·omega
   exact ⟨b,cap,cur,hvv,hh,r1,r2,r3,r4⟩
  have hc0:=Za hp2 (j:=0) rfl
  have hcurL:cur.toList[j*7+4]? =some (.int .i64 o.left):=by
   have:=Y7 B.offs j 4 hj (by omega)
   rw [HO.out,<-q4,List.getElem?_take_of_lt (by omega)] at this
   exact this
  have hcL:w2.cell? ⟨b,j*7+4,none⟩=some (.int .i64 o.left):=Za hg2 (by rw [<-Array.getElem?_toList];exact hcurL)
  have hn63:(B.offs.length:Int)<=9223372036854775807:=by have:=h.few;omega
  have f4:=frozen_of_row w2 b (j*7+4) _ _ hg2
  have hg3:=heap_setCell_same w2 b (j*7+4) _ _ (.int .i64 (o.left-n)) hg2
  have k3:Keep [b] w2 (w2.setCell ⟨b,j*7+4,none⟩ (.int .i64 (o.left-n))):=(Keep.refl _ _).setCell (Or.inl (by simp)) _
  have hpb:p∉[b]:=by
   have:=Y4 hown hp2 (by decide)
   simp only [List.mem_singleton]
   rintro rfl
   exact this rfl
  have hp3:=k3.at hp2 hpb
  have hc3:=Za hp3 (j:=0) rfl
  have hsz:j*7+4<cur.size:=by omega
  have hcL3:(w2.setCell ⟨b,j*7+4,none⟩ (.int .i64 (o.left-n))).cell? ⟨b,j*7+4,none⟩=some (.int .i64 (o.left-n)):=Za hg3 (by simp [hsz])
  have htk3:(cur.setIfInBounds (j*7+4) (.int .i64 (o.left-n))).toList.take (B.offs.length*7)=Zi (B.offs.set j { o with left:=o.left-n }):=by
   have:=hset (o.left-n)
   rw [<-this,<-q4,Array.toList_setIfInBounds,List.take_set]
  have hl3:(B.offs.set j { o with left:=o.left-n }).length=B.offs.length:=List.length_set ..
  have cd:=fun w3 (hg:w3.heap[b]? =some (.cells (cur.setIfInBounds (j*7+4) (.int .i64 (o.left-n))) 153 (0,0)))=>Zhj b cap j _ (B.offs.set j { o with left:=o.left-n }) w3 (by rw [hl3];exact hj) (by rw [hl3];exact q1) q2 hg (by simpa using q3) (by rw [hl3];exact htk3)
  simp only [hl3,List.eraseIdx_set_eq] at cd
  clear hz
  go_wp2_with (go_at_call 186;refine (cd _ hg3).mono ?_;rintro e w4 ⟨rfl,k4,cur4,hg4,hs4,ht4⟩;have hp4:=k4.at hp3 hpb;have c40:=Za hp4 (j:=0) rfl;have f40:=frozen_of_row w4 p 0 _ _ hp4)
  go_ret
  have hp5:=heap_setCell_same w4 p 0 _ _ (.slice (some ⟨b,0,none⟩) (B.offs.length-1) cap) hp4
  have k5:Keep [p] w4 (w4.setCell ⟨p,0,none⟩ (.slice (some ⟨b,0,none⟩) (B.offs.length-1) cap)):=(Keep.refl _ _).setCell (Or.inl (by simp)) _
  have hbp:b∉[p]:=by simp only [List.mem_singleton];rintro rfl;exact hpb (by simp)
  have hg5:=k5.at hg4 hbp
  have hle:(B.offs.eraseIdx j).length=B.offs.length-1:=by rw [List.length_eraseIdx,if_pos hj]
  refine ⟨rfl,g,?_,⟨⟨_,hp5,hv,?_⟩,h.made,h.top,by rw [hle];have:=h.few;omega⟩,.inl rfl⟩
  ·have hS:∀x∈[b],x∈p::g.toList:=fun x hx=>by rw [<-hv];simp at hx;simp [Value.ownBlock,hx]
   exact (((Kx E2).trans (k3.mono hS)).trans (k4.mono hS)).trans (k5.mono (fun x hx=>by simp at hx;simp [hx]))
  simp only [hle]
  exact ⟨by rw [Yj,hle],.inr ⟨b,cap,cur4,rfl,Nat.zero_le _,hg5,by omega,q2,hs4,ht4⟩⟩
 rw [if_neg hz]
 have hz1:(o.left-n==0)=false:=by simp;omega
 have hz2:0<o.left-n:=by omega
 have hz3:o.left-n<=1099511627776:=by omega
 go_enter Tryz.func232,Tryz.ntmps232
 go_wp2_with fail
 refine (ct _ h).mono ?_
 rintro e w1 ⟨rfl,e1⟩
 go_wp2_with fail
 refine (ca _ (h.ext e1)).mono ?_
 rintro e w2 ⟨rfl,e2⟩
 have E2:=Xt e1 e2
 have h2:=h.ext E2
 obtain ⟨v,hp2,hv,hown⟩:=h2.row
 obtain ⟨b,cap,cur,rfl,hg2,q1,q2,q3,q4⟩:∃b cap cur,v= .slice (some ⟨b,0,none⟩) B.offs.length cap/\w2.heap[b]? =some (.cells cur 153 (0,0))/\B.offs.length<=cap/\cap<=maxLen/\cur.size=cap*7/\cur.toList.take (B.offs.length*7)=Zi B.offs:=by
  rcases hown.2 with ⟨_,h4⟩ | ⟨b,cap,cur,hvv,_,hh,r1,r2,r3,r4⟩
  ·omega
  exact ⟨b,cap,cur,hvv,hh,r1,r2,r3,r4⟩
 have hc0:=Za hp2 (j:=0) rfl
 have hcurL:cur.toList[j*7+4]? =some (.int .i64 o.left):=by
  have:=Y7 B.offs j 4 hj (by omega)
  rw [HO.out,<-q4,List.getElem?_take_of_lt (by omega)] at this
  exact this
 have hcL:w2.cell? ⟨b,j*7+4,none⟩=some (.int .i64 o.left):=Za hg2 (by rw [<-Array.getElem?_toList];exact hcurL)
 have hn63:(B.offs.length:Int)<=9223372036854775807:=by have:=h.few;omega
 have f4:=frozen_of_row w2 b (j*7+4) _ _ hg2
 have hg3:=heap_setCell_same w2 b (j*7+4) _ _ (.int .i64 (o.left-n)) hg2
 have k3:Keep [b] w2 (w2.setCell ⟨b,j*7+4,none⟩ (.int .i64 (o.left-n))):=(Keep.refl _ _).setCell (Or.inl (by simp)) _
 have hpb:p∉[b]:=by
  have:=Y4 hown hp2 (by decide)
  simp only [List.mem_singleton]
  rintro rfl
  exact this rfl
 have hp3:=k3.at hp2 hpb
 have hc3:=Za hp3 (j:=0) rfl
 have hsz:j*7+4<cur.size:=by omega
 have hcL3:(w2.setCell ⟨b,j*7+4,none⟩ (.int .i64 (o.left-n))).cell? ⟨b,j*7+4,none⟩=some (.int .i64 (o.left-n)):=Za hg3 (by simp [hsz])
 have htk3:(cur.setIfInBounds (j*7+4) (.int .i64 (o.left-n))).toList.take (B.offs.length*7)=Zi (B.offs.set j { o with left:=o.left-n }):=by
  have:=hset (o.left-n)
  rw [<-this,<-q4,Array.toList_setIfInBounds,List.take_set]
 go_wp2
 go_ret
 refine ⟨rfl,g,(Kx E2).trans (k3.mono (fun x hx=>by rw [<-hv];simp at hx;simp [Value.ownBlock,hx])),⟨⟨_,hp3,hv,?_⟩,h.made,h.top,by rw [List.length_set];exact h.few⟩,.inl rfl⟩
 rw [List.length_set]
 exact ⟨by rw [Yj,List.length_set],.inr ⟨b,cap,_,rfl,Nat.zero_le _,hg3,q1,q2,by simpa using q3,htk3⟩⟩
end Go.Proofs.YtipjchbdogmccaaGreat
