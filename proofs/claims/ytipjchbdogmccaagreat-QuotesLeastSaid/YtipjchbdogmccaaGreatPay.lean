/- Payments: what may be wrong with one; and the ways' bounds. Payments: a bad one. Flows: the least capacity along a way. Fills: the first bounds. A queue: a row with an offset. The shortest ways' distances, as plain functions. -/
import Derived.Test.YtipjchbdogmccaaGreatGr
import Derived.ArgAppend
set_option maxHeartbeats 1600000
set_option maxRecDepth 100000
namespace Go.Proofs.YtipjchbdogmccaaGreat
open Go.RowKit Go.Rg Go.BigFrame
theorem Zez (p:Int) (w:World):Calls Tryz.prog 275 #[.int .u8 p] w (fun e w'=>e= .returned (.bool (Zm p))/\w'=w):=by
 by_cases h1:1<=p
 focus
  have hv:Zm p=decide (p<17):=by unfold Zm;rw [Bool.eq_iff_iff];simp [h1];omega
  rw [hv]
 rotate_left
 focus
  have hv:Zm p=false:=by unfold Zm;simp [h1]
  rw [hv]
  have h1':decide (1<=p)=false:=by simpa using h1
 all_goals
  go_enter Tryz.func275,Tryz.ntmps275
  go_wp2
  go_ret
  exact ⟨rfl,rfl⟩
theorem Zlf (p:Int) (w:World):Calls Tryz.prog 254 #[.int .u8 p] w (fun e w'=>e= .returned (.bool (Zm p))/\w'=w):=by
 by_cases h1:1<=p
 focus
  have hv:Zm p=decide (p<=16):=by unfold Zm;rw [Bool.eq_iff_iff];simp [h1]
  rw [hv]
 rotate_left
 focus
  have hv:Zm p=false:=by unfold Zm;simp [h1]
  rw [hv]
  have h1':decide (1<=p)=false:=by simpa using h1
 all_goals
  go_enter Tryz.func254,Tryz.ntmps254
  go_wp2
  go_ret
  exact ⟨rfl,rfl⟩
def payV (p:Nat) (a b c n:Int):Value:= .agg #[.pointer (some ⟨p,0,none⟩),.int .u8 a,.int .u8 b,.int .u8 c,.int .i64 n]
def Zkv (a b c n:Int):Bool:= !(Zm a&&Zm b&& !(a==b)&&decide (1<=c)&&decide (c<=8)&&decide (1<=n)&&decide (n<=1099511627776))
theorem Zsf (p m:Nat) (L:Led) (a b c n:Int) (w:World) (h:IsLed w p m L):Calls Tryz.prog 213 #[payV p a b c n] w (Ret (.bool false) w):=by
 unfold payV
 have e0:Ext w (w.alloc (.cells #[.pointer (some ⟨p,0,none⟩),.int .u8 a,.int .u8 b,.int .u8 c,.int .i64 n] 273)):=Zc _ _
 have cc:=fun w h=>Zfe p m L w h
 go_enter Tryz.func213,Tryz.ntmps213
 go_wp2_with fail
 refine (cc _ (h.ext e0)).mono ?_
 rintro e w2 ⟨q,m2,rfl,e2,_⟩
 go_wp2
 go_ret
 exact ⟨rfl,Xt e0 e2⟩
theorem Zn0 (p m:Nat) (L:Led) (a b c n:Int) (w:World) (h:IsLed w p m L):Calls Tryz.prog 215 #[payV p a b c n] w (Ret (.bool (!(Yr L a&&Yr L b))) w):=by
 unfold payV
 have e0:Ext w (w.alloc (.cells #[.pointer (some ⟨p,0,none⟩),.int .u8 a,.int .u8 b,.int .u8 c,.int .i64 n] 273)):=Zc _ _
 have ca:=fun w h=>Za7 p m L a w h
 have cb:=fun w h=>Za7 p m L b w h
 cases ha:Yr L a with
 | false=>
   rw [ha] at ca
   clear ha
   go_enter Tryz.func215,Tryz.ntmps215
   go_wp2_with fail
   refine (ca _ (h.ext e0)).mono ?_
   rintro e w2 ⟨rfl,e2⟩
   go_wp2
   go_ret
   exact ⟨rfl,Xt e0 e2⟩
 | true=>
   rw [ha] at ca
   clear ha
   generalize Yr L b=hb at *
   go_enter Tryz.func215,Tryz.ntmps215
   go_wp2_with fail
   refine (ca _ (h.ext e0)).mono ?_
   rintro e w2 ⟨rfl,e2⟩
   have t2:=e2.at (Zb w (.cells #[.pointer (some ⟨p,0,none⟩),.int .u8 a,.int .u8 b,.int .u8 c,.int .i64 n] 273))
   have g0:=Za t2 (j:=0) rfl
   have g2:=Za t2 (j:=2) rfl
   go_wp2_with fail
   refine (cb _ ((h.ext e0).ext e2)).mono ?_
   rintro e w3 ⟨rfl,e3⟩
   go_wp2
   go_ret
   exact ⟨rfl,Xt e0 (Xt e2 e3)⟩
theorem bad_any (p:Nat) (a b c n:Int) (w:World):Calls Tryz.prog 214 #[payV p a b c n] w (Ret (.bool (Zkv a b c n)) w):=by
 unfold payV Zkv
 have e0:Ext w (w.alloc (.cells #[.pointer (some ⟨p,0,none⟩),.int .u8 a,.int .u8 b,.int .u8 c,.int .i64 n] 273)):=Zc _ _
 have ma:=Zlf a
 have mb:=Zlf b
 cases ha:Zm a
 focus
  rw [ha] at ma
  clear ha
  go_enter Tryz.func214,Tryz.ntmps214
  go_wp2_with fail
  refine (ma _).mono ?_
 rotate_left
 focus
  rw [ha] at ma
  clear ha
  cases hb:Zm b
  focus
   rw [hb] at mb
   clear hb
  rotate_left
  focus
   rw [hb] at mb
   clear hb
   by_cases hab:a=b
   focus
    have h1:(a==b)=true:=by simpa using hab
    rw [h1]
    clear hab
   rotate_left
   focus
    have h1:(a==b)=false:=by simpa using hab
    rw [h1]
    by_cases hc0:c<1
    focus
     have hg:decide (1<=c)=false:=by simpa using hc0
     have hd:decide (c<1)=true:=by simpa using hc0
     rw [hg]
     simp only [Bool.and_false,Bool.false_and,Bool.and_true,Bool.not_false]
     clear hg
    rotate_left
    focus
     have hg0:decide (1<=c)=true:=by simp;omega
     have hd0:decide (c<1)=false:=by simpa using hc0
     rw [hg0]
     clear hg0
     by_cases hc1:8<c
     focus
      have hg:decide (c<=8)=false:=by simpa using hc1
      have hd:decide (8<c)=true:=by simpa using hc1
      rw [hg]
      simp only [Bool.and_false,Bool.false_and,Bool.and_true,Bool.not_false]
      clear hg
     rotate_left
     focus
      have hg1:decide (c<=8)=true:=by simp;omega
      have hd1:decide (8<c)=false:=by simpa using hc1
      rw [hg1]
      clear hg1
      by_cases hc2:n<1
      focus
       have hg:decide (1<=n)=false:=by simpa using hc2
       have hd:decide (n<1)=true:=by simpa using hc2
       rw [hg]
       simp only [Bool.and_false,Bool.false_and,Bool.and_true,Bool.not_false]
       clear hg
      rotate_left
      focus
       have hg2:decide (1<=n)=true:=by simp;omega
       have hd2:decide (n<1)=false:=by simpa using hc2
       rw [hg2]
       clear hg2
       by_cases hc3:1099511627776<n
       focus
        have hg:decide (n<=1099511627776)=false:=by simpa using hc3
        have hd:decide (1099511627776<n)=true:=by simpa using hc3
        rw [hg]
        simp only [Bool.and_false,Bool.and_true,Bool.not_false]
        clear hg
       rotate_left
       focus
        have hg3:decide (n<=1099511627776)=true:=by simp;omega
        have hd3:decide (1099511627776<n)=false:=by simpa using hc3
        rw [hg3]
        clear hg3
  all_goals
   go_enter Tryz.func214,Tryz.ntmps214
   go_wp2_with fail
   refine (ma _).mono ?_
   rintro e w' ⟨rfl,hw⟩
   subst hw
   go_wp2_with fail
   refine (mb _).mono ?_
 all_goals
  rintro e w' ⟨rfl,hw⟩
  subst hw
  go_wp2
  go_ret
  exact ⟨rfl,e0⟩
def Z5 (c:List Int):List Int->Int->Int
 | a::b::r,w=>Z5 c (b::r) (min w (Yi c a b))
 | _,w=>w
theorem Zra (c:List Int) (l:List Int) (w:Int) (h:l.length<=1):Z5 c l w=w:=by
 match l,h with
 | [],_=>rfl
 | [_],_=>rfl
theorem Jj (c:List Int) (a b:Int) (r:List Int) (w:Int):Z5 c (a::b::r) w=Z5 c (b::r) (min w (Yi c a b)):=rfl
theorem Zri (base p:Nat) (c way:List Int) (v:Value) (want:Int) (w:World) (h:IsG w p c) (hs:Zn w base 1 v way.length (way.map (.int .u8))):
 Calls Tryz.prog 218 #[.pointer (some ⟨p,0,none⟩),v,.int .i64 want] w (Ret (.int .i64 (Z5 c way want)) w):=by
 have cc:=fun a b w (h:IsG w p c)=>((Zh9 p c a b w h).mono (fun e w' hh=>(⟨hh.1,hh.2▸Ext.refl _⟩:Ret (.int .i64 (Yi c a b)) w e w')))
 have hm:=hs
 obtain ⟨A,cap,rfl,hget⟩:=hs.get
 have hn63:(way.length:Int)<=9223372036854775807:=by obtain ⟨_,_,hv,h1,h2,_⟩:=hm;unfold maxLen at h2;omega
 clear hm
 go_enter Tryz.func218,Tryz.ntmps218
 go_wp2
 go_loopw [2,11] (fun x i wr=>∃(k:Nat) (wt:Int),(k=0\/k+1<=way.length)/\i= .int .i64 k/\x= .int .i64 wt/\Ext w wr/\Z5 c way want=Z5 c (way.drop k) wt) (fun _ i _=>way.length-(intOf i).toNat)
 case atStart=>exact ⟨0,want,.inl rfl,rfl,rfl,Ext.refl _,rfl⟩
 obtain ⟨k,wt,hk,rfl,rfl,e1,hid⟩:=hrel
 by_cases hkn:k+1<way.length
 ·have hd:way.drop k=way[k]'(by omega)::way[k+1]'hkn::way.drop (k+2):=by
   rw [List.drop_eq_getElem_cons (by omega),List.drop_eq_getElem_cons hkn]
  rw [hd] at hid
  rw [Jj] at hid
  have hd2:way[k+1]'hkn::way.drop (k+2)=way.drop (k+1):=by rw [List.drop_eq_getElem_cons hkn]
  rw [hd2] at hid
  obtain ⟨g,rfl,hb,hlt,u,hu,hcu⟩:=hget k (by omega)
  obtain ⟨g',hg',_,_,u',hu',hcu'⟩:=hget (k+1) hkn
  simp only [Option.some.injEq,Addr.mk.injEq,and_true] at hg'
  subst hg'
  rw [List.getElem?_map,List.getElem?_eq_getElem (by omega)] at hu hu'
  simp only [Option.map_some,Option.some.injEq] at hu hu'
  subst hu hu'
  generalize way[k]'(by omega)=x0 at *
  generalize way[k+1]'hkn=x1 at *
  have hc1:=(Zf (a:=⟨g,k,none⟩) (e1.block hlt)).trans hcu
  have hc2:=(Zf (a:=⟨g,k+1,none⟩) (e1.block hlt)).trans hcu'
  have hltr:g<wr.heap.size:=Nat.lt_of_lt_of_le hlt e1.size
  have cq:=cc x0 x1
  generalize Yi c x0 x1=cap01 at *
  have hGr:=h.ext e1
  clear hd hd2 hget hcu hcu' cc
  go_wp2
  refine Zh Zl 12 [] (by kernel_rfl) (by kernel_rfl) ?_
  intro w1 hw1
  have hGq:∀q:ExtOf w1,IsG q.to p c:=fun q=>hGr.ext (Xt hw1 q.h)
  have d1:∀q:ExtOf w1,q.to.cell? ⟨g,k,none⟩=some (.int .u8 x0):=fun q=>(Zf ((Xt hw1 q.h).block hltr)).trans hc1
  have d2:∀q:ExtOf w1,q.to.cell? ⟨g,k+1,none⟩=some (.int .u8 x1):=fun q=>(Zf ((Xt hw1 q.h).block hltr)).trans hc2
  simp only [Zk,Rg.hsB,Nat.reduceAdd,↓reduceIte]
  repeat (go_big_quiet_step ((go_at_call 258;exact Ret.cls (cq _ (hGq _)))))
  refine wpQuiet_nil ?_
  refine Zj (by kernel_rfl) ?_
  intro w4 e4 e4'
  simp only [Rg.puB]
  go_wp2
  exact ⟨⟨k+1,min wt cap01,.inr (by omega),by go_num,rfl,Xt e1 e4,hid⟩,by simp [intOf];omega⟩
 rw [Zra c (way.drop k) wt (by rw [List.length_drop];omega)] at hid
 go_wp2
 go_ret
 exact ⟨by rw [hid];rfl,e1⟩
theorem Zme (base n:Nat) (v:Value) (xs:List Value) (w:World) (h:Zn w base 3 v n xs):Calls Tryz.prog 220 #[v] w (fun e w'=>∃v',e= .returned v'/\w'=w/\Zn w' base 3 v' n xs):=by
 obtain ⟨A,cap,rfl,h1,h2,h3,h4⟩:=h
 rcases h4 with rfl | ⟨g,rfl,hb,hlt,hc⟩
 ·cases A
  rotate_left
  focus rename_i a
  all_goals
   go_enter Tryz.func220,Tryz.ntmps220
   go_wp2
   go_ret
   exact ⟨_,rfl,rfl,_,_,rfl,Nat.le_refl _,by unfold maxLen;omega,h3,.inl rfl⟩
 have hn63:(n:Int)<=9223372036854775807:=by unfold maxLen at h2;omega
 go_enter Tryz.func220,Tryz.ntmps220
 go_wp2
 go_ret
 exact ⟨_,rfl,rfl,_,_,rfl,Nat.le_refl _,Nat.le_trans h1 h2,h3,.inr ⟨g,rfl,hb,hlt,hc⟩⟩
def Uc (l b:Value) (o:Off) (taker to want most:Int):List Value:=[l,b,.int .u64 o.seq,.int .u8 o.owner,.int .u8 o.sell,.int .u8 o.buy,.int .i64 o.left,.int .i64 o.num,.int .i64 o.den,.int .u8 taker,.int .u8 to,.int .i64 want,.int .i64 most]
def Vv (l b:Value) (o:Off) (taker to want most:Int):Value:= .agg (Uc l b o taker to want most).toArray
theorem Zp5 (l b:Option Addr) (o:Off) (taker to want most:Int) (w:World):Calls Tryz.prog 227 #[Vv (.pointer l) (.pointer b) o taker to want most] w (Ret (.int .i64 want) w):=by
 unfold Vv Uc
 have e0:=Zc w (.cells #[.pointer l,.pointer b,.int .u64 o.seq,.int .u8 o.owner,.int .u8 o.sell,.int .u8 o.buy,.int .i64 o.left,.int .i64 o.num,.int .i64 o.den,.int .u8 taker,.int .u8 to,.int .i64 want,.int .i64 most] 344)
 go_enter Tryz.func227,Tryz.ntmps227
 go_wp2
 go_ret
 exact ⟨rfl,e0⟩
theorem left_any (l b:Option Addr) (o:Off) (taker to want most:Int) (w:World):Calls Tryz.prog 228 #[Vv (.pointer l) (.pointer b) o taker to want most] w (Ret (.int .i64 o.left) w):=by
 unfold Vv Uc
 have e0:=Zc w (.cells #[.pointer l,.pointer b,.int .u64 o.seq,.int .u8 o.owner,.int .u8 o.sell,.int .u8 o.buy,.int .i64 o.left,.int .i64 o.num,.int .i64 o.den,.int .u8 taker,.int .u8 to,.int .i64 want,.int .i64 most] 344)
 go_enter Tryz.func228,Tryz.ntmps228
 go_wp2
 go_ret
 exact ⟨rfl,e0⟩
def Zbc (w:World) (base:Nat) (v:Value) (q:List Int):Prop:=
 ∃b off cap cur,v= .slice (some ⟨b,off,none⟩) q.length cap/\base<=b/\w.heap[b]? =some (.cells cur 24 (0,0))/\q.length<=cap/\cap<=maxLen/\off+cap<=cur.size/\∀j x,q[j]? =some x->cur[off+j]? =some (.int .u8 x)
theorem Zbc.keep {S:List Nat} {w w':World} {base:Nat} {v:Value} {q:List Int} (h:Zbc w base v q) (k:Keep S w w') (hS:∀x∈S,x<base):Zbc w' base v q:=by
 obtain ⟨b,off,cap,cur,h1,h2,h3,h4⟩:=h
 exact ⟨b,off,cap,cur,h1,h2,k.at h3 (fun hb=>by have:=hS b hb;omega),h4⟩
theorem Zbc.ext {w w':World} {base:Nat} {v:Value} {q:List Int} (h:Zbc w base v q) (k:Ext w w'):Zbc w' base v q:=h.keep (Kx (S:=[]) k) (by simp)
theorem Zbc.one {w:World} {base b:Nat} {x:Int} (hb:base<=b) (h:w.heap[b]? =some (.cells #[.int .u8 x] 24 (0,0))):Zbc w base (.slice (some ⟨b,0,none⟩) 1 1) [x]:=
 ⟨b,0,1,_,rfl,hb,h,by simp,by unfold maxLen;omega,by simp,fun j y hy=>by
  match j,hy with
  | 0,hy=>simp at hy;subst hy;rfl
  | j+1,hy=>simp at hy⟩
theorem append_q (w:World) (base:Nat) (v:Value) (q:List Int) (x:Int) (xb:Nat) (ty:TypeId) (fr:Nat×Nat) (h:Zbc w base v q) (hq:q.length<=64) (hbase:base<=w.heap.size) (hx:w.heap[xb]? =some (.cells #[.int .u8 x] ty fr)):
 ∃v' w',(Builtin.append_ #[43,43] 43 #[v,.slice (some ⟨xb,0,none⟩) 1 1]).run Tryz.prog w= .ok v' w'/\Zbc w' base v' (q++[x])/\w.grownBy w' v.ownBlock:=by
 obtain ⟨b,off,cap,cur,rfl,h2,h3,h4,h5,h6,h7⟩:=h
 obtain ⟨i0,hi,hz0,hz1,hz2⟩:=info_parts Zbv
 have hnews:∀j u,[Value.int .u8 x][j]? =some u->w.cell? ((⟨xb,0,none⟩:Addr).add j)=some u:=by
  intro j u hu
  match j,hu with
  | 0,hu=>
    simp at hu
    subst hu
    exact Za (j:=0) hx rfl
  | j+1,hu=>simp at hu
 by_cases hroom:q.length+1<=cap
 ·have hr:=run_append_room_cells (P:=Tryz.prog) w 43 43 24 i0 Tryz.underlying43 hi b off q.length cap ⟨xb,0,none⟩ 1 1 [.int .u8 x] (by rw [hz1];rfl) hnews (by simp [Value.oneCell']) hroom
   (fun j hj=>by
     have hj0:j=0:=by simpa using hj
     subst hj0
     rw [hz1,cell_of_row w b _ cur _ _ h3,Array.getElem?_eq_getElem (by omega)]
     rfl)
   (fun j hj=>frozen_of_row w b _ cur _ h3)
  rw [hz1] at hr
  refine ⟨_,_,hr,?_,?_⟩
  ·have hs:=heap_setCell_same w b (off+q.length*1) _ _ (.int .u8 x) h3
   refine ⟨b,off,cap,cur.setIfInBounds (off+q.length*1) (.int .u8 x),by simp,h2,hs,by simpa using hroom,h5,by simpa using h6,fun j y hj=> ?_⟩
   rw [Array.getElem?_setIfInBounds]
   by_cases he:j<q.length
   ·rw [if_neg (by omega)]
    rw [List.getElem?_append_left he] at hj
    exact h7 j y hj
   have hjl:=(List.getElem?_eq_some_iff.1 hj).1
   have he2:j=q.length:=by simp at hjl;omega
   subst he2
   rw [if_pos (by omega),if_pos (by omega)]
   rw [List.getElem?_append_right (Nat.le_refl _)] at hj
   simp at hj
   subst hj
   rfl
  have hk:Keep [b] w (w.setCell ⟨b,off+q.length*1,none⟩ (.int .u8 x)):=(Keep.refl _ _).setCell (Or.inl (by simp)) _
  exact ⟨hk.os,hk.tape,hk.output,hk.size,fun k hlt hne=>hk.block k hlt (fun hm=>hne (by simp at hm;subst hm;rfl))⟩
 have holds:∀j u,(q.map (Value.int .u8))[j]? =some u->w.cell? ((⟨b,off,none⟩:Addr).add j)=some u:=by
  intro j u hu
  rw [Addr.add_lit]
  rw [List.getElem?_map] at hu
  cases hj:q[j]? with
  | none=>rw [hj] at hu;simp at hu
  | some y=>
    rw [hj] at hu
    simp only [Option.map_some,Option.some.injEq] at hu
    subst hu
    exact Za h3 (h7 j y hj)
 obtain ⟨v',w',hr,hown,hgrow⟩:=run_append_arg_grows (P:=Tryz.prog) w 43 43 24 i0 (.int .u8 0) 1 1 Tryz.underlying43 hi hz0 hz1 hz2 rfl (by decide) ⟨b,off,none⟩ q.length cap (q.map (Value.int .u8)) (by simp) holds ⟨xb,0,none⟩ 1 1 [.int .u8 x] rfl hnews (by omega) (by unfold maxLen;omega) (by omega)
 refine ⟨v',w',hr,?_,⟨hgrow.os,hgrow.tape,hgrow.output,hgrow.size,fun k hk _=>hgrow.block k hk (by simp)⟩⟩
 rcases hown.2 with ⟨_,h0⟩ | ⟨g,cap',cur',rfl,hb,hg,r1,r2,r3,r4⟩
 ·omega
 refine ⟨g,0,cap',cur',by simp,by omega,hg,by simpa using r1,r2,by omega,fun j y hj=> ?_⟩
 have hjl:=(List.getElem?_eq_some_iff.1 hj).1
 have:cur'.toList[j]? =some (.int .u8 y):=by
  have h8:(q.map (Value.int .u8)++[.int .u8 x])[j]? =some (.int .u8 y):=by
   have:q.map (Value.int .u8)++[.int .u8 x]=(q++[x]).map (Value.int .u8):=by simp
   rw [this,List.getElem?_map,hj];rfl
  rw [<-r4,List.getElem?_take_of_lt (by simp at hjl;omega)] at h8
  exact h8
 simpa using this
theorem Zbc.pop {w:World} {base:Nat} {v:Value} {a:Int} {q:List Int} (h:Zbc w base v (a::q)):
 ∃b off cap,v= .slice (some ⟨b,off,none⟩) (q.length+1) cap/\q.length+1<=cap/\cap<=maxLen/\w.cell? ⟨b,off,none⟩=some (.int .u8 a)/\
  (cap≠1->Zbc w base (.slice (some ⟨b,off+1,none⟩) q.length (cap-1)) q)/\(cap=1->q=[]/\Zbc w base (.slice (some ⟨b,off,none⟩) 0 0) []):=by
 obtain ⟨b,off,cap,cur,rfl,h2,h3,h4,h5,h6,h7⟩:=h
 simp only [List.length_cons] at h4
 refine ⟨b,off,cap,by simp,h4,h5,Za h3 (by have:=h7 0 a rfl;simpa using this),fun hc=> ?_,fun hc=> ?_⟩
 ·exact ⟨b,off+1,cap-1,cur,rfl,h2,h3,by omega,by omega,by omega,fun j x hj=>by
   have:=h7 (j+1) x (by simpa using hj)
   rw [show off+1+j=off+(j+1) by omega];exact this⟩
 have hq:q=[]:=List.eq_nil_of_length_eq_zero (by omega)
 exact ⟨hq,b,off,0,cur,rfl,h2,h3,by simp,by unfold maxLen;omega,by omega,fun j x hj=>by simp at hj⟩
def U4 (c:List Int) (a:Int):List Nat->List Int×List Int->List Int×List Int
 | [],s=>s
 | p::ps,s=>if s.1.getD p 17=17/\0<Yi c p a then U4 c a ps (s.1.set p (s.1.getD a.toNat 0+1),s.2++[(p:Int)]) else U4 c a ps s
def bfs (c:List Int):Nat->List Int->List Int->List Int
 | 0,d,_=>d
 | _+1,d,[]=>d
 | f+1,d,a::q=>bfs c f (U4 c a (List.range' 1 16) (d,q)).1 (U4 c a (List.range' 1 16) (d,q)).2
def Vr (c:List Int) (t:Int):List Int:=bfs c 40 ((List.replicate 17 17).set t.toNat 0) [t]
theorem Zir (c:List Int) (a:Int):∀(ps:List Nat) (s:List Int×List Int),(U4 c a ps s).1.length=s.1.length
 | [],_=>rfl
 | p::ps,s=>by
   unfold U4
   split
   ·rw [Zir];simp
   exact Zir c a ps s
end Go.Proofs.YtipjchbdogmccaaGreat
