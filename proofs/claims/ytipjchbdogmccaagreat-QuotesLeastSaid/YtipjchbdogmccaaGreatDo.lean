/- The walk of Do. The walk of Do, at a house. The chapter's example, evaluated by the plain functions. The zero ledger: it is not there. -/
import Derived.Test.YtipjchbdogmccaaGreatMay
import Derived.Test.YtipjchbdogmccaaGreatBk
set_option maxHeartbeats 3200000
set_option maxRecDepth 100000
namespace Go.Proofs.YtipjchbdogmccaaGreat
open Go.RowKit Go.Rg Go.BigFrame
def Yl (L:Led) (B:Bk) (seq taker to want most:Int):Int:=match Yk B.offs seq with
 | none=>0
 | some o=>if okT (some o) (Yr L) taker to want most then max (Zdu want o.left (Zjq L o to) (Za9 L o taker most) 4) 0 else 0
theorem Zbj {o:Off} (h:Xr o=true):o.num<=1099511627776/\o.den<=1099511627776/\Xl o.num o.den=true:=by
 unfold Xr at h
 rw [decide_eq_true_eq] at h
 have hm:=h.2.2.2.2.2.2.2.2.2
 have hm2:=hm
 unfold Xl at hm
 rw [decide_eq_true_eq] at hm
 exact ⟨hm.2.2.2.1,hm.2.2.2.2,hm2⟩
theorem Ze6 (p m pb:Nat) (g:Option Nat) (L:Led) (B:Bk) (seq taker to want most:Int) (w:World) (h:IsLed w p m L) (hwf:WF L) (hB:IsBook w pb g B) (hok:OkB B):
 Calls Tryz.prog 178 #[.agg #[.pointer (some ⟨p,0,none⟩),.pointer (some ⟨pb,0,none⟩)],.int .u64 seq,.int .u8 taker,.int .u8 to,.int .i64 want,.int .i64 most] w
  (Ret (.int .i64 (Yl L B seq taker to want most)) w):=by
 have hfind:∀w',Ext w w'->Calls Tryz.prog 154 #[.pointer (some ⟨pb,0,none⟩),.int .u64 seq] w' (Ret (Zfb (Yk B.offs seq)) w'):=fun w' k=>Zju pb g B seq w' (hB.ext k)
 have hhas:∀x w',Ext w w'->Calls Tryz.prog 175 #[.pointer (some ⟨p,0,none⟩),.int .u8 x] w' (Ret (.bool (Yr L x)) w'):=fun x w' k=>Za7 p m L x w' (h.ext k)
 have htr:=fun w' (k:Ext w w')=>trade_gen (some ⟨p,0,none⟩) (some ⟨pb,0,none⟩) (Yk B.offs seq) (Yr L) seq taker to want most w' (fun w2 k2=>hfind w2 (Xt k k2)) (fun _ x w2 k2=>hhas x w2 (Xt k k2))
 unfold Yl
 cases hf:Yk B.offs seq with
 | none=>
   rw [hf] at htr
   have:=may_gen (some ⟨p,0,none⟩) (some ⟨pb,0,none⟩) Zw false 0 0 0 0 seq taker to want most w htr (by simp) (by simp) (by simp) (by simp)
   simpa using this
 | some o=>
   rw [hf] at htr
   have hoo:=hok o (Vc hf).1
   obtain ⟨r1,r2,_⟩:=Zbj hoo
   exact may_gen (some ⟨p,0,none⟩) (some ⟨pb,0,none⟩) o _ want o.left (Zjq L o to) (Za9 L o taker most) seq taker to want most w htr
    (fun _ w' k=>Zp5 _ _ o taker to want most w') (fun _ w' k=>left_any _ _ o taker to want most w')
    (fun _ w' k=>goes_any p m L _ o taker to want most w' (h.ext k) hwf ⟨_,rfl⟩) (fun _ w' k=>tfits_any p m L _ o taker to want most w' (h.ext k) hwf ⟨_,rfl⟩ (by omega) (by omega))
def Xj (seq taker to got given:Int):Array Value:=#[.int .u64 seq,.int .u8 taker,.int .u8 to,.int .i64 got,.int .i64 given]
def Zjv (f:Int×Int×Int×Int×Int) (e:Int):Value:= .tuple #[.agg (Xj f.1 f.2.1 f.2.2.1 f.2.2.2.1 f.2.2.2.2),.int .i64 e]
theorem do_void_l (l b:Option Addr) (seq taker to n:Int) (w:World) (hc:∀w',Ext w w'->Calls Tryz.prog 89 #[.pointer l] w' (Ret (.pointer none) w')):
 Calls Tryz.prog 179 #[.agg #[.pointer l,.pointer b],.int .u64 seq,.int .u8 taker,.int .u8 to,.int .i64 n] w (Ret (Zjv (0,0,0,0,0) 2) w):=by
 have e0:=Zc w (.cells #[.pointer l,.pointer b] 103)
 have s0:=size_alloc w (.cells #[.pointer l,.pointer b] 103)
 have h0:=Zb w (.cells #[.pointer l,.pointer b] 103)
 have e1:=Zc (w.alloc (.cells #[.pointer l,.pointer b] 103)) (.cells (Xj 0 0 0 0 0) 250)
 have h1:=Zb (w.alloc (.cells #[.pointer l,.pointer b] 103)) (.cells (Xj 0 0 0 0 0) 250)
 have s1:=size_alloc (w.alloc (.cells #[.pointer l,.pointer b] 103)) (.cells (Xj 0 0 0 0 0) 250)
 rw [s0] at h1 s1
 have h0:=e1.at h0
 have E1:=Xt e0 e1
 unfold Xj at h1 h0 E1 s1
 have c0:=Za (j:=0) h0 rfl
 have c1:=Za (j:=1) h0 rfl
 clear e0 s0 e1
 go_enter Tryz.func179,Tryz.ntmps179
 go_wp2_with fail
 refine (hc _ E1).mono ?_
 rintro e w2 ⟨rfl,e2⟩
 have h12:=e2.at h1
 go_wp2_with (refine Ze rfl rfl 250 _ _ rfl (w.heap.size+1) _ rfl rfl 250 _ h12 (by kernel_rfl) (by rfl) (by rfl) ?_;intro w3 hb3 ho3 hs3)
 exact Zt (w.heap.size+1) 250 _ _ _ rfl rfl hs3 Tryz.underlying250 rfl (by kernel_rfl) rfl ⟨rfl,hb3 _ _ (by omega) (Xt E1 e2)⟩
def doR (L:Led) (B:Bk) (seq taker to n:Int):(Int×Int×Int×Int×Int)×Int×Led×Bk:=
 if n<1\/Yl L B seq taker to n 1099511627776<n then ((0,0,0,0,0),1,L,B)
 else ((seq,taker,to,n,(J4 n ((Yk B.offs seq).getD Zw).num ((Yk B.offs seq).getD Zw).den).1),0,
  (U5 (if to=((Yk B.offs seq).getD Zw).owner then L else (U5 L ((Yk B.offs seq).getD Zw).owner to ((Yk B.offs seq).getD Zw).sell n).2) taker ((Yk B.offs seq).getD Zw).owner ((Yk B.offs seq).getD Zw).buy
    (J4 n ((Yk B.offs seq).getD Zw).num ((Yk B.offs seq).getD Zw).den).1).2,(Ja B seq n).2)
theorem rupR_bd (a num den:Int):(J4 a num den).1<=9223372036854775807:=by
 unfold J4
 split
 ·unfold upR
  have:=Znl a num den
  split
  ·unfold Znp
   split
   ·simp
   simp only;omega
  unfold J9;simp only;omega
 simp
theorem U3 {w:World} {p m pb:Nat} {g:Option Nat} {L:Led} {B:Bk} (h:IsLed w p m L) (hB:IsBook w pb g B):p∉pb::g.toList/\m∉pb::g.toList:=by
 obtain ⟨v,hv,hg,ho⟩:=hB.row
 obtain ⟨_,_,es,ck,hm,_⟩:=h.map
 have hp:=h.row
 have key:∀x,g=some x->∃cur,w.heap[x]? =some (.cells cur 153 (0,0)):=by
  intro x hx
  rcases ho.2 with ⟨rfl,_⟩ | ⟨b,cap,cur,rfl,_,hh,_⟩
  ·rw [<-hg] at hx;simp [Value.ownBlock] at hx
  rw [<-hg] at hx
  simp only [Value.ownBlock,Option.some.injEq] at hx
  subst hx
  exact ⟨cur,hh⟩
 constructor
 ·intro hx
  rcases List.mem_cons.1 hx with rfl | hx
  ·rw [hv] at hp;simp at hp
  obtain ⟨cur,hc⟩:=key p (by simpa using hx)
  rw [hc] at hp;simp at hp
 intro hx
 rcases List.mem_cons.1 hx with rfl | hx
 ·rw [hv] at hm;simp at hm
 obtain ⟨cur,hc⟩:=key m (by simpa using hx)
 rw [hc] at hm;simp at hm
def RetDo (r:(Int×Int×Int×Int×Int)×Int×Led×Bk) (p m pb:Nat) (g:Option Nat) (w:World) (e:Ending) (w':World):Prop:=
 e= .returned (Zjv r.1 r.2.1)/\Keep (m::pb::g.toList) w w'/\IsLed w' p m r.2.2.1/\∃g',IsBook w' pb g' r.2.2.2/\(g'=g\/∀x,g'=some x->w.heap.size<=x)
theorem do_any (p m pb:Nat) (g:Option Nat) (L:Led) (B:Bk) (seq taker to n:Int) (w:World) (h:IsLed w p m L) (hwf:WF L) (hB:IsBook w pb g B) (hok:OkB B) (hn:n<=9223372036854775807):
 Calls Tryz.prog 179 #[.agg #[.pointer (some ⟨p,0,none⟩),.pointer (some ⟨pb,0,none⟩)],.int .u64 seq,.int .u8 taker,.int .u8 to,.int .i64 n] w (RetDo (doR L B seq taker to n) p m pb g w):=by
 have hcl:=fun w h=>Zfe p m L w h
 have hcb:=fun w h=>bcopy_any pb g B w h
 have hmy:=fun w hL hB=>Ze6 p m pb g L B seq taker to n 1099511627776 w hL hwf hB hok
 obtain ⟨r,hr⟩:∃r,r=doR L B seq taker to n:=⟨_,rfl⟩
 rw [<-hr]
 unfold doR at hr
 generalize Yl L B seq taker to n 1099511627776=my at *
 obtain ⟨l,hl⟩:∃l:Option Addr,l=some ⟨p,0,none⟩:=⟨_,rfl⟩
 obtain ⟨b,hb⟩:∃b:Option Addr,b=some ⟨pb,0,none⟩:=⟨_,rfl⟩
 rw [<-hl,<-hb]
 have HR:=Lib.hid hr
 clear hr
 have e0:=Zc w (.cells #[.pointer l,.pointer b] 103)
 have s0:=size_alloc w (.cells #[.pointer l,.pointer b] 103)
 have h0:=Zb w (.cells #[.pointer l,.pointer b] 103)
 have e1:=Zc (w.alloc (.cells #[.pointer l,.pointer b] 103)) (.cells (Xj 0 0 0 0 0) 250)
 have h1:=Zb (w.alloc (.cells #[.pointer l,.pointer b] 103)) (.cells (Xj 0 0 0 0 0) 250)
 have s1:=size_alloc (w.alloc (.cells #[.pointer l,.pointer b] 103)) (.cells (Xj 0 0 0 0 0) 250)
 rw [s0] at h1 s1
 have h0:=e1.at h0
 have E1:=Xt e0 e1
 unfold Xj at h1 h0 E1 s1
 have c0:=Za (j:=0) h0 rfl
 have c1:=Za (j:=1) h0 rfl
 clear e0 s0 e1
 subst hl hb
 go_enter Tryz.func179,Tryz.ntmps179
 go_wp2_with fail
 refine (hcl _ (h.ext E1)).mono ?_
 rintro e w2 ⟨p2,m2,rfl,e2,_,_,_⟩
 have h02:=e2.at h0
 have h12:=e2.at h1
 have E2:=Xt E1 e2
 have c12:=Za (j:=1) h02 rfl
 go_wp2_with fail
 refine (hcb _ (hB.ext E2)).mono ?_
 rintro e w3 ⟨p3,rfl,e3,_⟩
 have h03:=e3.at h02
 have h13:=e3.at h12
 have E3:=Xt E2 e3
 have ld29:=run_loadVar_row (P:=Tryz.prog) w3 w.heap.size _ 103 _ _ _ h03 Tryz.underlying103 rfl (by kernel_rfl)
 clear hcl hcb h02 h12 c12 c0 c1 h0 h1
 by_cases hn1:n<1
 ·have hr2:r=((0,0,0,0,0),1,L,B):=by rw [HR.out,if_pos (Or.inl hn1)]
  have hn1':decide (n<1)=true:=by simpa using hn1
  clear HR hn1
  go_wp2_with (refine Ze rfl rfl 250 _ _ rfl (w.heap.size+1) _ rfl rfl 250 _ h13 (by kernel_rfl) (by rfl) (by rfl) ?_;intro w4 hb4 ho4 hs4)
  have E4:=hb4 _ _ (by omega:w.heap.size<=w.heap.size+1) E3
  exact Zt (w.heap.size+1) 250 _ _ _ rfl rfl hs4 Tryz.underlying250 rfl (by kernel_rfl) rfl (by rw [hr2];exact ⟨rfl,Kx E4,h.ext E4,g,hB.ext E4,.inl rfl⟩)
 have hn1':decide (n<1)=false:=by simpa using hn1
 have d0:=Za (j:=0) h03 rfl
 have d1:=Za (j:=1) h03 rfl
 go_wp2_with fail
 refine (hmy _ (h.ext E3) (hB.ext E3)).mono ?_
 rintro e w4 ⟨rfl,e4⟩
 have h04:=e4.at h03
 have h14:=e4.at h13
 have E4:=Xt E3 e4
 by_cases hn2:my<n
 ·have hr2:r=((0,0,0,0,0),1,L,B):=by rw [HR.out,if_pos (Or.inr hn2)]
  have hn2':decide (my<n)=true:=by simpa using hn2
  clear HR hn2 ld29 h03 h13
  go_wp2_with (refine Ze rfl rfl 250 _ _ rfl (w.heap.size+1) _ rfl rfl 250 _ h14 (by kernel_rfl) (by rfl) (by rfl) ?_;intro w5 hb5 ho5 hs5)
  have E5:=hb5 _ _ (by omega:w.heap.size<=w.heap.size+1) E4
  exact Zt (w.heap.size+1) 250 _ _ _ rfl rfl hs5 Tryz.underlying250 rfl (by kernel_rfl) rfl (by rw [hr2];exact ⟨rfl,Kx E5,h.ext E5,g,hB.ext E5,.inl rfl⟩)
 have hn2':decide (my<n)=false:=by simpa using hn2
 have hr2:=HR.out
 rw [if_neg (by omega)] at hr2
 obtain ⟨o,ho⟩:∃o,o=(Yk B.offs seq).getD Zw:=⟨_,rfl⟩
 have hfind:=Zju pb g B seq w4 (hB.ext E4)
 have hfv:Zfb (Yk B.offs seq)= .tuple #[o.agg,.bool (Yk B.offs seq).isSome]:=by rw [ho];cases Yk B.offs seq<;>rfl
 rw [hfv] at hfind
 rw [<-ho] at hr2
 have hrat:o.num<=1099511627776/\o.den<=1099511627776:=by
  rw [ho]
  cases hf:Yk B.offs seq with
  | none=>exact ⟨by decide,by decide⟩
  | some o'=>
    have:=Zbj (hok o' (Vc hf).1)
    exact ⟨this.1,this.2.1⟩
 clear HR hfv
 generalize (Yk B.offs seq).isSome=is at *
 clear ho
 obtain ⟨oseq,own,sell,buy,left,num,den⟩:=o
 unfold Off.agg at hfind
 simp only at hfind hr2 hrat
 have hup:=fun wq=>rup_any n num den wq hn (by omega) (by omega)
 have hgb:=rupR_bd n num den
 generalize J4 n num den=up at *
 obtain ⟨given,uerr⟩:=up
 unfold two at hup
 simp only at hr2 hgb hup
 have c14:=Za (j:=1) h04 rfl
 have HR2:=Lib.hid hr2
 clear ld29 h03 h13 hmy d0 d1 hr2
 go_wp2_with fail
 refine hfind.mono ?_
 rintro e w5 ⟨rfl,e5⟩
 have hz5:=Zb w5 (.cells #[.int .u64 0,.int .u8 0,.int .u8 0,.int .u8 0,.int .i64 0,.int .i64 0,.int .i64 0] 153)
 have ez5:=Zc w5 (.cells #[.int .u64 0,.int .u8 0,.int .u8 0,.int .u8 0,.int .i64 0,.int .i64 0,.int .i64 0] 153)
 go_wp2_with (refine Ze rfl rfl 153 _ _ rfl w5.heap.size _ rfl rfl 153 _ hz5 (by kernel_rfl) (by rfl) (by rfl) ?_;intro w6 hb6 ho6 hs6;have e6:Ext w5 w6:=hb6 _ _ (Nat.le_refl _) ez5;have q5:=Za (j:=5) hs6 rfl;have q6:=Za (j:=6) hs6 rfl)
 refine (hup _).mono ?_
 rintro e w7 ⟨rfl,e7⟩
 have E5:=Xt E4 e5
 have E7:Ext w w7:=Xt E5 (Xt e6 e7)
 have E57:Ext w4 w7:=Xt e5 (Xt e6 e7)
 have h07:=E57.at h04
 have h17:=E57.at h14
 have ho7:=e7.at hs6
 have hL7:=h.ext E7
 have hB7:=hB.ext E7
 have hap:=U3 h hB
 have hlm:=h.ltm
 have hlp:=hB.ltp
 have hlg:=hB.ltg
 have hs5:w.heap.size+2<=w5.heap.size:=by have:=E1.size;have:=(Xt (Xt e2 e3) (Xt e4 e5)).size;omega
 have hpm:pb≠m:=fun e=>hap.2 (by rw [<-e];simp)
 have hgm:∀x,g=some x->x≠m:=fun x hx e=>hap.2 (by rw [<-e,hx];simp)
 clear h04 h14 c14 q5 q6 hz5 ez5
 by_cases hto:to=own
 focus
  have hto':(to !=own)=false:=by simp [hto]
  have hr3:=HR2.out
  rw [if_pos hto] at hr3
  have HR3:=Lib.hid hr3
  have kq:Keep [m] w w7:=Kx E7
  have hwq:=hwf
  have hLq:=hL7
  have hBq:=hB7
  have g0:=Za (j:=0) h07 rfl
  have g1:=Za (j:=1) ho7 rfl
  have g3:=Za (j:=3) ho7 rfl
  clear HR2 hr3 hto
  go_wp2_with fail
  have h0q:=h07
  have h1q:=h17
  have hoq:=ho7
 rotate_left
 focus
  have hto':(to !=own)=true:=by simp [hto]
  have hr3:=HR2.out
  rw [if_neg hto] at hr3
  have HR3:=Lib.hid hr3
  have g0:=Za (j:=0) h07 rfl
  have g1:=Za (j:=1) ho7 rfl
  have g2:=Za (j:=2) ho7 rfl
  clear HR2 hr3 hto
  go_wp2_with fail
  refine (Zmt p m L own to sell n w7 hL7 hwf hn).mono ?_
  rintro e w8 ⟨rfl,k8,hLq⟩
  have hwq:=Zie hwf own to sell n
  have kq:Keep [m] w w8:=(Kx E7).trans k8
  have h0q:=k8.at h07 (by simp;omega)
  have h1q:=k8.at h17 (by simp;omega)
  have hoq:=k8.at ho7 (by simp;omega)
  have hBq:=hB7.keep k8 (by simpa using hpm) (fun x hx=>by simpa using hgm x hx)
  generalize (U5 L own to sell n).2=LQ at *
  clear g0 g1 g2
  have g0:=Za (j:=0) h0q rfl
  have g1:=Za (j:=1) hoq rfl
  have g3:=Za (j:=3) hoq rfl
  go_wp2_with fail
 all_goals
  refine (Zmt p m _ taker own buy given _ hLq hwq hgb).mono ?_
  rintro e w9 ⟨rfl,k9,hL9⟩
  have kq9:=kq.trans k9
  have h09:=k9.at h0q (by simp;omega)
  have h19:=k9.at h1q (by simp;omega)
  have hB9:=hBq.keep k9 (by simpa using hpm) (fun x hx=>by simpa using hgm x hx)
  clear g0 g1 g3
  have c19:=Za (j:=1) h09 rfl
  go_wp2_with fail
  refine (take_any pb g B seq n w9 hB9 hok).mono ?_
  rintro e w10 ⟨rfl,g',k10,hB10,hg10⟩
  have hL10:=hL9.keep k10 hap.1 hap.2
  have hfr:w.heap.size+1∉pb::g.toList:=by
   intro hx
   rcases List.mem_cons.1 hx with hx | hx
   ·omega
   have:=hlg (w.heap.size+1) (by simpa using hx)
   omega
  have h110:=k10.at h19 hfr
  clear c19
  go_wp2_with (refine Ze rfl rfl 250 _ _ rfl (w.heap.size+1) _ rfl rfl 250 _ h110 (by kernel_rfl) (by rfl) (by rfl) ?_;intro w11 hb11 ho11 hs11)
  have kz:=hb11 0 w10 (Nat.zero_le _) (Below.refl 0 w10)
  have k11:Keep [w.heap.size+1] w10 w11:=⟨kz.os,kz.tape,kz.output,kz.size,fun k _ hk=>ho11 k (by simpa using hk)⟩
  have kA:Keep (m::pb::g.toList) w w10:=(kq9.mono (fun x hx=>by have hxm:x=m:=by simpa using hx
                                                                simp [hxm])).trans (k10.mono (fun x hx=>List.mem_cons_of_mem _ hx))
  have kF:Keep (m::pb::g.toList) w w11:=Keep.trans_fresh kA k11 (fun x hx=>by simp at hx;right;omega)
  have hgl:∀x,g'=some x->x≠w.heap.size+1:=by
   intro x hx e
   rcases hg10 with hh | hh
   ·have:=hlg x (hh▸hx)
    omega
   have:=hh x hx
   have:=kq9.size
   have:=Zg h19
   omega
  have hLf:=hL10.keep k11 (by have:=h.ltp;simp;omega) (by simp;omega)
  have hBf:=hB10.keep k11 (by simp;omega) (fun x hx=>by simpa using hgl x hx)
  exact Zt (w.heap.size+1) 250 _ _ _ rfl rfl hs11 Tryz.underlying250 rfl (by kernel_rfl) rfl (by
   rw [HR3.out]
   refine ⟨rfl,kF,hLf,g',hBf,?_⟩
   rcases hg10 with hh | hh
   ·exact .inl hh
   exact .inr fun x hx=>Nat.le_trans kq9.size (hh x hx))
end Go.Proofs.YtipjchbdogmccaaGreat
