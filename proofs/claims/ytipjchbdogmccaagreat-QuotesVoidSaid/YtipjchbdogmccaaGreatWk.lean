/- Steps, walked: what is asked, and turns nothing: position, total, debt, left. Steps, walked: open, trust, pay, cancel, net. Steps, walked: swap. Steps, walked: place. -/
import Derived.Test.YtipjchbdogmccaaGreatRnd
import Derived.Test.YtipjchbdogmccaaGreatNt
import Derived.Test.YtipjchbdogmccaaGreatSwap5
import Derived.Test.YtipjchbdogmccaaGreatLines
import Derived.Test.YtipjchbdogmccaaGreatFair
set_option maxHeartbeats 12800000
set_option maxRecDepth 100000
namespace Go.Proofs.YtipjchbdogmccaaGreat
open Go.RowKit Go.Rg Go.BigFrame
structure FrA (A:Nat->Prop) (w w':World):Prop where
 os:w'.os=w.os
 tape:w'.tape=w.tape
 output:w'.output=w.output
 size:w.heap.size<=w'.heap.size
 block:∀k,k<w.heap.size->¬A k->w'.heap[k]? =w.heap[k]?
theorem Y8 (w:World) (cs:Array Value) (t:TypeId):∃W,w.alloc (.cells cs t)=W/\Ext w W/\W.heap[w.heap.size]? =some (.cells cs t (0,0))/\W.heap.size=w.heap.size+1:=
 ⟨_,rfl,Zc w _,Zb w _,size_alloc w _⟩
theorem FrA.of_ext {A:Nat->Prop} {w w':World} (h:Ext w w'):FrA A w w':=⟨h.os,h.tape,h.output,h.size,fun _ hk _=>h.block hk⟩
theorem Z8 {A:Nat->Prop} {S:List Nat} {a b c:World} (h:FrA A a b) (k:Keep S b c) (hS:∀x∈S,A x\/a.heap.size<=x):FrA A a c:=
 ⟨k.os.trans h.os,k.tape.trans h.tape,k.output.trans h.output,Nat.le_trans h.size k.size,fun i hi hA=>(k.block i (Nat.lt_of_lt_of_le hi h.size) (fun hm=>by
  rcases hS i hm with h1 | h1
  ·exact hA h1
  omega)).trans (h.block i hi hA)⟩
theorem FrA.at {A:Nat->Prop} {w w':World} (h:FrA A w w') {k:Nat} {ob:Obj} (hk:w.heap[k]? =some ob) (hA:¬A k):w'.heap[k]? =some ob:=(h.block k (Zg hk) hA).trans hk
structure IsH (w:World) (base:Nat->Prop) (hw p m pb:Nat) (g:Option Nat) (L:Led) (B:Bk):Prop where
 row:w.heap[hw]? =some (Obj.cells #[.pointer (some ⟨p,0,none⟩),.pointer (some ⟨pb,0,none⟩)] 137 (0,0))
 led:IsLed w p m L
 book:IsBook w pb g B
 ok:MOk L B
 lo:base hw/\base p/\base m/\base pb/\∀x,g=some x->base x
theorem IsH.ext {w w':World} {base:Nat->Prop} {hw p m pb:Nat} {g:Option Nat} {L:Led} {B:Bk} (h:IsH w base hw p m pb g L B) (k:Ext w w'):IsH w' base hw p m pb g L B:=
 ⟨k.at h.row,h.led.ext k,h.book.ext k,h.ok,h.lo⟩
def Zhw (base:Nat->Prop) (hw:Nat) (r:Gt×Int×Led×Bk) (w:World) (e:Ending) (w':World):Prop:=
 ∃x y,e= .returned (.tuple #[.agg #[.int .i64 x,.int .i64 y],.int .i64 r.2.1])/\FrA base w w'/\(r.2.1=0->(x,y)=r.1/\∃p m pb g,IsH w' base hw p m pb g r.2.2.1 r.2.2.2)
theorem Zk2 (S:Zr) (c:Int) (k:Nat) (hk:k<S.length):Zik (S.take (k+1)) c=Zik (S.take k) c+(if (S[k]'hk).1.2.2=c then (S[k]'hk).2.2 else 0):=by
 unfold Zik
 rw [List.take_succ_eq_append_getElem hk,List.map_append,List.map_cons,List.map_nil]
 generalize (S.take k).map (fun y=>if y.1.2.2=c then y.2.2 else 0)=a
 generalize (if (S[k]'hk).1.2.2=c then (S[k]'hk).2.2 else 0)=b
 induction a with
 | nil=>simp [X2]
 | cons x a ih=>
   simp only [List.cons_append,X2]
   rw [ih]
   omega
theorem totL_bd {S:Zr} (hb:∀y∈S,0<=y.2.2/\y.2.2<=1099511627776) (c:Int):∀k,k<=S.length->0<=Zik (S.take k) c/\Zik (S.take k) c<=1099511627776*(k:Int)
 | 0,_=>by simp [Zik,X2]
 | k+1,hk=>by
   have h1:=totL_bd hb c k (by omega)
   rw [Zk2 S c k (by omega)]
   have h2:=hb _ (List.getElem_mem (show k<S.length by omega))
   split<;>omega
theorem total_any (p m:Nat) (L:Led) (c:Int) (w:World) (h:IsLed w p m L) (hwf:WF L):Calls Tryz.prog 153 #[.pointer (some ⟨p,0,none⟩),.int .u8 c] w (Ret (.int .i64 (Zij L c)) w):=by
 have hbd:∀y∈Z2 L.lines,0<=y.2.2/\y.2.2<=1099511627776:=fun y hy=>by
  have:=hwf.nums y (Zam.1 hy)
  omega
 have hle:(Z2 L.lines).length<=64:=by rw [Ue];exact hwf.few
 have hln:=Zdl p m L w h hwf
 unfold Zij
 generalize Z2 L.lines=S at *
 have HBD:=Lib.hid hbd
 clear hbd h
 go_enter Tryz.func153,Tryz.ntmps153
 go_wp2_with fail
 refine hln.mono ?_
 rintro e w1 ⟨v,rfl,e1,hown⟩
 obtain ⟨A,cap,rfl,q1,q2,q3,q4⟩:=Zn.of_own hown
 have hn63:(S.length:Int)<=9223372036854775807:=by omega
 clear hln hown q3
 go_wp2_with fail
 go_loopw [4,6,10,11,12,13,14,15,16,17,18,19,20,21,22] (fun nv _ i _ _ _ _ _ _ _ _ _ _ _ _ wr=>∃k:Nat,k<=S.length/\i= .int .i64 k/\nv= .int .i64 (Zik (S.take k) c)/\Ext w1 wr) (fun _ _ i _ _ _ _ _ _ _ _ _ _ _ _ _=>S.length-(intOf i).toNat)
 case atStart=>exact ⟨0,Nat.zero_le _,rfl,rfl,Ext.refl _⟩
 obtain ⟨k,hk,rfl,rfl,er⟩:=hrel
 by_cases hkn:k<S.length
 ·rcases q4 with q4 | ⟨g,rfl,hb,hlt,hcell⟩
  ·omega
  have hld:=Ze2 wr g k S hkn (fun j u hu=>by rw [Zf (er.block hlt)];exact hcell j u hu)
  have hpb:=totL_bd HBD.out c k hk
  have hnx:=Zk2 S c k hkn
  have hyb:=HBD.out _ (List.getElem_mem hkn)
  generalize Zik (S.take k) c=a at *
  have ha1:0<=a:=by omega
  have ha2:a<=70368744177664:=by omega
  generalize (S[k]'hkn)=y at *
  obtain ⟨⟨y0,y1,y2⟩,y3,y4⟩:=y
  simp only [Ju] at hld
  simp only at hyb hnx
  have HA:=Lib.hid hnx
  obtain ⟨hy1,hy2⟩:=hyb
  have hz:=Zb wr (.cells #[.int .u8 0,.int .u8 0,.int .u8 0,.int .i64 0,.int .i64 0] 151)
  have ez:=Zc wr (.cells #[.int .u8 0,.int .u8 0,.int .u8 0,.int .i64 0,.int .i64 0] 151)
  clear hpb hcell hnx
  by_cases qc:y2=c
  focus
   have qc1:(y2==c)=true:=by simpa using qc
   have HB:=Lib.hid (HA.out.trans (by rw [if_pos qc]):Zik (S.take (k+1)) c=a+y4)
   clear qc
   go_wp2_with (first
    | (refine Zd rfl 151 _ _ _ rfl rfl hld ?_)
    | (refine Ze rfl rfl 151 _ _ rfl wr.heap.size _ rfl rfl 151 _ hz (by kernel_rfl) (by rfl) (by rfl) ?_
       intro w5 hb5 ho5 hs5
       have e5:Ext wr w5:=hb5 _ _ (Nat.le_refl _) ez
       have z2:=Za (j:=2) hs5 rfl
       have z4:=Za (j:=4) hs5 rfl))
  rotate_left
  focus
   have qc1:(y2==c)=false:=by simpa using qc
   have HB:=Lib.hid (HA.out.trans (by rw [if_neg qc,Int.add_zero]):Zik (S.take (k+1)) c=a)
   clear qc
   go_wp2_with (first
    | (refine Zd rfl 151 _ _ _ rfl rfl hld ?_)
    | (refine Ze rfl rfl 151 _ _ rfl wr.heap.size _ rfl rfl 151 _ hz (by kernel_rfl) (by rfl) (by rfl) ?_
       intro w5 hb5 ho5 hs5
       have e5:Ext wr w5:=hb5 _ _ (Nat.le_refl _) ez
       have z2:=Za (j:=2) hs5 rfl))
  all_goals exact ⟨⟨k+1,by omega,by go_num,by rw [HB.out],Xt er e5⟩,by simp [intOf];omega⟩
 have hk':k=S.length:=by omega
 subst hk'
 rw [List.take_length]
 have hk3:decide ((S.length:Int)<(S.length:Int))=false:=by simp
 go_wp2
 go_ret
 exact ⟨rfl,Xt e1 er⟩
theorem Zkb (base:Nat->Prop) (hw p m pb:Nat) (g:Option Nat) (L:Led) (B:Bk) (s:Stp) (w:World) (h:IsH w base hw p m pb g L B) (_hb:∀x,w.heap.size<=x->base x):Calls Tryz.prog 99 #[.pointer (some ⟨hw,0,none⟩),s.agg] w (Zhw base hw ((Zf0 L s.pa s.ca,0),0,L,B) w):=by
 obtain ⟨kd,pa,pbb,ca,cb,am,mx,nu,de,sq⟩:=s
 simp only [Stp.agg]
 have hps:=fun W (kk:Ext w W)=>pos_any p m L pa ca W (h.led.ext kk) h.ok.wf
 obtain ⟨W,hW,e0,h0,s0⟩:=Y8 w #[.int .u8 kd,.int .u8 pa,.int .u8 pbb,.int .u8 ca,.int .u8 cb,.int .i64 am,.int .i64 mx,.int .i64 nu,.int .i64 de,.int .u64 sq] 30
 have HW:=Lib.hid hW
 clear hW
 go_enter Tryz.func99,Tryz.ntmps99
 go_wp2_with (first
  | (refine Zu rfl 55 rfl (.cells #[.int .i64 0,.int .i64 0] 55) _ rfl (by go_simp) ?_
     rw [HW.out]
     intro w2 e2 h2
     rw [s0] at h2))
 have h02:=e2.at h0
 have e02:=Xt e0 e2
 have hH:=h.ext e02
 have s2:=Zg h2
 clear e0 h0 e2 HW s0
 have hF:∀W,Keep [w.heap.size+1] w2 W->W.cell? ⟨w.heap.size,1,none⟩=some (.int .u8 pa)/\W.cell? ⟨w.heap.size,3,none⟩=some (.int .u8 ca)/\W.cell? ⟨hw,0,none⟩=some (.pointer (some ⟨p,0,none⟩))/\Ext w W:=fun W kk=>by
  have q0:=kk.at h02 (by simp)
  have q1:=kk.at hH.row (by have:=Zg h.row;simp;omega)
  exact ⟨Za (j:=1) q0 rfl,Za (j:=3) q0 rfl,Za (j:=0) q1 rfl,(Keep.trans_fresh (S:=[]) (Kx e02) kk (fun x hx=>by right;simp at hx;omega)).ext⟩
 generalize Zf0 L pa ca=res at *
 refine RgK.Vt [w.heap.size+1] Zl 12 [11] (by kernel_rfl) (by kernel_rfl) ?_ ?_
 ·intro w1 hw1
  have d1:=fun u:ExtOf w1=>(hF _ (hw1.trans (Kx u.h))).1
  have d3:=fun u:ExtOf w1=>(hF _ (hw1.trans (Kx u.h))).2.1
  have dh:=fun u:ExtOf w1=>(hF _ (hw1.trans (Kx u.h))).2.2.1
  have hx:∀u:ExtOf w1,Ext w u.to:=fun u=>(hF _ (hw1.trans (Kx u.h))).2.2.2
  simp only [Zk,Rg.hsB,Nat.reduceBEq,Nat.reduceAdd,↓reduceIte]
  repeat (go_big_quiet_step ((go_at_call 152;exact Ret.cls (hps _ (hx _)))))
  refine wpQuiet_nil ?_
  trivial
 intro w1 hw1
 have d1:=fun u:KeepOf [w.heap.size+1] w1=>(hF _ (hw1.trans u.h)).1
 have d3:=fun u:KeepOf [w.heap.size+1] w1=>(hF _ (hw1.trans u.h)).2.1
 have dh:=fun u:KeepOf [w.heap.size+1] w1=>(hF _ (hw1.trans u.h)).2.2.1
 have hx:∀u:KeepOf [w.heap.size+1] w1,Ext w u.to:=fun u=>(hF _ (hw1.trans u.h)).2.2.2
 simp only [Zk,Rg.hsB,Nat.reduceBEq,Nat.reduceAdd,↓reduceIte]
 repeat (go_big_quiet_step ((go_at_call 152;exact Ret.clsK (hps _ (hx _)))))
 refine wpQuiet_nil ?_
 intro hx1
 clear d1 d3 dh hx
 refine RgK.Z3 11 _ 55 _ _ rfl rfl rfl (by kernel_rfl) (by decide) rfl (w.heap.size+1) #[.int .i64 res,.int .i64 0] (by kernel_rfl) (by kernel_rfl) 55 _ (by kernel_rfl) (by rfl) (by rfl) (hx1.at h2) (Or.inl (by simp)) ?_
 intro wd h0d kd' hsd
 refine RgK.Zj (by kernel_rfl) ?_
 intro wy ey ey'
 simp only [Rg.puB]
 have hry:=ey'.at hsd
 have EY:=(hF _ ey).2.2.2
 clear hw1 hx1 h0d kd' hsd ey ey' hF
 go_wp2
 exact Zt (w.heap.size+1) 55 _ _ _ rfl rfl hry Tryz.underlying55 rfl (by kernel_rfl) rfl ⟨_,_,rfl,FrA.of_ext EY,fun _=>⟨rfl,p,m,pb,g,h.ext EY⟩⟩
theorem Zp2 (base:Nat->Prop) (hw p m pb:Nat) (g:Option Nat) (L:Led) (B:Bk) (s:Stp) (w:World) (h:IsH w base hw p m pb g L B) (_hb:∀x,w.heap.size<=x->base x):Calls Tryz.prog 100 #[.pointer (some ⟨hw,0,none⟩),s.agg] w (Zhw base hw ((Zij L s.ca,0),0,L,B) w):=by
 obtain ⟨kd,pa,pbb,ca,cb,am,mx,nu,de,sq⟩:=s
 simp only [Stp.agg]
 have hps:=fun W (kk:Ext w W)=>total_any p m L ca W (h.led.ext kk) h.ok.wf
 obtain ⟨W,hW,e0,h0,s0⟩:=Y8 w #[.int .u8 kd,.int .u8 pa,.int .u8 pbb,.int .u8 ca,.int .u8 cb,.int .i64 am,.int .i64 mx,.int .i64 nu,.int .i64 de,.int .u64 sq] 30
 have HW:=Lib.hid hW
 clear hW
 go_enter Tryz.func100,Tryz.ntmps100
 go_wp2_with (first
  | (refine Zu rfl 55 rfl (.cells #[.int .i64 0,.int .i64 0] 55) _ rfl (by go_simp) ?_
     rw [HW.out]
     intro w2 e2 h2
     rw [s0] at h2))
 have h02:=e2.at h0
 have e02:=Xt e0 e2
 have hH:=h.ext e02
 have s2:=Zg h2
 clear e0 h0 e2 HW s0
 have hF:∀W,Keep [w.heap.size+1] w2 W->W.cell? ⟨w.heap.size,1,none⟩=some (.int .u8 pa)/\W.cell? ⟨w.heap.size,3,none⟩=some (.int .u8 ca)/\W.cell? ⟨hw,0,none⟩=some (.pointer (some ⟨p,0,none⟩))/\Ext w W:=fun W kk=>by
  have q0:=kk.at h02 (by simp)
  have q1:=kk.at hH.row (by have:=Zg h.row;simp;omega)
  exact ⟨Za (j:=1) q0 rfl,Za (j:=3) q0 rfl,Za (j:=0) q1 rfl,(Keep.trans_fresh (S:=[]) (Kx e02) kk (fun x hx=>by right;simp at hx;omega)).ext⟩
 generalize Zij L ca=res at *
 refine RgK.Vt [w.heap.size+1] Zl 10 [9] (by kernel_rfl) (by kernel_rfl) ?_ ?_
 ·intro w1 hw1
  have d1:=fun u:ExtOf w1=>(hF _ (hw1.trans (Kx u.h))).1
  have d3:=fun u:ExtOf w1=>(hF _ (hw1.trans (Kx u.h))).2.1
  have dh:=fun u:ExtOf w1=>(hF _ (hw1.trans (Kx u.h))).2.2.1
  have hx:∀u:ExtOf w1,Ext w u.to:=fun u=>(hF _ (hw1.trans (Kx u.h))).2.2.2
  simp only [Zk,Rg.hsB,Nat.reduceBEq,Nat.reduceAdd,↓reduceIte]
  repeat (go_big_quiet_step ((go_at_call 153;exact Ret.cls (hps _ (hx _)))))
  refine wpQuiet_nil ?_
  trivial
 intro w1 hw1
 have d1:=fun u:KeepOf [w.heap.size+1] w1=>(hF _ (hw1.trans u.h)).1
 have d3:=fun u:KeepOf [w.heap.size+1] w1=>(hF _ (hw1.trans u.h)).2.1
 have dh:=fun u:KeepOf [w.heap.size+1] w1=>(hF _ (hw1.trans u.h)).2.2.1
 have hx:∀u:KeepOf [w.heap.size+1] w1,Ext w u.to:=fun u=>(hF _ (hw1.trans u.h)).2.2.2
 simp only [Zk,Rg.hsB,Nat.reduceBEq,Nat.reduceAdd,↓reduceIte]
 repeat (go_big_quiet_step ((go_at_call 153;exact Ret.clsK (hps _ (hx _)))))
 refine wpQuiet_nil ?_
 intro hx1
 clear d1 d3 dh hx
 refine RgK.Z3 9 _ 55 _ _ rfl rfl rfl (by kernel_rfl) (by decide) rfl (w.heap.size+1) #[.int .i64 res,.int .i64 0] (by kernel_rfl) (by kernel_rfl) 55 _ (by kernel_rfl) (by rfl) (by rfl) (hx1.at h2) (Or.inl (by simp)) ?_
 intro wd h0d kd' hsd
 refine RgK.Zj (by kernel_rfl) ?_
 intro wy ey ey'
 simp only [Rg.puB]
 have hry:=ey'.at hsd
 have EY:=(hF _ ey).2.2.2
 clear hw1 hx1 h0d kd' hsd ey ey' hF
 go_wp2
 exact Zt (w.heap.size+1) 55 _ _ _ rfl rfl hry Tryz.underlying55 rfl (by kernel_rfl) rfl ⟨_,_,rfl,FrA.of_ext EY,fun _=>⟨rfl,p,m,pb,g,h.ext EY⟩⟩
theorem wdebt_any (base:Nat->Prop) (hw p m pb:Nat) (g:Option Nat) (L:Led) (B:Bk) (s:Stp) (w:World) (h:IsH w base hw p m pb g L B) (_hb:∀x,w.heap.size<=x->base x):Calls Tryz.prog 98 #[.pointer (some ⟨hw,0,none⟩),s.agg] w (Zhw base hw (Zq6 L s.pa s.pb s.ca,0,L,B) w):=by
 obtain ⟨kd,pa,pbb,ca,cb,am,mx,nu,de,sq⟩:=s
 simp only [Stp.agg]
 have hln:=fun W (kk:Ext w W)=>Zou p m L pa pbb ca W (h.led.ext kk)
 unfold lineR at hln
 have hxy:Zq6 L pa pbb ca=match lkO L.lines (pa,pbb,ca) with | some v=>(v.2,v.1) | none=>(0,0):=rfl
 obtain ⟨W,hW,e0,h0,s0⟩:=Y8 w #[.int .u8 kd,.int .u8 pa,.int .u8 pbb,.int .u8 ca,.int .u8 cb,.int .i64 am,.int .i64 mx,.int .i64 nu,.int .i64 de,.int .u64 sq] 30
 have HW:=Lib.hid hW
 clear hW
 go_enter Tryz.func98,Tryz.ntmps98
 go_wp2_with (first
  | (refine Zu rfl 55 rfl (.cells #[.int .i64 0,.int .i64 0] 55) _ rfl (by go_simp) ?_
     rw [HW.out]
     intro w2 e2 h2
     rw [s0] at h2))
 have h02:=e2.at h0
 have e02:=Xt e0 e2
 have hH:=h.ext e02
 have s2:=Zg h2
 clear e0 h0 e2 HW s0
 cases hk:lkO L.lines (pa,pbb,ca) with
 | some v=>
   rw [hk] at hln hxy
   simp only at hln hxy
   have HXY:=Lib.hid hxy.symm
   clear hxy hk
   obtain ⟨v1,v2⟩:=v
   simp only at hln HXY
   refine Zh Zl 17 [15,16] (by kernel_rfl) (by kernel_rfl) ?_
   intro w1 hw1
   have d1:=fun u:ExtOf w1=>Za (j:=1) ((Xt hw1 u.h).at h02) rfl
   have d2:=fun u:ExtOf w1=>Za (j:=2) ((Xt hw1 u.h).at h02) rfl
   have d3:=fun u:ExtOf w1=>Za (j:=3) ((Xt hw1 u.h).at h02) rfl
   have dh:=fun u:ExtOf w1=>Za (j:=0) ((Xt hw1 u.h).at hH.row) rfl
   have hx:∀u:ExtOf w1,Ext w u.to:=fun u=>Xt e02 (Xt hw1 u.h)
   simp only [Zk,Rg.hsB,Nat.reduceBEq,Nat.reduceAdd,↓reduceIte]
   repeat (go_big_quiet_step ((go_at_call 151;exact Ret.cls (hln _ (hx _)))))
   refine wpQuiet_nil ?_
   clear d1 d2 d3 dh hx
   refine Xb 15 _ (.cells #[.int .u8 0,.int .u8 0,.int .u8 0,.int .i64 0,.int .i64 0] 151) (fun p=>.pointer (some ⟨p,0,none⟩)) (by intro w;go_simp) rfl (by kernel_rfl) (by decide) rfl ?_
   intro lb wa h0a ha hlb0 hlb1 hlbb
   refine Z3 16 _ 151 _ _ rfl rfl rfl (by kernel_rfl) (by decide) rfl lb #[.int .u8 pa,.int .u8 pbb,.int .u8 ca,.int .i64 v1,.int .i64 v2] (by kernel_rfl) (by kernel_rfl) 151 _ (by kernel_rfl) (by rfl) (by rfl) hlbb hlb0 ?_
   intro wd h0d kd' hsd
   refine Zj (by kernel_rfl) ?_
   intro wy ey ey'
   simp only [Act.put,Rg.puB]
   have hl2:=ey'.at hsd
   have hr4:=ey.at h2
   have EY:=Xt e02 ey
   have z4:=Za (j:=4) hl2 rfl
   have z3:=Za (j:=3) hl2 rfl
   clear hw1 h0d hsd ey' hlbb kd' h0a ha
   go_wp2_with (refine Ze rfl rfl 55 _ _ rfl (w.heap.size+1) _ rfl rfl 55 _ hr4 (by kernel_rfl) (by rfl) (by rfl) ?_
                intro wz hbz hoz hsz)
   have EZ:Ext w wz:=hbz _ _ (by omega) EY
   exact Zt (w.heap.size+1) 55 _ _ _ rfl rfl hsz Tryz.underlying55 rfl (by kernel_rfl) rfl ⟨_,_,rfl,FrA.of_ext EZ,fun _=>⟨HXY.out,p,m,pb,g,h.ext EZ⟩⟩
 | none=>
   rw [hk] at hln hxy
   simp only at hln hxy
   have HXY:=Lib.hid hxy.symm
   clear hxy hk
   refine Zh Zl 17 [15,16] (by kernel_rfl) (by kernel_rfl) ?_
   intro w1 hw1
   have d1:=fun u:ExtOf w1=>Za (j:=1) ((Xt hw1 u.h).at h02) rfl
   have d2:=fun u:ExtOf w1=>Za (j:=2) ((Xt hw1 u.h).at h02) rfl
   have d3:=fun u:ExtOf w1=>Za (j:=3) ((Xt hw1 u.h).at h02) rfl
   have dh:=fun u:ExtOf w1=>Za (j:=0) ((Xt hw1 u.h).at hH.row) rfl
   have hx:∀u:ExtOf w1,Ext w u.to:=fun u=>Xt e02 (Xt hw1 u.h)
   simp only [Zk,Rg.hsB,Nat.reduceBEq,Nat.reduceAdd,↓reduceIte]
   repeat (go_big_quiet_step ((go_at_call 151;exact Ret.cls (hln _ (hx _)))))
   refine wpQuiet_nil ?_
   clear d1 d2 d3 dh hx
   refine Xb 15 _ (.cells #[.int .u8 0,.int .u8 0,.int .u8 0,.int .i64 0,.int .i64 0] 151) (fun p=>.pointer (some ⟨p,0,none⟩)) (by intro w;go_simp) rfl (by kernel_rfl) (by decide) rfl ?_
   intro lb wa h0a ha hlb0 hlb1 hlbb
   refine Z3 16 _ 151 _ _ rfl rfl rfl (by kernel_rfl) (by decide) rfl lb #[.int .u8 0,.int .u8 0,.int .u8 0,.int .i64 0,.int .i64 0] (by kernel_rfl) (by kernel_rfl) 151 _ (by kernel_rfl) (by rfl) (by rfl) hlbb hlb0 ?_
   intro wd h0d kd' hsd
   refine Zj (by kernel_rfl) ?_
   intro wy ey ey'
   simp only [Act.put,Rg.puB]
   have hl2:=ey'.at hsd
   have hr4:=ey.at h2
   have EY:=Xt e02 ey
   have z4:=Za (j:=4) hl2 rfl
   have z3:=Za (j:=3) hl2 rfl
   clear hw1 h0d hsd ey' hlbb kd' h0a ha
   go_wp2_with (refine Ze rfl rfl 55 _ _ rfl (w.heap.size+1) _ rfl rfl 55 _ hr4 (by kernel_rfl) (by rfl) (by rfl) ?_
                intro wz hbz hoz hsz)
   have EZ:Ext w wz:=hbz _ _ (by omega) EY
   exact Zt (w.heap.size+1) 55 _ _ _ rfl rfl hsz Tryz.underlying55 rfl (by kernel_rfl) rfl ⟨_,_,rfl,FrA.of_ext EZ,fun _=>⟨HXY.out,p,m,pb,g,h.ext EZ⟩⟩
theorem wleft_any (base:Nat->Prop) (hw p m pb:Nat) (g:Option Nat) (L:Led) (B:Bk) (s:Stp) (w:World) (h:IsH w base hw p m pb g L B) (_hb:∀x,w.heap.size<=x->base x):Calls Tryz.prog 101 #[.pointer (some ⟨hw,0,none⟩),s.agg] w (Zhw base hw (match Yk B.offs s.sq with | some o=>((o.left,0),0,L,B) | none=>((0,0),7,L,B)) w):=by
 obtain ⟨kd,pa,pbb,ca,cb,am,mx,nu,de,sq⟩:=s
 simp only [Stp.agg]
 have hfd:=fun W (kk:Ext w W)=>Zju pb g B sq W (h.book.ext kk)
 cases hk:Yk B.offs sq with
 | some o=>
   rw [hk] at hfd
   obtain ⟨o0,o1,o2,o3,o4,o5,o6⟩:=o
   simp only [Zfb,Off.agg] at hfd
   obtain ⟨W,hW,e0,h0,s0⟩:=Y8 w #[.int .u8 kd,.int .u8 pa,.int .u8 pbb,.int .u8 ca,.int .u8 cb,.int .i64 am,.int .i64 mx,.int .i64 nu,.int .i64 de,.int .u64 sq] 30
   have HW:=Lib.hid hW
   clear hW
   go_enter Tryz.func101,Tryz.ntmps101
   go_wp2_with (first
    | (refine Zu rfl 55 rfl (.cells #[.int .i64 0,.int .i64 0] 55) _ rfl (by go_simp) ?_
       rw [HW.out]
       intro w2 e2 h2
       rw [s0] at h2))
   have h02:=e2.at h0
   have e02:=Xt e0 e2
   have hH:=h.ext e02
   have s2:=Zg h2
   clear e0 h0 e2 HW s0
   refine Zh Zl 13 [11,12] (by kernel_rfl) (by kernel_rfl) ?_
   intro w1 hw1
   have d8:=fun u:ExtOf w1=>Za (j:=9) ((Xt hw1 u.h).at h02) rfl
   have dh:=fun u:ExtOf w1=>Za (j:=1) ((Xt hw1 u.h).at hH.row) rfl
   have hx:∀u:ExtOf w1,Ext w u.to:=fun u=>Xt e02 (Xt hw1 u.h)
   simp only [Zk,Rg.hsB,Nat.reduceBEq,Nat.reduceAdd,↓reduceIte]
   repeat (go_big_quiet_step ((go_at_call 154;exact Ret.cls (hfd _ (hx _)))))
   refine wpQuiet_nil ?_
   clear d8 dh hx
   refine Xb 11 _ (.cells #[.int .u64 0,.int .u8 0,.int .u8 0,.int .u8 0,.int .i64 0,.int .i64 0,.int .i64 0] 153) (fun p=>.pointer (some ⟨p,0,none⟩)) (by intro w;go_simp) rfl (by kernel_rfl) (by decide) rfl ?_
   intro lb wa h0a ha hlb0 hlb1 hlbb
   refine Z3 12 _ 153 _ _ rfl rfl rfl (by kernel_rfl) (by decide) rfl lb #[.int .u64 o0,.int .u8 o1,.int .u8 o2,.int .u8 o3,.int .i64 o4,.int .i64 o5,.int .i64 o6] (by kernel_rfl) (by kernel_rfl) 153 _ (by kernel_rfl) (by rfl) (by rfl) hlbb hlb0 ?_
   intro wd h0d kd' hsd
   refine Zj (by kernel_rfl) ?_
   intro wy ey ey'
   simp only [Act.put,Rg.puB]
   have hl2:=ey'.at hsd
   have hr4:=ey.at h2
   have EY:=Xt e02 ey
   have z4:=Za (j:=4) hl2 rfl
   clear hw1 h0d hsd ey' hlbb kd' h0a ha
   go_wp2_with (refine Ze rfl rfl 55 _ _ rfl (w.heap.size+1) _ rfl rfl 55 _ hr4 (by kernel_rfl) (by rfl) (by rfl) ?_
                intro wz hbz hoz hsz)
   have EZ:Ext w wz:=hbz _ _ (by omega) EY
   exact Zt (w.heap.size+1) 55 _ _ _ rfl rfl hsz Tryz.underlying55 rfl (by kernel_rfl) rfl ⟨_,_,rfl,FrA.of_ext EZ,fun _=>⟨rfl,p,m,pb,g,h.ext EZ⟩⟩
 | none=>
   rw [hk] at hfd
   simp only [Zfb,Off.agg,Zw] at hfd
   obtain ⟨W,hW,e0,h0,s0⟩:=Y8 w #[.int .u8 kd,.int .u8 pa,.int .u8 pbb,.int .u8 ca,.int .u8 cb,.int .i64 am,.int .i64 mx,.int .i64 nu,.int .i64 de,.int .u64 sq] 30
   have HW:=Lib.hid hW
   clear hW
   go_enter Tryz.func101,Tryz.ntmps101
   go_wp2_with (first
    | (refine Zu rfl 55 rfl (.cells #[.int .i64 0,.int .i64 0] 55) _ rfl (by go_simp) ?_
       rw [HW.out]
       intro w2 e2 h2
       rw [s0] at h2))
   have h02:=e2.at h0
   have e02:=Xt e0 e2
   have hH:=h.ext e02
   have s2:=Zg h2
   clear e0 h0 e2 HW s0
   refine Zh Zl 13 [11,12] (by kernel_rfl) (by kernel_rfl) ?_
   intro w1 hw1
   have d8:=fun u:ExtOf w1=>Za (j:=9) ((Xt hw1 u.h).at h02) rfl
   have dh:=fun u:ExtOf w1=>Za (j:=1) ((Xt hw1 u.h).at hH.row) rfl
   have hx:∀u:ExtOf w1,Ext w u.to:=fun u=>Xt e02 (Xt hw1 u.h)
   simp only [Zk,Rg.hsB,Nat.reduceBEq,Nat.reduceAdd,↓reduceIte]
   repeat (go_big_quiet_step ((go_at_call 154;exact Ret.cls (hfd _ (hx _)))))
   refine wpQuiet_nil ?_
   clear d8 dh hx
   refine Xb 11 _ (.cells #[.int .u64 0,.int .u8 0,.int .u8 0,.int .u8 0,.int .i64 0,.int .i64 0,.int .i64 0] 153) (fun p=>.pointer (some ⟨p,0,none⟩)) (by intro w;go_simp) rfl (by kernel_rfl) (by decide) rfl ?_
   intro lb wa h0a ha hlb0 hlb1 hlbb
   refine Z3 12 _ 153 _ _ rfl rfl rfl (by kernel_rfl) (by decide) rfl lb #[.int .u64 0,.int .u8 0,.int .u8 0,.int .u8 0,.int .i64 0,.int .i64 0,.int .i64 0] (by kernel_rfl) (by kernel_rfl) 153 _ (by kernel_rfl) (by rfl) (by rfl) hlbb hlb0 ?_
   intro wd h0d kd' hsd
   refine Zj (by kernel_rfl) ?_
   intro wy ey ey'
   simp only [Act.put,Rg.puB]
   have hr4:=ey.at h2
   have EY:=Xt e02 ey
   clear hw1 h0d hsd ey' hlbb kd' h0a ha
   go_wp2_with (refine Ze rfl rfl 55 _ _ rfl (w.heap.size+1) _ rfl rfl 55 _ hr4 (by kernel_rfl) (by rfl) (by rfl) ?_
                intro wz hbz hoz hsz)
   have EZ:Ext w wz:=hbz _ _ (by omega) EY
   exact Zt (w.heap.size+1) 55 _ _ _ rfl rfl hsz Tryz.underlying55 rfl (by kernel_rfl) rfl ⟨_,_,rfl,FrA.of_ext EZ,fun hz=>absurd (show (7:Int)=0 from hz) (by decide)⟩
theorem wopen_any (base:Nat->Prop) (hw p m pb:Nat) (g:Option Nat) (L:Led) (B:Bk) (s:Stp) (w:World) (h:IsH w base hw p m pb g L B) (_hb:∀x,w.heap.size<=x->base x) (hin:s.In):Calls Tryz.prog 91 #[.pointer (some ⟨hw,0,none⟩),s.agg] w (Zhw base hw ((0,0),(Za3 L s.pa).1,(Za3 L s.pa).2,B) w):=by
 obtain ⟨kd,pa,pbb,ca,cb,am,mx,nu,de,sq⟩:=s
 obtain ⟨in1,in2,in3,in4⟩:=hin
 simp only at in1 in2 in3 in4
 simp only [Stp.agg]
 obtain ⟨W,hW,e0,h0,s0⟩:=Y8 w #[.int .u8 kd,.int .u8 pa,.int .u8 pbb,.int .u8 ca,.int .u8 cb,.int .i64 am,.int .i64 mx,.int .i64 nu,.int .i64 de,.int .u64 sq] 30
 have HW:=Lib.hid hW
 clear hW
 go_enter Tryz.func91,Tryz.ntmps91
 go_wp2_with (first
  | (refine Zu rfl 55 rfl (.cells #[.int .i64 0,.int .i64 0] 55) _ rfl (by go_simp) ?_
     rw [HW.out]
     intro w2 e2 h2
     rw [s0] at h2))
 have h02:=e2.at h0
 have e02:=Xt e0 e2
 have hH:=h.ext e02
 have s2:=Zg h2
 clear e0 h0 e2 HW s0
 have hap:=U3 hH.led hH.book
 have hah:=Zgc hH.led hH.row (by decide)
 have hbh:=Zdq hH.book hH.row (by decide) (by decide)
 have hpl:=h.led.ltp
 have hml:=h.led.ltm
 have hpbl:=h.book.ltp
 have hgl:=h.book.ltg
 have hhl:=Zg h.row
 obtain ⟨lo1,lo2,lo3,lo4,lo5⟩:=h.lo
 have hpm:=h.led.ne
 have hrsS:w.heap.size∉[p,w.heap.size+1]:=by simp;omega
 have hhwS:hw∉[p,w.heap.size+1]:=by have:=hah.1;have:=hah.2;simp at *;omega
 have hr4S:True:=by trivial
 have hloS:∀x∈([p,w.heap.size+1]:List Nat),base x\/w.heap.size<=x:=by intro x hx;rcases List.mem_cons.1 hx with rfl | hx;exact .inl lo2;exact .inr (by simp at hx;omega)
 refine RgK.Zh ([p,w.heap.size+1]) Zl 10 [8,9] (by kernel_rfl) (by kernel_rfl) (by kernel_rfl) ?_
 intro w1 hw1
 have q0:∀u:KeepOf ([p,w.heap.size+1]) w1,u.to.heap[w.heap.size]? =_:=fun u=>(hw1.trans u.h).at h02 hrsS
 have qh:∀u:KeepOf ([p,w.heap.size+1]) w1,u.to.heap[hw]? =_:=fun u=>(hw1.trans u.h).at hH.row hhwS
 have d1:∀u:KeepOf ([p,w.heap.size+1]) w1,u.to.cell? ⟨w.heap.size,1,none⟩=some (.int .u8 pa):=fun u=>Za (j:=1) (q0 u) rfl
 have dh:∀u:KeepOf ([p,w.heap.size+1]) w1,u.to.cell? ⟨hw,0,none⟩=_:=fun u=>Za (j:=0) (qh u) rfl
 clear q0 qh
 simp only [Zk,Rg.hsB,Nat.reduceBEq,Nat.reduceAdd,↓reduceIte]
 repeat (go_big_quiet_step (fail))
 refine wpQuiet_nil ?_
 intro hx1
 clear dh d1
 refine RgK.Zv 8 143 _ #[.pointer (some ⟨p,0,none⟩),.int .u8 pa] _ (by rfl) _ _ (by rfl) Tryz.func143 rfl rfl (by kernel_rfl) (by rfl) (by kernel_rfl) (by decide) ?_
 intro w3 h03 h3
 have E3:=Xt hx1 h3
 refine (open_any p m L pa w3 (hH.led.ext E3)).mono ?_
 rintro e w4 ⟨rfl,k4,hL4⟩
 refine ⟨_,rfl,h03.trans (k4.mono (fun x hx=>by simp at hx ⊢;omega)),?_⟩
 have hr4:=k4.at (E3.at h2) (by simp;omega)
 refine RgK.Z3 9 _ 55 _ _ rfl rfl rfl (by kernel_rfl) (by decide) rfl (w.heap.size+1) #[.int .i64 0,.int .i64 0] (by kernel_rfl) (by kernel_rfl) 55 _ (by kernel_rfl) (by rfl) (by rfl) hr4 (Or.inl (by simp)) ?_
 intro wd h0d kd' hsd
 refine RgK.Zj (by kernel_rfl) ?_
 intro wy ey ey'
 simp only [Act.put,Rg.puB]
 have hry:=ey'.at hsd
 have hLy:=(hL4.keep kd' (by simp;omega) (by simp;omega)).ext ey'
 have hrowy:=ey.at hH.row hhwS
 have hBy:=hH.book.keep ey (by have:=hap.1;simp at *;omega) (by intro x hx;have:=hap.1;have:=hgl x hx;simp [hx] at *;omega)
 have EB:=Z8 (FrA.of_ext e02) ey hloS
 clear hw1 hx1 h03 h3 E3 h0d kd' hsd ey ey' k4 hL4 hr4
 go_wp2
 exact Zt (w.heap.size+1) 55 _ _ _ rfl rfl hry Tryz.underlying55 rfl (by kernel_rfl) rfl ⟨_,_,rfl,EB,fun _=>⟨rfl,p,m,pb,g,⟨hrowy,hLy,hBy,⟨wf_open h.ok.wf h.led.len _,h.ok.ok,h.ok.sq⟩,⟨lo1,lo2,lo3,lo4,lo5⟩⟩⟩⟩
theorem Zp1 (base:Nat->Prop) (hw p m pb:Nat) (g:Option Nat) (L:Led) (B:Bk) (s:Stp) (w:World) (h:IsH w base hw p m pb g L B) (_hb:∀x,w.heap.size<=x->base x) (hin:s.In):Calls Tryz.prog 92 #[.pointer (some ⟨hw,0,none⟩),s.agg] w (Zhw base hw ((0,0),(X9 L s.pa s.pb s.ca s.am).1,(X9 L s.pa s.pb s.ca s.am).2,B) w):=by
 obtain ⟨kd,pa,pbb,ca,cb,am,mx,nu,de,sq⟩:=s
 obtain ⟨in1,in2,in3,in4⟩:=hin
 simp only at in1 in2 in3 in4
 simp only [Stp.agg]
 obtain ⟨W,hW,e0,h0,s0⟩:=Y8 w #[.int .u8 kd,.int .u8 pa,.int .u8 pbb,.int .u8 ca,.int .u8 cb,.int .i64 am,.int .i64 mx,.int .i64 nu,.int .i64 de,.int .u64 sq] 30
 have HW:=Lib.hid hW
 clear hW
 go_enter Tryz.func92,Tryz.ntmps92
 go_wp2_with (first
  | (refine Zu rfl 55 rfl (.cells #[.int .i64 0,.int .i64 0] 55) _ rfl (by go_simp) ?_
     rw [HW.out]
     intro w2 e2 h2
     rw [s0] at h2))
 have h02:=e2.at h0
 have e02:=Xt e0 e2
 have hH:=h.ext e02
 have s2:=Zg h2
 clear e0 h0 e2 HW s0
 have hap:=U3 hH.led hH.book
 have hah:=Zgc hH.led hH.row (by decide)
 have hbh:=Zdq hH.book hH.row (by decide) (by decide)
 have hpl:=h.led.ltp
 have hml:=h.led.ltm
 have hpbl:=h.book.ltp
 have hgl:=h.book.ltg
 have hhl:=Zg h.row
 obtain ⟨lo1,lo2,lo3,lo4,lo5⟩:=h.lo
 have hpm:=h.led.ne
 have hrsS:w.heap.size∉[m,w.heap.size+1]:=by simp;omega
 have hhwS:hw∉[m,w.heap.size+1]:=by have:=hah.1;have:=hah.2;simp at *;omega
 have hr4S:True:=by trivial
 have hloS:∀x∈([m,w.heap.size+1]:List Nat),base x\/w.heap.size<=x:=by intro x hx;rcases List.mem_cons.1 hx with rfl | hx;exact .inl lo3;exact .inr (by simp at hx;omega)
 refine RgK.Zh ([m,w.heap.size+1]) Zl 16 [14,15] (by kernel_rfl) (by kernel_rfl) (by kernel_rfl) ?_
 intro w1 hw1
 have q0:∀u:KeepOf ([m,w.heap.size+1]) w1,u.to.heap[w.heap.size]? =_:=fun u=>(hw1.trans u.h).at h02 hrsS
 have qh:∀u:KeepOf ([m,w.heap.size+1]) w1,u.to.heap[hw]? =_:=fun u=>(hw1.trans u.h).at hH.row hhwS
 have d1:∀u:KeepOf ([m,w.heap.size+1]) w1,u.to.cell? ⟨w.heap.size,1,none⟩=some (.int .u8 pa):=fun u=>Za (j:=1) (q0 u) rfl
 have d2:∀u:KeepOf ([m,w.heap.size+1]) w1,u.to.cell? ⟨w.heap.size,2,none⟩=some (.int .u8 pbb):=fun u=>Za (j:=2) (q0 u) rfl
 have d3:∀u:KeepOf ([m,w.heap.size+1]) w1,u.to.cell? ⟨w.heap.size,3,none⟩=some (.int .u8 ca):=fun u=>Za (j:=3) (q0 u) rfl
 have d5:∀u:KeepOf ([m,w.heap.size+1]) w1,u.to.cell? ⟨w.heap.size,5,none⟩=some (.int .i64 am):=fun u=>Za (j:=5) (q0 u) rfl
 have dh:∀u:KeepOf ([m,w.heap.size+1]) w1,u.to.cell? ⟨hw,0,none⟩=_:=fun u=>Za (j:=0) (qh u) rfl
 clear q0 qh
 simp only [Zk,Rg.hsB,Nat.reduceBEq,Nat.reduceAdd,↓reduceIte]
 repeat (go_big_quiet_step (fail))
 refine wpQuiet_nil ?_
 intro hx1
 clear dh d1 d2 d3 d5
 refine RgK.Zv 14 144 _ #[.pointer (some ⟨p,0,none⟩),.int .u8 pa,.int .u8 pbb,.int .u8 ca,.int .i64 am] _ (by rfl) _ _ (by rfl) Tryz.func144 rfl rfl (by kernel_rfl) (by rfl) (by kernel_rfl) (by decide) ?_
 intro w3 h03 h3
 have E3:=Xt hx1 h3
 refine (trust_any p m L pa pbb ca am w3 (hH.led.ext E3) h.ok.wf).mono ?_
 rintro e w4 ⟨rfl,k4,hL4⟩
 refine ⟨_,rfl,h03.trans (k4.mono (fun x hx=>by simp at hx ⊢;omega)),?_⟩
 have hr4:=k4.at (E3.at h2) (by simp;omega)
 refine RgK.Z3 15 _ 55 _ _ rfl rfl rfl (by kernel_rfl) (by decide) rfl (w.heap.size+1) #[.int .i64 0,.int .i64 0] (by kernel_rfl) (by kernel_rfl) 55 _ (by kernel_rfl) (by rfl) (by rfl) hr4 (Or.inl (by simp)) ?_
 intro wd h0d kd' hsd
 refine RgK.Zj (by kernel_rfl) ?_
 intro wy ey ey'
 simp only [Act.put,Rg.puB]
 have hry:=ey'.at hsd
 have hLy:=(hL4.keep kd' (by simp;omega) (by simp;omega)).ext ey'
 have hrowy:=ey.at hH.row hhwS
 have hBy:=hH.book.keep ey (by have:=hap.2;simp at *;omega) (by intro x hx;have:=hap.2;have:=hgl x hx;simp [hx] at *;omega)
 have EB:=Z8 (FrA.of_ext e02) ey hloS
 clear hw1 hx1 h03 h3 E3 h0d kd' hsd ey ey' k4 hL4 hr4
 go_wp2
 exact Zt (w.heap.size+1) 55 _ _ _ rfl rfl hry Tryz.underlying55 rfl (by kernel_rfl) rfl ⟨_,_,rfl,EB,fun _=>⟨rfl,p,m,pb,g,⟨hrowy,hLy,hBy,⟨wf_trust h.ok.wf _ _ _ _,h.ok.ok,h.ok.sq⟩,⟨lo1,lo2,lo3,lo4,lo5⟩⟩⟩⟩
theorem wpay_any (base:Nat->Prop) (hw p m pb:Nat) (g:Option Nat) (L:Led) (B:Bk) (s:Stp) (w:World) (h:IsH w base hw p m pb g L B) (_hb:∀x,w.heap.size<=x->base x) (hin:s.In):Calls Tryz.prog 93 #[.pointer (some ⟨hw,0,none⟩),s.agg] w (Zhw base hw (((U5 L s.pa s.pb s.ca s.am).1.1,0),(U5 L s.pa s.pb s.ca s.am).1.2,(U5 L s.pa s.pb s.ca s.am).2,B) w):=by
 obtain ⟨kd,pa,pbb,ca,cb,am,mx,nu,de,sq⟩:=s
 obtain ⟨in1,in2,in3,in4⟩:=hin
 simp only at in1 in2 in3 in4
 simp only [Stp.agg]
 obtain ⟨W,hW,e0,h0,s0⟩:=Y8 w #[.int .u8 kd,.int .u8 pa,.int .u8 pbb,.int .u8 ca,.int .u8 cb,.int .i64 am,.int .i64 mx,.int .i64 nu,.int .i64 de,.int .u64 sq] 30
 have HW:=Lib.hid hW
 clear hW
 go_enter Tryz.func93,Tryz.ntmps93
 go_wp2_with (first
  | (refine Zu rfl 55 rfl (.cells #[.int .i64 0,.int .i64 0] 55) _ rfl (by go_simp) ?_
     rw [HW.out]
     intro w2 e2 h2
     rw [s0] at h2))
 have h02:=e2.at h0
 have e02:=Xt e0 e2
 have hH:=h.ext e02
 have s2:=Zg h2
 clear e0 h0 e2 HW s0
 have hap:=U3 hH.led hH.book
 have hah:=Zgc hH.led hH.row (by decide)
 have hbh:=Zdq hH.book hH.row (by decide) (by decide)
 have hpl:=h.led.ltp
 have hml:=h.led.ltm
 have hpbl:=h.book.ltp
 have hgl:=h.book.ltg
 have hhl:=Zg h.row
 obtain ⟨lo1,lo2,lo3,lo4,lo5⟩:=h.lo
 have hpm:=h.led.ne
 have hrsS:w.heap.size∉[m]:=by simp;omega
 have hhwS:hw∉[m]:=by have:=hah.1;have:=hah.2;simp at *;omega
 have hr4S:w.heap.size+1∉[m]:=by simp;omega
 have hloS:∀x∈([m]:List Nat),base x\/w.heap.size<=x:=by intro x hx;rcases List.mem_cons.1 hx with rfl | hx;exact .inl lo3;simp at hx
 refine RgK.Zh ([m]) Zl 18 [13,14,15,16,17] (by kernel_rfl) (by kernel_rfl) (by kernel_rfl) ?_
 intro w1 hw1
 have q0:∀u:KeepOf ([m]) w1,u.to.heap[w.heap.size]? =_:=fun u=>(hw1.trans u.h).at h02 hrsS
 have qh:∀u:KeepOf ([m]) w1,u.to.heap[hw]? =_:=fun u=>(hw1.trans u.h).at hH.row hhwS
 have d1:=fun u:KeepOf ([m]) w1=>Za (j:=1) (q0 u) rfl
 have d2:=fun u:KeepOf ([m]) w1=>Za (j:=2) (q0 u) rfl
 have d3:=fun u:KeepOf ([m]) w1=>Za (j:=3) (q0 u) rfl
 have d5:=fun u:KeepOf ([m]) w1=>Za (j:=5) (q0 u) rfl
 have dh:=fun u:KeepOf ([m]) w1=>Za (j:=0) (qh u) rfl
 clear q0 qh
 simp only [Zk,Rg.hsB,Nat.reduceBEq,Nat.reduceAdd,↓reduceIte]
 repeat (go_big_quiet_step (fail))
 refine wpQuiet_nil ?_
 intro hx1
 clear dh d1 d2 d3 d5
 refine RgK.Zv 13 145 _ #[.pointer (some ⟨p,0,none⟩),.int .u8 pa,.int .u8 pbb,.int .u8 ca,.int .i64 am] _ (by rfl) _ _ (by rfl) Tryz.func145 rfl rfl (by kernel_rfl) (by rfl) (by kernel_rfl) (by decide) ?_
 intro w3 h03 h3
 have E3:=Xt hx1 h3
 refine (Zmt p m L pa pbb ca am w3 (hH.led.ext E3) h.ok.wf in1).mono ?_
 rintro e w4 ⟨rfl,k4,hL4⟩
 refine ⟨_,rfl,h03.trans k4,?_⟩
 refine RgK.Xf Zl 14 [] 0 (by kernel_rfl) (by kernel_rfl) (h03.trans k4) ?_
 intro w1' hw1'
 simp only [Act.put,two,List.getElem_toArray,List.getElem_cons_succ,List.getElem_cons_zero,List.setIfInBounds_toArray,List.set_cons_zero,List.set_cons_succ]
 simp only [Zk,Rg.hsB,Nat.reduceAdd,↓reduceIte]
 repeat (go_big_quiet_step (fail))
 refine wpQuiet_nil ?_
 intro hx4
 refine RgK.Zj (by kernel_rfl) ?_
 intro wy ey0 ey0'
 simp only [Rg.puB]
 have ey:=(h03.trans k4).trans ey0
 have hry:=ey.at h2 hr4S
 have hrowy:=ey.at hH.row hhwS
 have E4y:Ext w4 wy:=Xt hx4 ey0'
 have hLy:=hL4.ext E4y
 have hBy:=hH.book.keep ey (by have:=hap.2;simp at *;omega) (by intro x hx;have:=hap.2;have:=hgl x hx;simp [hx] at *;omega)
 have EB:=Z8 (FrA.of_ext e02) ey hloS
 clear hw1 hx1 h03 h3 E3 hw1' hx4 ey ey0 ey0' k4
 go_wp2_with (refine Ze rfl rfl 55 _ _ rfl (w.heap.size+1) _ rfl rfl 55 _ hry (by kernel_rfl) (by rfl) (by rfl) ?_
              intro wz hbz hoz hsz)
 have BZ:=hbz (w.heap.size+1) wy (Nat.le_refl _) (Below.refl _ _)
 have KZ:Keep [w.heap.size+1] wy wz:=⟨BZ.os,BZ.tape,BZ.output,BZ.size,fun k _ hk=>hoz k (by simpa using hk)⟩
 have EZ:=Z8 EB KZ (fun x hx=>.inr (by simp at hx;omega))
 exact Zt (w.heap.size+1) 55 _ _ _ rfl rfl hsz Tryz.underlying55 rfl (by kernel_rfl) rfl ⟨_,_,rfl,EZ,fun _=>⟨rfl,p,m,pb,g,⟨KZ.at hrowy (by simp;omega),hLy.keep KZ (by simp;omega) (by simp;omega),hBy.keep KZ (by simp;omega) (fun x hx=>by have:=hgl x hx;simp;omega),⟨Zie h.ok.wf _ _ _ _,h.ok.ok,h.ok.sq⟩,⟨lo1,lo2,lo3,lo4,lo5⟩⟩⟩⟩
theorem Znu (base:Nat->Prop) (hw p m pb:Nat) (g:Option Nat) (L:Led) (B:Bk) (s:Stp) (w:World) (h:IsH w base hw p m pb g L B) (hb:∀x,w.heap.size<=x->base x) (hin:s.In):Calls Tryz.prog 96 #[.pointer (some ⟨hw,0,none⟩),s.agg] w (Zhw base hw (((Vk B s.pa s.sq).1,0),(Vk B s.pa s.sq).2.1,L,(Vk B s.pa s.sq).2.2) w):=by
 obtain ⟨kd,pa,pbb,ca,cb,am,mx,nu,de,sq⟩:=s
 obtain ⟨in1,in2,in3,in4⟩:=hin
 simp only at in1 in2 in3 in4
 simp only [Stp.agg]
 obtain ⟨W,hW,e0,h0,s0⟩:=Y8 w #[.int .u8 kd,.int .u8 pa,.int .u8 pbb,.int .u8 ca,.int .u8 cb,.int .i64 am,.int .i64 mx,.int .i64 nu,.int .i64 de,.int .u64 sq] 30
 have HW:=Lib.hid hW
 clear hW
 go_enter Tryz.func96,Tryz.ntmps96
 go_wp2_with (first
  | (refine Zu rfl 55 rfl (.cells #[.int .i64 0,.int .i64 0] 55) _ rfl (by go_simp) ?_
     rw [HW.out]
     intro w2 e2 h2
     rw [s0] at h2))
 have h02:=e2.at h0
 have e02:=Xt e0 e2
 have hH:=h.ext e02
 have s2:=Zg h2
 clear e0 h0 e2 HW s0
 have hap:=U3 hH.led hH.book
 have hah:=Zgc hH.led hH.row (by decide)
 have hbh:=Zdq hH.book hH.row (by decide) (by decide)
 have hpl:=h.led.ltp
 have hml:=h.led.ltm
 have hpbl:=h.book.ltp
 have hgl:=h.book.ltg
 have hhl:=Zg h.row
 obtain ⟨lo1,lo2,lo3,lo4,lo5⟩:=h.lo
 have hpm:=h.led.ne
 have hrsS:w.heap.size∉pb::g.toList:=by intro hx;rcases List.mem_cons.1 hx with hx | hx;omega;have:=hgl _ (by simpa using hx);omega
 have hhwS:hw∉pb::g.toList:=by intro hx;rcases List.mem_cons.1 hx with hx | hx;exact hbh.1 (by simp [hx]);exact hbh.2 _ (by simpa using hx) (by simp)
 have hr4S:w.heap.size+1∉pb::g.toList:=by intro hx;rcases List.mem_cons.1 hx with hx | hx;omega;have:=hgl _ (by simpa using hx);omega
 have hloS:∀x∈(pb::g.toList:List Nat),base x\/w.heap.size<=x:=by intro x hx;rcases List.mem_cons.1 hx with rfl | hx;exact .inl lo4;exact .inl (lo5 _ (by simpa using hx))
 refine RgK.Zh (pb::g.toList) Zl 14 [9,10,11,12,13] (by kernel_rfl) (by kernel_rfl) (by kernel_rfl) ?_
 intro w1 hw1
 have q0:∀u:KeepOf (pb::g.toList) w1,u.to.heap[w.heap.size]? =_:=fun u=>(hw1.trans u.h).at h02 hrsS
 have qh:∀u:KeepOf (pb::g.toList) w1,u.to.heap[hw]? =_:=fun u=>(hw1.trans u.h).at hH.row hhwS
 have d1:=fun u:KeepOf (pb::g.toList) w1=>Za (j:=1) (q0 u) rfl
 have d8:=fun u:KeepOf (pb::g.toList) w1=>Za (j:=9) (q0 u) rfl
 have dh:=fun u:KeepOf (pb::g.toList) w1=>Za (j:=1) (qh u) rfl
 clear q0 qh
 simp only [Zk,Rg.hsB,Nat.reduceBEq,Nat.reduceAdd,↓reduceIte]
 repeat (go_big_quiet_step (fail))
 refine wpQuiet_nil ?_
 intro hx1
 clear dh d1 d8
 refine RgK.Zv 9 149 _ #[.pointer (some ⟨pb,0,none⟩),.int .u8 pa,.int .u64 sq] _ (by rfl) _ _ (by rfl) Tryz.func149 rfl rfl (by kernel_rfl) (by rfl) (by kernel_rfl) (by decide) ?_
 intro w3 h03 h3
 have E3:=Xt hx1 h3
 refine (Zr8 pb g B pa sq w3 (hH.book.ext E3)).mono ?_
 rintro e w4 ⟨rfl,g4,k4,hB4,hg4⟩
 refine ⟨_,rfl,h03.trans k4,?_⟩
 refine RgK.Xf Zl 10 [] 0 (by kernel_rfl) (by kernel_rfl) (h03.trans k4) ?_
 intro w1' hw1'
 simp only [Act.put,List.getElem_toArray,List.getElem_cons_succ,List.getElem_cons_zero,List.setIfInBounds_toArray,List.set_cons_zero,List.set_cons_succ]
 simp only [Zk,Rg.hsB,Nat.reduceAdd,↓reduceIte]
 repeat (go_big_quiet_step (fail))
 refine wpQuiet_nil ?_
 intro hx4
 refine RgK.Zj (by kernel_rfl) ?_
 intro wy ey0 ey0'
 simp only [Rg.puB]
 have ey:=(h03.trans k4).trans ey0
 have hry:=ey.at h2 hr4S
 have hrowy:=ey.at hH.row hhwS
 have E4y:Ext w4 wy:=Xt hx4 ey0'
 have hLy:=hH.led.keep ey hap.1 hap.2
 have hBy:=hB4.ext E4y
 have hg4r:∀x,g4=some x->x≠w.heap.size+1:=fun x hx e=>by
  rcases hg4 with hg | hg
  ·have:=hgl x (hg▸hx);omega
  have:=hg x hx;have:=E3.size;omega
 have hg4l:∀x,g4=some x->base x:=fun x hx=>by
  rcases hg4 with hg | hg
  ·exact lo5 x (hg▸hx)
  exact hb x (by have:=hg x hx;have:=E3.size;have:=e02.size;omega)
 have EB:=Z8 (FrA.of_ext e02) ey hloS
 clear hw1 hx1 h03 h3 E3 hw1' hx4 ey ey0 ey0' k4
 go_wp2_with (refine Ze rfl rfl 55 _ _ rfl (w.heap.size+1) _ rfl rfl 55 _ hry (by kernel_rfl) (by rfl) (by rfl) ?_
              intro wz hbz hoz hsz)
 have BZ:=hbz (w.heap.size+1) wy (Nat.le_refl _) (Below.refl _ _)
 have KZ:Keep [w.heap.size+1] wy wz:=⟨BZ.os,BZ.tape,BZ.output,BZ.size,fun k _ hk=>hoz k (by simpa using hk)⟩
 have EZ:=Z8 EB KZ (fun x hx=>.inr (by simp at hx;omega))
 exact Zt (w.heap.size+1) 55 _ _ _ rfl rfl hsz Tryz.underlying55 rfl (by kernel_rfl) rfl ⟨_,_,rfl,EZ,fun _=>⟨rfl,p,m,pb,g4,⟨KZ.at hrowy (by simp;omega),hLy.keep KZ (by simp;omega) (by simp;omega),hBy.keep KZ (by simp;omega) (fun x hx=>by have:=hg4r x hx;simp;omega),Zqy h.ok _ _,⟨lo1,lo2,lo3,lo4,hg4l⟩⟩⟩⟩
theorem wnet_any (base:Nat->Prop) (hw p m pb:Nat) (g:Option Nat) (L:Led) (B:Bk) (s:Stp) (w:World) (h:IsH w base hw p m pb g L B) (_hb:∀x,w.heap.size<=x->base x) (hin:s.In):Calls Tryz.prog 97 #[.pointer (some ⟨hw,0,none⟩),s.agg] w (Zhw base hw (((Zbk L s.ca s.mx).1,(Zbk L s.ca s.mx).2.1),(Zbk L s.ca s.mx).2.2.1,(Zbk L s.ca s.mx).2.2.2,B) w):=by
 obtain ⟨kd,pa,pbb,ca,cb,am,mx,nu,de,sq⟩:=s
 obtain ⟨in1,in2,in3,in4⟩:=hin
 simp only at in1 in2 in3 in4
 simp only [Stp.agg]
 obtain ⟨W,hW,e0,h0,s0⟩:=Y8 w #[.int .u8 kd,.int .u8 pa,.int .u8 pbb,.int .u8 ca,.int .u8 cb,.int .i64 am,.int .i64 mx,.int .i64 nu,.int .i64 de,.int .u64 sq] 30
 have HW:=Lib.hid hW
 clear hW
 go_enter Tryz.func97,Tryz.ntmps97
 go_wp2_with (first
  | (refine Zu rfl 55 rfl (.cells #[.int .i64 0,.int .i64 0] 55) _ rfl (by go_simp) ?_
     rw [HW.out]
     intro w2 e2 h2
     rw [s0] at h2))
 have h02:=e2.at h0
 have e02:=Xt e0 e2
 have hH:=h.ext e02
 have s2:=Zg h2
 clear e0 h0 e2 HW s0
 have hap:=U3 hH.led hH.book
 have hah:=Zgc hH.led hH.row (by decide)
 have hbh:=Zdq hH.book hH.row (by decide) (by decide)
 have hpl:=h.led.ltp
 have hml:=h.led.ltm
 have hpbl:=h.book.ltp
 have hgl:=h.book.ltg
 have hhl:=Zg h.row
 obtain ⟨lo1,lo2,lo3,lo4,lo5⟩:=h.lo
 have hpm:=h.led.ne
 have hrsS:w.heap.size∉[m]:=by simp;omega
 have hhwS:hw∉[m]:=by have:=hah.1;have:=hah.2;simp at *;omega
 have hr4S:w.heap.size+1∉[m]:=by simp;omega
 have hloS:∀x∈([m]:List Nat),base x\/w.heap.size<=x:=by intro x hx;rcases List.mem_cons.1 hx with rfl | hx;exact .inl lo3;simp at hx
 refine RgK.Zh ([m]) Zl 16 [9,10,11,12,13,14,15] (by kernel_rfl) (by kernel_rfl) (by kernel_rfl) ?_
 intro w1 hw1
 have q0:∀u:KeepOf ([m]) w1,u.to.heap[w.heap.size]? =_:=fun u=>(hw1.trans u.h).at h02 hrsS
 have qh:∀u:KeepOf ([m]) w1,u.to.heap[hw]? =_:=fun u=>(hw1.trans u.h).at hH.row hhwS
 have d3:=fun u:KeepOf ([m]) w1=>Za (j:=3) (q0 u) rfl
 have d6:=fun u:KeepOf ([m]) w1=>Za (j:=6) (q0 u) rfl
 have dh:=fun u:KeepOf ([m]) w1=>Za (j:=0) (qh u) rfl
 clear q0 qh
 simp only [Zk,Rg.hsB,Nat.reduceBEq,Nat.reduceAdd,↓reduceIte]
 repeat (go_big_quiet_step (fail))
 refine wpQuiet_nil ?_
 intro hx1
 clear dh d3 d6
 refine RgK.Zv 9 150 _ #[.pointer (some ⟨p,0,none⟩),.int .u8 ca,.int .i64 mx] _ (by rfl) _ _ (by rfl) Tryz.func150 rfl rfl (by kernel_rfl) (by rfl) (by kernel_rfl) (by decide) ?_
 intro w3 h03 h3
 have E3:=Xt hx1 h3
 refine (net_any p m L ca mx w3 (hH.led.ext E3) h.ok.wf in2).mono ?_
 rintro e w4 ⟨rfl,k4,hL4⟩
 refine ⟨_,rfl,h03.trans k4,?_⟩
 refine RgK.Xf Zl 10 [] 0 (by kernel_rfl) (by kernel_rfl) (h03.trans k4) ?_
 intro w1' hw1'
 simp only [Act.put,List.getElem_toArray,List.getElem_cons_succ,List.getElem_cons_zero,List.setIfInBounds_toArray,List.set_cons_zero,List.set_cons_succ]
 simp only [Zk,Rg.hsB,Nat.reduceAdd,↓reduceIte]
 repeat (go_big_quiet_step (fail))
 refine wpQuiet_nil ?_
 intro hx4
 refine RgK.Zj (by kernel_rfl) ?_
 intro wy ey0 ey0'
 simp only [Rg.puB]
 have ey:=(h03.trans k4).trans ey0
 have hry:=ey.at h2 hr4S
 have hrowy:=ey.at hH.row hhwS
 have E4y:Ext w4 wy:=Xt hx4 ey0'
 have hLy:=hL4.ext E4y
 have hBy:=hH.book.keep ey (by have:=hap.2;simp at *;omega) (by intro x hx;have:=hap.2;have:=hgl x hx;simp [hx] at *;omega)
 have EB:=Z8 (FrA.of_ext e02) ey hloS
 clear hw1 hx1 h03 h3 E3 hw1' hx4 ey ey0 ey0' k4
 go_wp2_with (refine Ze rfl rfl 55 _ _ rfl (w.heap.size+1) _ rfl rfl 55 _ hry (by kernel_rfl) (by rfl) (by rfl) ?_
              intro wz hbz hoz hsz)
 have BZ:=hbz (w.heap.size+1) wy (Nat.le_refl _) (Below.refl _ _)
 have KZ:Keep [w.heap.size+1] wy wz:=⟨BZ.os,BZ.tape,BZ.output,BZ.size,fun k _ hk=>hoz k (by simpa using hk)⟩
 have EZ:=Z8 EB KZ (fun x hx=>.inr (by simp at hx;omega))
 exact Zt (w.heap.size+1) 55 _ _ _ rfl rfl hsz Tryz.underlying55 rfl (by kernel_rfl) rfl ⟨_,_,rfl,EZ,fun _=>⟨rfl,p,m,pb,g,⟨KZ.at hrowy (by simp;omega),hLy.keep KZ (by simp;omega) (by simp;omega),hBy.keep KZ (by simp;omega) (fun x hx=>by have:=hgl x hx;simp;omega),⟨wf_net h.ok.wf _ _,h.ok.ok,h.ok.sq⟩,⟨lo1,lo2,lo3,lo4,lo5⟩⟩⟩⟩
theorem Zek {w:World} {hw:Nat} {x y:Value} (h:w.heap[hw]? =some (Obj.cells #[x,y] 137 (0,0))):(loadVar 103 ⟨hw,0,none⟩).run Tryz.prog w= .ok (.agg #[x,y]) w:=
 Zs w hw 0 103 [x,y] _ (fun j u hu=>by
  refine Za h ?_
  rw [Nat.zero_add]
  match j,hu with
  | 0,hu=>exact hu
  | 1,hu=>exact hu) Tryz.underlying103 rfl (by kernel_rfl)
theorem wswap_any (base:Nat->Prop) (hw p m pb:Nat) (g:Option Nat) (L:Led) (B:Bk) (s:Stp) (w:World) (h:IsH w base hw p m pb g L B) (hb:∀x,w.heap.size<=x->base x) (hin:s.In):Calls Tryz.prog 94 #[.pointer (some ⟨hw,0,none⟩),s.agg] w
 (Zhw base hw ((Y1 (Z4 L B s.pa s.pb s.ca s.cb s.am s.mx).2.2.2,((Z4 L B s.pa s.pb s.ca s.cb s.am s.mx).2.2.2.length:Int)),(Z4 L B s.pa s.pb s.ca s.cb s.am s.mx).1,(Z4 L B s.pa s.pb s.ca s.cb s.am s.mx).2.1,(Z4 L B s.pa s.pb s.ca s.cb s.am s.mx).2.2.1) w):=by
 obtain ⟨kd,pa,pbb,ca,cb,am,mx,nu,de,sq⟩:=s
 obtain ⟨in1,in2,in3,in4⟩:=hin
 simp only at in1 in2 in3 in4
 simp only [Stp.agg]
 have hlen:=fun h0=>(Zil (fr:=pa) (to:=pbb) (get:=ca) (give:=cb) (n:=am) (most:=mx) h.ok.wf h.ok.ok h.ok.sq.1 h0).2.2.2.2.1
 have hsw:=fun W (kk:Ext w W)=>swap_anyF p m pb g L B pa pbb ca cb am mx W (h.led.ext kk) h.ok.wf (h.book.ext kk) h.ok.ok h.ok.sq.1 in1
 have hmk:=mok_swap h.ok pa pbb ca cb am mx
 generalize Z4 L B pa pbb ca cb am mx=r at *
 obtain ⟨re,rL,rB,fl⟩:=r
 simp only at hlen hmk
 obtain ⟨W,hW,e0,h0,s0⟩:=Y8 w #[.int .u8 kd,.int .u8 pa,.int .u8 pbb,.int .u8 ca,.int .u8 cb,.int .i64 am,.int .i64 mx,.int .i64 nu,.int .i64 de,.int .u64 sq] 30
 have HW:=Lib.hid hW
 clear hW
 go_enter Tryz.func94,Tryz.ntmps94
 go_wp2_with (first
  | (refine Zu rfl 55 rfl (.cells #[.int .i64 0,.int .i64 0] 55) _ rfl (by go_simp) ?_
     rw [HW.out]
     intro w2 e2 h2
     rw [s0] at h2))
 have h02:=e2.at h0
 have e02:=Xt e0 e2
 have hH:=h.ext e02
 have s2:=Zg h2
 clear e0 h0 e2 HW s0
 have hhl:=Zg h.row
 obtain ⟨lo1,lo2,lo3,lo4,lo5⟩:=h.lo
 have s02:=e02.size
 refine RgK.Zh ([]:List Nat) Zl 24 [16,17,18,19,20,21,22,23] (by kernel_rfl) (by kernel_rfl) (by kernel_rfl) ?_
 intro w1 hw1
 have q0:∀u:KeepOf ([]:List Nat) w1,u.to.heap[w.heap.size]? =_:=fun u=>(hw1.trans u.h).at h02 (by simp)
 have d1:=fun u:KeepOf ([]:List Nat) w1=>Za (j:=1) (q0 u) rfl
 have d2:=fun u:KeepOf ([]:List Nat) w1=>Za (j:=2) (q0 u) rfl
 have d3:=fun u:KeepOf ([]:List Nat) w1=>Za (j:=3) (q0 u) rfl
 have d4:=fun u:KeepOf ([]:List Nat) w1=>Za (j:=4) (q0 u) rfl
 have d5:=fun u:KeepOf ([]:List Nat) w1=>Za (j:=5) (q0 u) rfl
 have d6:=fun u:KeepOf ([]:List Nat) w1=>Za (j:=6) (q0 u) rfl
 have ldw:∀w2,U9 ([]:List Nat) w1 w2->(loadVar 103 ⟨hw,0,none⟩).run Tryz.prog w2= .ok (.agg #[.pointer (some ⟨p,0,none⟩),.pointer (some ⟨pb,0,none⟩)]) w2:=by
  rintro _ ⟨u,rfl⟩
  exact Zek ((hw1.trans u.h).at hH.row (by simp))
 clear q0
 simp only [Zk,Rg.hsB,Nat.reduceBEq,Nat.reduceAdd,↓reduceIte]
 repeat (first | go_big_quiet_step (fail) | (go_big_quiet_want;refine Z0 103 _ _ _ rfl rfl ldw ?_;go_big_quiet_on;simp only [Act.put,Rg.puB]))
 refine wpQuiet_nil ?_
 intro hx1
 clear ldw d1 d2 d3 d4 d5 d6
 refine RgK.Za0 16 21 _ _ (by kernel_rfl) (by decide) (by decide) (by rfl) (by rfl) rfl rfl ?_ ?_
 ·as_aux_lemma=>
   intro w3 h03 h3
   refine RgK.Vs 146 _ #[.agg #[.pointer (some ⟨p,0,none⟩),.pointer (some ⟨pb,0,none⟩)],.int .u8 pa,.int .u8 pbb,.int .u8 ca,.int .u8 cb,.int .i64 am,.int .i64 mx] _ _ (by rfl) Tryz.func146 rfl (by kernel_rfl) (by kernel_rfl) ?_
   refine (hsw w3 (Xt e02 (Xt hx1 h3))).mono ?_
   rintro e w4 ⟨hv,av,rfl,e4,hbad,hgood⟩
   simp only at hbad hgood
   refine ⟨_,rfl,h03.trans (Kx e4),?_⟩
   by_cases hre:re=0
   ·obtain ⟨p4,m4,pb4,g4,rfl,hL4,hB4,hsl,n1,n2,n3,hgn⟩:=hgood hre
    obtain ⟨A4,c4,rfl,hsl0⟩:=hsl
    have hsl:Zn w4 w3.heap.size 5 (.slice A4 fl.length c4) fl.length (Yt fl):=⟨A4,c4,rfl,hsl0⟩
    have HOK:=Lib.hid hmk
    have hfl:fl.length<=64:=hlen hre
    obtain ⟨gbase,hgb⟩:∃gb,gb=w3.heap.size:=⟨_,rfl⟩
    rw [<-hgb] at hsl n1 n2 n3 hgn
    have hgbw:w.heap.size+2<=gbase:=by have:=hx1.size;have:=h3.size;omega
    clear hsl0 hbad hgood hsw hgb hmk hlen
    subst hre
    refine RgK.Xf Zl 17 [21,22,23] 3 (by kernel_rfl) (by kernel_rfl) (h03.trans (Kx e4)) ?_
    intro w1' hw1'
    simp only [Act.put,Rg.puC,Rg.puB]
    simp only [Zk,Rg.hsB,Nat.reduceBEq,Nat.reduceAdd,↓reduceIte]
    repeat (go_big_quiet_step (fail))
    refine wpQuiet_nil ?_
    intro hx4
    refine RgK.Xb 21 _ (.cells #[.pointer none,.pointer none] 103) (fun p=>.pointer (some ⟨p,0,none⟩)) (by intro w;go_simp) rfl (by kernel_rfl) (by decide) rfl ?_
    intro eb w5 h05 h5 heb0 heb hebb
    refine RgK.Z3 22 _ 103 _ _ rfl rfl rfl (by kernel_rfl) (by decide) rfl eb #[.pointer (some ⟨p4,0,none⟩),.pointer (some ⟨pb4,0,none⟩)] (by kernel_rfl) (by kernel_rfl) 103 _ (by kernel_rfl) (by rfl) (by rfl) hebb (Or.inr heb0) ?_
    intro w6 h06 k6 hs6
    refine RgK.Xv 23 _ (.slice A4 fl.length c4) rfl (by kernel_rfl) (by decide) rfl (fun w' _=>by go_simp) ?_
    intro w6b h06b e6b
    refine RgK.Zj (by kernel_rfl) ?_
    intro wy e7 e7'
    simp only [Act.put,Rg.puB]
    have hey:=e7'.at (e6b.at hs6)
    have E4y:Ext w4 wy:=e7.ext
    have hlt4:w4.heap.size<=eb:=heb0
    have E2y:Ext w2 wy:=Xt hx1 (Xt h3 (Xt e4 E4y))
    clear h03 hw1' hx4 h05 h5 heb hebb h06 k6 hs6 h06b e6b e7 e7' hw1
    have hwy:=E2y.at hH.row
    have hry:=E2y.at h2
    have EB:FrA base w wy:=FrA.of_ext (Xt e02 E2y)
    have hL4:=hL4.ext E4y
    have hB4:=hB4.ext E4y
    have hsl:=hsl.ext E4y
    have ldh:=run_loadVar_row (P:=Tryz.prog) wy eb _ 103 _ _ _ hey Tryz.underlying103 rfl (by kernel_rfl)
    go_wp2_with (first
     | (refine Zd rfl 103 _ _ _ rfl rfl ldh ?_)
     | (refine Ze rfl rfl 103 _ _ rfl hw _ rfl rfl 137 _ hwy (by kernel_rfl) (by rfl) (by rfl) ?_
        intro w8 hb8 ho8 hs8))
    have B8:=hb8 hw wy (Nat.le_refl _) (Below.refl _ _)
    have K8:Keep [hw] wy w8:=⟨B8.os,B8.tape,B8.output,B8.size,fun k _ hk=>ho8 k (by simpa using hk)⟩
    have EB8:=Z8 EB K8 (fun x hx=>.inl (by rw [List.mem_singleton.1 hx];exact lo1))
    clear hb8 ho8 B8 ldh hey
    refine (Zbr gbase _ fl w8 hfl (hsl.keepS K8 (by simp;omega))).mono ?_
    rintro e w9 ⟨rfl,e9⟩
    have hr9:=e9.at (K8.at hry (by simp;omega))
    have hs9:=e9.at hs8
    have EB9:=Z8 EB8 (Kx (S:=[]) e9) (by simp)
    go_wp2_with (refine Ze rfl rfl 55 _ _ rfl (w.heap.size+1) _ rfl rfl 55 _ hr9 (by kernel_rfl) (by rfl) (by rfl) ?_
                 intro wz hbz hoz hsz)
    have BZ:=hbz (w.heap.size+1) w9 (Nat.le_refl _) (Below.refl _ _)
    have KZ:Keep [w.heap.size+1] w9 wz:=⟨BZ.os,BZ.tape,BZ.output,BZ.size,fun k _ hk=>hoz k (by simpa using hk)⟩
    have EZ:=Z8 EB9 KZ (fun x hx=>.inr (by simp at hx;omega))
    have KA:Keep [w.heap.size+1,hw] wy wz:=((K8.mono (fun x hx=>by simp at hx ⊢;omega)).trans (Kx e9)).trans (KZ.mono (fun x hx=>by simp at hx ⊢;omega))
    exact Zt (w.heap.size+1) 55 _ _ _ rfl rfl hsz Tryz.underlying55 rfl (by kernel_rfl) rfl ⟨_,_,rfl,EZ,fun _=>⟨rfl,p4,m4,pb4,g4,⟨KZ.at hs9 (by simp;omega),hL4.keep KA (by simp;omega) (by simp;omega),hB4.keep KA (by simp;omega) (fun x hx=>by have:=hgn x hx;simp;omega),HOK.out,⟨lo1,hb _ (by omega),hb _ (by omega),hb _ (by omega),fun x hx=>hb _ (by have:=hgn x hx;omega)⟩⟩⟩⟩
   have HNZ:=Lib.hid hre
   obtain ⟨rfl,rfl⟩:=hbad hre
   obtain ⟨gbase,hgb⟩:∃gb,gb=w3.heap.size:=⟨_,rfl⟩
   have hgbw:w.heap.size+2<=gbase:=by rw [hgb];have:=hx1.size;have:=h3.size;omega
   obtain ⟨fl0,hfl0⟩:∃fl0:List Fl,fl0=[]:=⟨_,rfl⟩
   have hfl:fl0.length<=64:=by rw [hfl0];simp
   have hsl:∀W,Zn W gbase 5 (.slice none 0 0) fl0.length (Yt fl0):=fun W=>by rw [hfl0];exact Zn.of_own (World.ownsRow_nil W gbase 250 5)
   clear hbad hgood hsw hgb hmk hlen hre hfl0
   refine RgK.Xf Zl 17 [21,22,23] 3 (by kernel_rfl) (by kernel_rfl) (h03.trans (Kx e4)) ?_
   intro w1' hw1'
   simp only [Act.put,Rg.puC,Rg.puB]
   simp only [Zk,Rg.hsB,Nat.reduceBEq,Nat.reduceAdd,↓reduceIte]
   repeat (go_big_quiet_step (fail))
   refine wpQuiet_nil ?_
   intro hx4
   refine RgK.Xb 21 _ (.cells #[.pointer none,.pointer none] 103) (fun p=>.pointer (some ⟨p,0,none⟩)) (by intro w;go_simp) rfl (by kernel_rfl) (by decide) rfl ?_
   intro eb w5 h05 h5 heb0 heb hebb
   refine RgK.Z3 22 _ 103 _ _ rfl rfl rfl (by kernel_rfl) (by decide) rfl eb #[.pointer none,.pointer none] (by kernel_rfl) (by kernel_rfl) 103 _ (by kernel_rfl) (by rfl) (by rfl) hebb (Or.inr heb0) ?_
   intro w6 h06 k6 hs6
   refine RgK.Xv 23 _ (.slice none 0 0) rfl (by kernel_rfl) (by decide) rfl (fun w' _=>by go_simp) ?_
   intro w6b h06b e6b
   refine RgK.Zj (by kernel_rfl) ?_
   intro wy e7 e7'
   simp only [Act.put,Rg.puB]
   have hey:=e7'.at (e6b.at hs6)
   have E4y:Ext w4 wy:=e7.ext
   have hlt4:w4.heap.size<=eb:=heb0
   have E2y:Ext w2 wy:=Xt hx1 (Xt h3 (Xt e4 E4y))
   clear h03 hw1' hx4 h05 h5 heb hebb h06 k6 hs6 h06b e6b e7 e7' hw1
   have hwy:=E2y.at hH.row
   have hry:=E2y.at h2
   have EB:FrA base w wy:=FrA.of_ext (Xt e02 E2y)
   have ldh:=run_loadVar_row (P:=Tryz.prog) wy eb _ 103 _ _ _ hey Tryz.underlying103 rfl (by kernel_rfl)
   go_wp2_with (first
    | (refine Zd rfl 103 _ _ _ rfl rfl ldh ?_)
    | (refine Ze rfl rfl 103 _ _ rfl hw _ rfl rfl 137 _ hwy (by kernel_rfl) (by rfl) (by rfl) ?_
       intro w8 hb8 ho8 hs8))
   have B8:=hb8 hw wy (Nat.le_refl _) (Below.refl _ _)
   have K8:Keep [hw] wy w8:=⟨B8.os,B8.tape,B8.output,B8.size,fun k _ hk=>ho8 k (by simpa using hk)⟩
   have EB8:=Z8 EB K8 (fun x hx=>.inl (by rw [List.mem_singleton.1 hx];exact lo1))
   clear hb8 ho8 B8 ldh hey
   refine (Zbr gbase _ fl0 w8 hfl (hsl w8)).mono ?_
   rintro e w9 ⟨rfl,e9⟩
   have hr9:=e9.at (K8.at hry (by simp;omega))
   have hs9:=e9.at hs8
   have EB9:=Z8 EB8 (Kx (S:=[]) e9) (by simp)
   go_wp2_with (refine Ze rfl rfl 55 _ _ rfl (w.heap.size+1) _ rfl rfl 55 _ hr9 (by kernel_rfl) (by rfl) (by rfl) ?_
                intro wz hbz hoz hsz)
   have BZ:=hbz (w.heap.size+1) w9 (Nat.le_refl _) (Below.refl _ _)
   have KZ:Keep [w.heap.size+1] w9 wz:=⟨BZ.os,BZ.tape,BZ.output,BZ.size,fun k _ hk=>hoz k (by simpa using hk)⟩
   have EZ:=Z8 EB9 KZ (fun x hx=>.inr (by simp at hx;omega))
   exact Zt (w.heap.size+1) 55 _ _ _ rfl rfl hsz Tryz.underlying55 rfl (by kernel_rfl) rfl ⟨_,_,rfl,EZ,fun hz=>absurd hz HNZ.out⟩
 as_aux_lemma=>
  intro w3 h03 h3
  refine RgK.Zcd (.pointer (some ⟨w3.heap.size,0,none⟩)) (.cells #[.pointer none,.pointer none] 103) (by go_simp) ?_
  have ea:=Zc w3 (.cells #[.pointer none,.pointer none] 103)
  have ha:=Zb w3 (.cells #[.pointer none,.pointer none] 103)
  refine ⟨h03.trans (Kx ea),?_⟩
  obtain ⟨eb,hebe⟩:∃eb,eb=w3.heap.size:=⟨_,rfl⟩
  have heb2:w2.heap.size<=eb:=by have:=(Xt hx1 h3).size;omega
  rw [<-hebe] at ha ⊢
  refine RgK.Zv 16 146 _ #[.agg #[.pointer (some ⟨p,0,none⟩),.pointer (some ⟨pb,0,none⟩)],.int .u8 pa,.int .u8 pbb,.int .u8 ca,.int .u8 cb,.int .i64 am,.int .i64 mx] _ (by rfl) _ _ (by rfl) Tryz.func146 rfl (by kernel_rfl) (by kernel_rfl) rfl (by kernel_rfl) (by decide) ?_
  intro w3b h03b h3b
  refine (hsw w3b (Xt e02 (Xt hx1 (Xt h3 (Xt ea h3b))))).mono ?_
  rintro e w4 ⟨hv,av,rfl,e4,hbad,hgood⟩
  simp only at hbad hgood
  have hba:=(Xt h3b e4).at ha
  refine ⟨_,rfl,h03b.trans (Kx e4),?_⟩
  by_cases hre:re=0
  ·obtain ⟨p4,m4,pb4,g4,rfl,hL4,hB4,hsl,n1,n2,n3,hgn⟩:=hgood hre
   obtain ⟨A4,c4,rfl,hsl0⟩:=hsl
   have hsl:Zn w4 w3b.heap.size 5 (.slice A4 fl.length c4) fl.length (Yt fl):=⟨A4,c4,rfl,hsl0⟩
   have HOK:=Lib.hid hmk
   have hfl:fl.length<=64:=hlen hre
   obtain ⟨gbase,hgb⟩:∃gb,gb=w3b.heap.size:=⟨_,rfl⟩
   rw [<-hgb] at hsl n1 n2 n3 hgn
   have hgbw:w.heap.size+2<=gbase:=by have:=hx1.size;have:=h3.size;have:=ea.size;have:=h3b.size;omega
   have hebg:eb<gbase:=by have:=Zg ha;have:=h3b.size;omega
   clear hsl0 hbad hgood hsw hgb hmk hlen
   subst hre
   refine RgK.Vu [eb] Zl 17 [21,22,23] 2 (by kernel_rfl) (by kernel_rfl) (h03b.trans (Kx e4)) (fun x hx=>.inr (by rw [List.mem_singleton.1 hx];exact heb2)) ?_
   intro w1' hw1'
   simp only [Act.put,Rg.puC,Rg.puB]
   simp only [Zk,Rg.hsB,Nat.reduceBEq,Nat.reduceAdd,↓reduceIte]
   repeat (go_big_quiet_step (fail))
   refine wpQuiet_nil ?_
   intro hx4
   refine RgK.Z3 22 _ 103 _ _ rfl rfl rfl (by kernel_rfl) (by decide) rfl eb #[.pointer (some ⟨p4,0,none⟩),.pointer (some ⟨pb4,0,none⟩)] (by kernel_rfl) (by kernel_rfl) 103 _ (by kernel_rfl) (by rfl) (by rfl) (hx4.at hba) (Or.inl (by simp)) ?_
   intro w6 h06 k6 hs6
   refine RgK.Xv 23 _ (.slice A4 fl.length c4) rfl (by kernel_rfl) (by decide) rfl (fun w' _=>by go_simp) ?_
   intro w6b h06b e6b
   refine RgK.Zj (by kernel_rfl) ?_
   intro wy e7 e7'
   simp only [Act.put,Rg.puB]
   have hey:=e7'.at (e6b.at hs6)
   have K4y:Keep [eb] w4 wy:=e7
   have E2y:Ext w2 wy:=(Keep.trans_fresh (S:=[]) (Kx (Xt hx1 (Xt h3 (Xt ea (Xt h3b e4))))) K4y (fun x hx=>.inr (by rw [List.mem_singleton.1 hx];exact heb2))).ext
   clear h03 hw1' hx4 h06 k6 hs6 h06b e6b e7 e7' hw1 hba ha ea hebe h03b
   have hwy:=E2y.at hH.row
   have hry:=E2y.at h2
   have EB:FrA base w wy:=FrA.of_ext (Xt e02 E2y)
   have hap4:=U3 hL4 hB4
   have hL4:=hL4.keep K4y (by simp;omega) (by simp;omega)
   have hB4:=hB4.keep K4y (by simp;omega) (fun x hx=>by have:=hgn x hx;simp;omega)
   have hsl:=hsl.keepS K4y (by simp;omega)
   have ldh:=run_loadVar_row (P:=Tryz.prog) wy eb _ 103 _ _ _ hey Tryz.underlying103 rfl (by kernel_rfl)
   go_wp2_with (first
    | (refine Zd rfl 103 _ _ _ rfl rfl ldh ?_)
    | (refine Ze rfl rfl 103 _ _ rfl hw _ rfl rfl 137 _ hwy (by kernel_rfl) (by rfl) (by rfl) ?_
       intro w8 hb8 ho8 hs8))
   have B8:=hb8 hw wy (Nat.le_refl _) (Below.refl _ _)
   have K8:Keep [hw] wy w8:=⟨B8.os,B8.tape,B8.output,B8.size,fun k _ hk=>ho8 k (by simpa using hk)⟩
   have EB8:=Z8 EB K8 (fun x hx=>.inl (by rw [List.mem_singleton.1 hx];exact lo1))
   clear hb8 ho8 B8 ldh hey
   refine (Zbr gbase _ fl w8 hfl (hsl.keepS K8 (by simp;omega))).mono ?_
   rintro e w9 ⟨rfl,e9⟩
   have hr9:=e9.at (K8.at hry (by simp;omega))
   have hs9:=e9.at hs8
   have EB9:=Z8 EB8 (Kx (S:=[]) e9) (by simp)
   go_wp2_with (refine Ze rfl rfl 55 _ _ rfl (w.heap.size+1) _ rfl rfl 55 _ hr9 (by kernel_rfl) (by rfl) (by rfl) ?_
                intro wz hbz hoz hsz)
   have BZ:=hbz (w.heap.size+1) w9 (Nat.le_refl _) (Below.refl _ _)
   have KZ:Keep [w.heap.size+1] w9 wz:=⟨BZ.os,BZ.tape,BZ.output,BZ.size,fun k _ hk=>hoz k (by simpa using hk)⟩
   have EZ:=Z8 EB9 KZ (fun x hx=>.inr (by simp at hx;omega))
   have KA:Keep [w.heap.size+1,hw] wy wz:=((K8.mono (fun x hx=>by simp at hx ⊢;omega)).trans (Kx e9)).trans (KZ.mono (fun x hx=>by simp at hx ⊢;omega))
   exact Zt (w.heap.size+1) 55 _ _ _ rfl rfl hsz Tryz.underlying55 rfl (by kernel_rfl) rfl ⟨_,_,rfl,EZ,fun _=>⟨rfl,p4,m4,pb4,g4,⟨KZ.at hs9 (by simp;omega),hL4.keep KA (by simp;omega) (by simp;omega),hB4.keep KA (by simp;omega) (fun x hx=>by have:=hgn x hx;simp;omega),HOK.out,⟨lo1,hb _ (by omega),hb _ (by omega),hb _ (by omega),fun x hx=>hb _ (by have:=hgn x hx;omega)⟩⟩⟩⟩
  have HNZ:=Lib.hid hre
  obtain ⟨rfl,rfl⟩:=hbad hre
  obtain ⟨gbase,hgb⟩:∃gb,gb=w3b.heap.size:=⟨_,rfl⟩
  have hgbw:w.heap.size+2<=gbase:=by rw [hgb];have:=hx1.size;have:=h3.size;have:=ea.size;have:=h3b.size;omega
  obtain ⟨fl0,hfl0⟩:∃fl0:List Fl,fl0=[]:=⟨_,rfl⟩
  have hfl:fl0.length<=64:=by rw [hfl0];simp
  have hsl:∀W,Zn W gbase 5 (.slice none 0 0) fl0.length (Yt fl0):=fun W=>by rw [hfl0];exact Zn.of_own (World.ownsRow_nil W gbase 250 5)
  clear hbad hgood hsw hgb hmk hlen hre hfl0
  refine RgK.Vu [eb] Zl 17 [21,22,23] 2 (by kernel_rfl) (by kernel_rfl) (h03b.trans (Kx e4)) (fun x hx=>.inr (by rw [List.mem_singleton.1 hx];exact heb2)) ?_
  intro w1' hw1'
  simp only [Act.put,Rg.puC,Rg.puB]
  simp only [Zk,Rg.hsB,Nat.reduceBEq,Nat.reduceAdd,↓reduceIte]
  repeat (go_big_quiet_step (fail))
  refine wpQuiet_nil ?_
  intro hx4
  refine RgK.Z3 22 _ 103 _ _ rfl rfl rfl (by kernel_rfl) (by decide) rfl eb #[.pointer none,.pointer none] (by kernel_rfl) (by kernel_rfl) 103 _ (by kernel_rfl) (by rfl) (by rfl) (hx4.at hba) (Or.inl (by simp)) ?_
  intro w6 h06 k6 hs6
  refine RgK.Xv 23 _ (.slice none 0 0) rfl (by kernel_rfl) (by decide) rfl (fun w' _=>by go_simp) ?_
  intro w6b h06b e6b
  refine RgK.Zj (by kernel_rfl) ?_
  intro wy e7 e7'
  simp only [Act.put,Rg.puB]
  have hey:=e7'.at (e6b.at hs6)
  have K4y:Keep [eb] w4 wy:=e7
  have E2y:Ext w2 wy:=(Keep.trans_fresh (S:=[]) (Kx (Xt hx1 (Xt h3 (Xt ea (Xt h3b e4))))) K4y (fun x hx=>.inr (by rw [List.mem_singleton.1 hx];exact heb2))).ext
  clear h03 hw1' hx4 h06 k6 hs6 h06b e6b e7 e7' hw1 hba ha ea hebe h03b
  have hwy:=E2y.at hH.row
  have hry:=E2y.at h2
  have EB:FrA base w wy:=FrA.of_ext (Xt e02 E2y)
  have ldh:=run_loadVar_row (P:=Tryz.prog) wy eb _ 103 _ _ _ hey Tryz.underlying103 rfl (by kernel_rfl)
  go_wp2_with (first
   | (refine Zd rfl 103 _ _ _ rfl rfl ldh ?_)
   | (refine Ze rfl rfl 103 _ _ rfl hw _ rfl rfl 137 _ hwy (by kernel_rfl) (by rfl) (by rfl) ?_
      intro w8 hb8 ho8 hs8))
  have B8:=hb8 hw wy (Nat.le_refl _) (Below.refl _ _)
  have K8:Keep [hw] wy w8:=⟨B8.os,B8.tape,B8.output,B8.size,fun k _ hk=>ho8 k (by simpa using hk)⟩
  have EB8:=Z8 EB K8 (fun x hx=>.inl (by rw [List.mem_singleton.1 hx];exact lo1))
  clear hb8 ho8 B8 ldh hey
  refine (Zbr gbase _ fl0 w8 hfl (hsl w8)).mono ?_
  rintro e w9 ⟨rfl,e9⟩
  have hr9:=e9.at (K8.at hry (by simp;omega))
  have hs9:=e9.at hs8
  have EB9:=Z8 EB8 (Kx (S:=[]) e9) (by simp)
  go_wp2_with (refine Ze rfl rfl 55 _ _ rfl (w.heap.size+1) _ rfl rfl 55 _ hr9 (by kernel_rfl) (by rfl) (by rfl) ?_
               intro wz hbz hoz hsz)
  have BZ:=hbz (w.heap.size+1) w9 (Nat.le_refl _) (Below.refl _ _)
  have KZ:Keep [w.heap.size+1] w9 wz:=⟨BZ.os,BZ.tape,BZ.output,BZ.size,fun k _ hk=>hoz k (by simpa using hk)⟩
  have EZ:=Z8 EB9 KZ (fun x hx=>.inr (by simp at hx;omega))
  exact Zt (w.heap.size+1) 55 _ _ _ rfl rfl hsz Tryz.underlying55 rfl (by kernel_rfl) rfl ⟨_,_,rfl,EZ,fun hz=>absurd hz HNZ.out⟩
theorem Zl1 (l:List Fl) (k:Nat) (hk:k<l.length):Znb (l.take (k+1))=wrap64 (Znb (l.take k)+(l[k]'hk).2.2.2.1):=by
 unfold Znb
 rw [List.take_succ_eq_append_getElem hk,List.foldl_append]
 rfl
theorem Zp3 (base:Nat->Prop) (hw p m pb:Nat) (g:Option Nat) (L:Led) (B:Bk) (s:Stp) (w:World) (h:IsH w base hw p m pb g L B) (hb:∀x,w.heap.size<=x->base x) (hin:s.In):Calls Tryz.prog 95 #[.pointer (some ⟨hw,0,none⟩),s.agg] w
 (Zhw base hw ((Znb (Ul L B s.off).2.2.2.2,wrap64 (Ul L B s.off).2.1),(Ul L B s.off).1,(Ul L B s.off).2.2.1,(Ul L B s.off).2.2.2.1) w):=by
 obtain ⟨kd,pa,pbb,ca,cb,am,mx,nu,de,sq⟩:=s
 obtain ⟨in1,in2,in3,in4⟩:=hin
 simp only at in1 in2 in3 in4
 simp only [Stp.agg,Stp.off]
 have hlen:=fun h0=>(come_ok (o:=⟨0,pa,ca,cb,am,nu,de⟩) h.ok.wf h.ok.ok h.ok.sq h0)
 have hsw:=fun W (kk:Ext w W)=>come_anyF p m pb g L B ⟨0,pa,ca,cb,am,nu,de⟩ W (h.led.ext kk) (h.book.ext kk) h.ok.wf h.ok.ok h.ok.sq.1 in3 in4 in1
 have hmk:=mok_come h.ok ⟨0,pa,ca,cb,am,nu,de⟩
 generalize Ul L B ⟨0,pa,ca,cb,am,nu,de⟩=r at *
 obtain ⟨re,rq,rL,rB,fl⟩:=r
 simp only at hmk
 have hlen2:re=0->fl.length<=64:=fun h0=>by
  obtain ⟨_,_,hh⟩:=hlen h0
  exact hh.few
 clear hlen
 simp only [Off.agg] at hsw
 obtain ⟨W,hW,e0,h0,s0⟩:=Y8 w #[.int .u8 kd,.int .u8 pa,.int .u8 pbb,.int .u8 ca,.int .u8 cb,.int .i64 am,.int .i64 mx,.int .i64 nu,.int .i64 de,.int .u64 sq] 30
 have HW:=Lib.hid hW
 clear hW
 go_enter Tryz.func95,Tryz.ntmps95
 go_wp2_with (first
  | (refine Zu rfl 55 rfl (.cells #[.int .i64 0,.int .i64 0] 55) _ rfl (by go_simp) ?_
     rw [HW.out]
     intro w2 e2 h2
     rw [s0] at h2))
 have h02:=e2.at h0
 have e02:=Xt e0 e2
 have hH:=h.ext e02
 have s2:=Zg h2
 clear e0 h0 e2 HW s0
 have hhl:=Zg h.row
 obtain ⟨lo1,lo2,lo3,lo4,lo5⟩:=h.lo
 have s02:=e02.size
 refine RgK.Zh ([]:List Nat) Zl 25 [15,16,17,18,19,20,21,22,23,24] (by kernel_rfl) (by kernel_rfl) (by kernel_rfl) ?_
 intro w1 hw1
 have q0:∀u:KeepOf ([]:List Nat) w1,u.to.heap[w.heap.size]? =_:=fun u=>(hw1.trans u.h).at h02 (by simp)
 have d1:=fun u:KeepOf ([]:List Nat) w1=>Za (j:=1) (q0 u) rfl
 have d3:=fun u:KeepOf ([]:List Nat) w1=>Za (j:=3) (q0 u) rfl
 have d4:=fun u:KeepOf ([]:List Nat) w1=>Za (j:=4) (q0 u) rfl
 have d5:=fun u:KeepOf ([]:List Nat) w1=>Za (j:=5) (q0 u) rfl
 have ldw:∀w2,U9 ([]:List Nat) w1 w2->(loadVar 103 ⟨hw,0,none⟩).run Tryz.prog w2= .ok (.agg #[.pointer (some ⟨p,0,none⟩),.pointer (some ⟨pb,0,none⟩)]) w2:=by
  rintro _ ⟨u,rfl⟩
  exact Zek ((hw1.trans u.h).at hH.row (by simp))
 have ldr:∀w2,U9 ([]:List Nat) w1 w2->(loadVar 27 ⟨w.heap.size,7,none⟩).run Tryz.prog w2= .ok (.agg #[.int .i64 nu,.int .i64 de]) w2:=by
  rintro _ ⟨u,rfl⟩
  exact Zs u.to w.heap.size 7 27 [.int .i64 nu,.int .i64 de] _ (fun j v hv=>by
   match j,hv with
   | 0,hv=>exact (Za (j:=7) (q0 u) rfl).trans hv
   | 1,hv=>exact (Za (j:=8) (q0 u) rfl).trans hv) Tryz.underlying27 rfl (by kernel_rfl)
 clear q0
 simp only [Zk,Rg.hsB,Nat.reduceBEq,Nat.reduceAdd,↓reduceIte]
 repeat (first | go_big_quiet_step (fail) | (go_big_quiet_want;(first | refine Z0 103 _ _ _ rfl rfl ldw ?_ | refine Z0 27 _ _ _ rfl rfl ldr ?_);go_big_quiet_on;simp only [Act.put,Rg.puB]))
 refine wpQuiet_nil ?_
 intro hx1
 clear ldw ldr d1 d3 d4 d5
 refine RgK.Za0 15 21 _ _ (by kernel_rfl) (by decide) (by decide) (by rfl) (by rfl) rfl rfl ?_ ?_
 ·as_aux_lemma=>
   intro w3 h03 h3
   refine RgK.Vs 148 _ #[.agg #[.pointer (some ⟨p,0,none⟩),.pointer (some ⟨pb,0,none⟩)],.agg #[.int .u64 0,.int .u8 pa,.int .u8 ca,.int .u8 cb,.int .i64 am,.int .i64 nu,.int .i64 de]] _ _ (by rfl) Tryz.func148 rfl (by kernel_rfl) (by kernel_rfl) ?_
   refine (hsw w3 (Xt e02 (Xt hx1 h3))).mono ?_
   rintro e w4 ⟨hv,av,rfl,e4,hbad,hgood⟩
   simp only at hbad hgood
   refine ⟨_,rfl,h03.trans (Kx e4),?_⟩
   by_cases hre:re=0
   ·obtain ⟨p4,m4,pb4,g4,rfl,hL4,hB4,hsl,n1,n2,n3,hgn⟩:=hgood hre
    obtain ⟨A4,c4,rfl,hsl0⟩:=hsl
    have hsl:Zn w4 w3.heap.size 5 (.slice A4 fl.length c4) fl.length (Yt fl):=⟨A4,c4,rfl,hsl0⟩
    have HOK:=Lib.hid hmk
    have hfl:fl.length<=64:=hlen2 hre
    obtain ⟨gbase,hgb⟩:∃gb,gb=w3.heap.size:=⟨_,rfl⟩
    rw [<-hgb] at hsl n1 n2 n3 hgn
    have hgbw:w.heap.size+2<=gbase:=by have:=hx1.size;have:=h3.size;omega
    clear hsl0 hbad hgood hsw hgb hmk hlen2
    subst hre
    refine RgK.Xf Zl 16 [21,22,23,24] 4 (by kernel_rfl) (by kernel_rfl) (h03.trans (Kx e4)) ?_
    intro w1' hw1'
    simp only [Act.put,Rg.puC,Rg.puB]
    simp only [Zk,Rg.hsB,Nat.reduceBEq,Nat.reduceAdd,↓reduceIte]
    repeat (go_big_quiet_step (fail))
    refine wpQuiet_nil ?_
    intro hx4
    refine RgK.Xb 21 _ (.cells #[.pointer none,.pointer none] 103) (fun p=>.pointer (some ⟨p,0,none⟩)) (by intro w;go_simp) rfl (by kernel_rfl) (by decide) rfl ?_
    intro eb w5 h05 h5 heb0 heb hebb
    refine RgK.Z3 22 _ 103 _ _ rfl rfl rfl (by kernel_rfl) (by decide) rfl eb #[.pointer (some ⟨p4,0,none⟩),.pointer (some ⟨pb4,0,none⟩)] (by kernel_rfl) (by kernel_rfl) 103 _ (by kernel_rfl) (by rfl) (by rfl) hebb (Or.inr heb0) ?_
    intro w6 h06 k6 hs6
    refine RgK.Xv 23 _ (.slice A4 fl.length c4) rfl (by kernel_rfl) (by decide) rfl (fun w' _=>by go_simp) ?_
    intro w6a h06a e6a
    refine RgK.Xv 24 _ (.int .u64 rq) rfl (by kernel_rfl) (by decide) rfl (fun w' _=>by go_simp) ?_
    intro w6b h06b e6b0
    have e6b:=Xt e6a e6b0
    refine RgK.Zj (by kernel_rfl) ?_
    intro wy e7 e7'
    simp only [Act.put,Rg.puB]
    have hey:=e7'.at (e6b.at hs6)
    have E4y:Ext w4 wy:=e7.ext
    have hlt4:w4.heap.size<=eb:=heb0
    have E2y:Ext w2 wy:=Xt hx1 (Xt h3 (Xt e4 E4y))
    clear h03 hw1' hx4 h05 h5 heb hebb h06 k6 hs6 h06a h06b e6a e6b0 e6b e7 e7' hw1
    have hwy:=E2y.at hH.row
    have hry:=E2y.at h2
    have EB:FrA base w wy:=FrA.of_ext (Xt e02 E2y)
    have hL4:=hL4.ext E4y
    have hB4:=hB4.ext E4y
    have hsl:=hsl.ext E4y
    have ldh:=run_loadVar_row (P:=Tryz.prog) wy eb _ 103 _ _ _ hey Tryz.underlying103 rfl (by kernel_rfl)
    have hzg:∀W:World,(W.alloc (.cells #[.int .i64 0,.int .i64 0] 55)).heap[W.heap.size]? =some (.cells #[.int .i64 0,.int .i64 0] 55):=fun W=>Zb W _
    go_wp2_with (first
     | (refine Zd rfl 103 _ _ _ rfl rfl ldh ?_)
     | (refine Ze rfl rfl 103 _ _ rfl hw _ rfl rfl 137 _ hwy (by kernel_rfl) (by rfl) (by rfl) ?_
        intro w8 hb8 ho8 hs8)
     | (refine Zu rfl 55 rfl (.cells #[.int .i64 0,.int .i64 0] 55) _ rfl (by go_simp) ?_
        intro w9 e9 hr9)
     | (refine Ze rfl rfl 55 _ _ rfl w8.heap.size _ rfl rfl 55 _ hr9 (by kernel_rfl) (by rfl) (by rfl) ?_
        intro w10 hb10 ho10 hs10))
    have B8:=hb8 hw wy (Nat.le_refl _) (Below.refl _ _)
    have K8:Keep [hw] wy w8:=⟨B8.os,B8.tape,B8.output,B8.size,fun k _ hk=>ho8 k (by simpa using hk)⟩
    have EB8:=Z8 EB K8 (fun x hx=>.inl (by rw [List.mem_singleton.1 hx];exact lo1))
    have e10:Ext w8 w10:=hb10 _ _ (Nat.le_refl _) e9
    have hr8:=K8.at hry (by simp;omega)
    have hsz8:=B8.size
    have hwyl:=Zg hry
    obtain ⟨rg,hrg⟩:∃rg,rg=w8.heap.size:=⟨_,rfl⟩
    rw [<-hrg] at hs10 ⊢
    have hrg8:w8.heap.size<=rg:=by omega
    have hrgw:w.heap.size+1<rg:=by omega
    clear hrg hb8 ho8 B8 ldh hey hb10 ho10 e9 hr9 hzg
    have hsl8:=hsl.keepS K8 (by simp;omega)
    obtain ⟨A5,c5,hv5,q1,q2,q3,q4⟩:=hsl8
    injection hv5 with hA5 _ hc5
    subst hA5 hc5
    have hn63:(fl.length:Int)<=9223372036854775807:=by omega
    go_loopw [12,43,44,45,46,47,48,49,50,51,52,53] (fun _ iv _ _ _ _ _ _ _ _ _ _ wr=>∃k:Nat,k<=fl.length/\iv= .int .i64 k/\Ext w8 wr/\wr.heap[rg]? =some (.cells #[.int .i64 (Znb (fl.take k)),.int .i64 (wrap64 rq)] 55 (0,0))) (fun _ iv _ _ _ _ _ _ _ _ _ _ _=>fl.length-(intOf iv).toNat)
    case atStart=>exact ⟨0,Nat.zero_le _,rfl,e10,hs10⟩
    obtain ⟨k,hk,rfl,er,hrr⟩:=hrel
    by_cases hkn:k<fl.length
    ·rcases q4 with q4 | ⟨g5,rfl,hb5,hlt5,hcell5⟩
     ·omega
     have hld:=Zmx wr g5 k fl hkn (fun j u hu=>(Zf (er.block hlt5)).trans (hcell5 j u hu))
     have HGW:=Lib.hid (Zl1 fl k hkn)
     generalize fl[k]'hkn=f at *
     obtain ⟨f0,f1,f2,f3,f4⟩:=f
     simp only [Fagg] at hld
     generalize Znb (fl.take k)=gk at *
     have hz5:=Zb wr (.cells #[.int .u64 0,.int .u8 0,.int .u8 0,.int .i64 0,.int .i64 0] 250)
     have ez5:=Zc wr (.cells #[.int .u64 0,.int .u8 0,.int .u8 0,.int .i64 0,.int .i64 0] 250)
     have k0:(0:Int)<=(k:Int):=by omega
     have k1:(k:Int)<(fl.length:Int):=by omega
     have k2:decide ((k:Int)<(fl.length:Int))=true:=by simpa using hkn
     clear hcell5
     go_wp2_with (first
      | (refine Zd rfl 250 _ _ _ rfl rfl hld ?_)
      | (refine Ze rfl rfl 250 _ _ rfl wr.heap.size _ rfl rfl 250 _ hz5 (by kernel_rfl) (by rfl) (by rfl) ?_
         intro w5 hb5 ho5 hs5
         have e5:Ext wr w5:=hb5 _ _ (Nat.le_refl _) ez5
         have z3:=Za (j:=3) hs5 rfl
         have hr5:=e5.at hrr
         have z0:=Za (j:=0) hr5 rfl
         have f0':=frozen_of_row w5 rg 0 _ _ hr5))
     refine ⟨⟨k+1,by omega,by go_num,Below.setCell (Xt er e5) (p:=⟨rg,0,none⟩) hrg8 _,?_⟩,by simp [intOf];omega⟩
     rw [HGW.out]
     exact heap_setCell_same w5 rg 0 _ _ _ hr5
    have hk':k=fl.length:=by omega
    subst hk'
    rw [List.take_length] at hrr
    have hk3:decide ((fl.length:Int)<(fl.length:Int))=false:=by simp
    have ldg:=run_loadVar_row (P:=Tryz.prog) wr rg _ 55 _ _ _ hrr Tryz.underlying55 rfl (by kernel_rfl)
    have hr4:=er.at hr8
    go_wp2_with (first
     | (refine Zd rfl 55 _ _ _ rfl rfl ldg ?_)
     | (refine Ze rfl rfl 55 _ _ rfl (w.heap.size+1) _ rfl rfl 55 _ hr4 (by kernel_rfl) (by rfl) (by rfl) ?_
        intro wz hbz hoz hsz))
    have EB9:=Z8 EB8 (Kx (S:=[]) er) (by simp)
    have BZ:=hbz (w.heap.size+1) wr (Nat.le_refl _) (Below.refl _ _)
    have KZ:Keep [w.heap.size+1] wr wz:=⟨BZ.os,BZ.tape,BZ.output,BZ.size,fun k _ hk=>hoz k (by simpa using hk)⟩
    have EZ:=Z8 EB9 KZ (fun x hx=>.inr (by simp at hx;omega))
    have KA:Keep [w.heap.size+1,hw] wy wz:=((K8.mono (fun x hx=>by simp at hx ⊢;omega)).trans (Kx er)).trans (KZ.mono (fun x hx=>by simp at hx ⊢;omega))
    exact Zt (w.heap.size+1) 55 _ _ _ rfl rfl hsz Tryz.underlying55 rfl (by kernel_rfl) rfl ⟨_,_,rfl,EZ,fun _=>⟨rfl,p4,m4,pb4,g4,⟨KZ.at (er.at hs8) (by simp;omega),hL4.keep KA (by simp;omega) (by simp;omega),hB4.keep KA (by simp;omega) (fun x hx=>by have:=hgn x hx;simp;omega),HOK.out,⟨lo1,hb _ (by omega),hb _ (by omega),hb _ (by omega),fun x hx=>hb _ (by have:=hgn x hx;omega)⟩⟩⟩⟩
   have HNZ:=Lib.hid hre
   obtain ⟨rfl,rfl⟩:=hbad hre
   obtain ⟨gbase,hgb⟩:∃gb,gb=w3.heap.size:=⟨_,rfl⟩
   have hgbw:w.heap.size+2<=gbase:=by rw [hgb];have:=hx1.size;have:=h3.size;omega
   obtain ⟨fl0,hfl0⟩:∃fl0:List Fl,fl0=[]:=⟨_,rfl⟩
   have hfl:fl0.length<=64:=by rw [hfl0];simp
   have hsl:∀W,Zn W gbase 5 (.slice none 0 0) fl0.length (Yt fl0):=fun W=>by rw [hfl0];exact Zn.of_own (World.ownsRow_nil W gbase 250 5)
   clear hbad hgood hsw hgb hmk hlen2 hre hfl0
   refine RgK.Xf Zl 16 [21,22,23,24] 4 (by kernel_rfl) (by kernel_rfl) (h03.trans (Kx e4)) ?_
   intro w1' hw1'
   simp only [Act.put,Rg.puC,Rg.puB]
   simp only [Zk,Rg.hsB,Nat.reduceBEq,Nat.reduceAdd,↓reduceIte]
   repeat (go_big_quiet_step (fail))
   refine wpQuiet_nil ?_
   intro hx4
   refine RgK.Xb 21 _ (.cells #[.pointer none,.pointer none] 103) (fun p=>.pointer (some ⟨p,0,none⟩)) (by intro w;go_simp) rfl (by kernel_rfl) (by decide) rfl ?_
   intro eb w5 h05 h5 heb0 heb hebb
   refine RgK.Z3 22 _ 103 _ _ rfl rfl rfl (by kernel_rfl) (by decide) rfl eb #[.pointer none,.pointer none] (by kernel_rfl) (by kernel_rfl) 103 _ (by kernel_rfl) (by rfl) (by rfl) hebb (Or.inr heb0) ?_
   intro w6 h06 k6 hs6
   refine RgK.Xv 23 _ (.slice none 0 0) rfl (by kernel_rfl) (by decide) rfl (fun w' _=>by go_simp) ?_
   intro w6a h06a e6a
   refine RgK.Xv 24 _ (.int .u64 rq) rfl (by kernel_rfl) (by decide) rfl (fun w' _=>by go_simp) ?_
   intro w6b h06b e6b0
   have e6b:=Xt e6a e6b0
   refine RgK.Zj (by kernel_rfl) ?_
   intro wy e7 e7'
   simp only [Act.put,Rg.puB]
   have hey:=e7'.at (e6b.at hs6)
   have E4y:Ext w4 wy:=e7.ext
   have hlt4:w4.heap.size<=eb:=heb0
   have E2y:Ext w2 wy:=Xt hx1 (Xt h3 (Xt e4 E4y))
   clear h03 hw1' hx4 h05 h5 heb hebb h06 k6 hs6 h06a h06b e6a e6b0 e6b e7 e7' hw1
   have hwy:=E2y.at hH.row
   have hry:=E2y.at h2
   have EB:FrA base w wy:=FrA.of_ext (Xt e02 E2y)
   have ldh:=run_loadVar_row (P:=Tryz.prog) wy eb _ 103 _ _ _ hey Tryz.underlying103 rfl (by kernel_rfl)
   have hzg:∀W:World,(W.alloc (.cells #[.int .i64 0,.int .i64 0] 55)).heap[W.heap.size]? =some (.cells #[.int .i64 0,.int .i64 0] 55):=fun W=>Zb W _
   go_wp2_with (first
    | (refine Zd rfl 103 _ _ _ rfl rfl ldh ?_)
    | (refine Ze rfl rfl 103 _ _ rfl hw _ rfl rfl 137 _ hwy (by kernel_rfl) (by rfl) (by rfl) ?_
       intro w8 hb8 ho8 hs8)
    | (refine Zu rfl 55 rfl (.cells #[.int .i64 0,.int .i64 0] 55) _ rfl (by go_simp) ?_
       intro w9 e9 hr9)
    | (refine Ze rfl rfl 55 _ _ rfl w8.heap.size _ rfl rfl 55 _ hr9 (by kernel_rfl) (by rfl) (by rfl) ?_
       intro w10 hb10 ho10 hs10))
   have B8:=hb8 hw wy (Nat.le_refl _) (Below.refl _ _)
   have K8:Keep [hw] wy w8:=⟨B8.os,B8.tape,B8.output,B8.size,fun k _ hk=>ho8 k (by simpa using hk)⟩
   have EB8:=Z8 EB K8 (fun x hx=>.inl (by rw [List.mem_singleton.1 hx];exact lo1))
   have e10:Ext w8 w10:=hb10 _ _ (Nat.le_refl _) e9
   have hr8:=K8.at hry (by simp;omega)
   have hsz8:=B8.size
   have hwyl:=Zg hry
   obtain ⟨rg,hrg⟩:∃rg,rg=w8.heap.size:=⟨_,rfl⟩
   rw [<-hrg] at hs10 ⊢
   have hrg8:w8.heap.size<=rg:=by omega
   have hrgw:w.heap.size+1<rg:=by omega
   clear hrg hb8 ho8 B8 ldh hey hb10 ho10 e9 hr9 hzg
   go_loopw [12,43,44,45,46,47,48,49,50,51,52,53] (fun _ iv _ _ _ _ _ _ _ _ _ _ wr=>iv= .int .i64 0/\Ext w8 wr/\wr.heap[rg]? =some (.cells #[.int .i64 0,.int .i64 (wrap64 rq)] 55 (0,0))) (fun _ iv _ _ _ _ _ _ _ _ _ _ _=>0)
   case atStart=>exact ⟨rfl,e10,hs10⟩
   obtain ⟨rfl,er,hrr⟩:=hrel
   have ldg:=run_loadVar_row (P:=Tryz.prog) wr rg _ 55 _ _ _ hrr Tryz.underlying55 rfl (by kernel_rfl)
   have hr4:=er.at hr8
   go_wp2_with (first
    | (refine Zd rfl 55 _ _ _ rfl rfl ldg ?_)
    | (refine Ze rfl rfl 55 _ _ rfl (w.heap.size+1) _ rfl rfl 55 _ hr4 (by kernel_rfl) (by rfl) (by rfl) ?_
       intro wz hbz hoz hsz))
   have EB9:=Z8 EB8 (Kx (S:=[]) er) (by simp)
   have BZ:=hbz (w.heap.size+1) wr (Nat.le_refl _) (Below.refl _ _)
   have KZ:Keep [w.heap.size+1] wr wz:=⟨BZ.os,BZ.tape,BZ.output,BZ.size,fun k _ hk=>hoz k (by simpa using hk)⟩
   have EZ:=Z8 EB9 KZ (fun x hx=>.inr (by simp at hx;omega))
   exact Zt (w.heap.size+1) 55 _ _ _ rfl rfl hsz Tryz.underlying55 rfl (by kernel_rfl) rfl ⟨_,_,rfl,EZ,fun hz=>absurd hz HNZ.out⟩
 as_aux_lemma=>
  intro w3 h03 h3
  refine RgK.Zcd (.pointer (some ⟨w3.heap.size,0,none⟩)) (.cells #[.pointer none,.pointer none] 103) (by go_simp) ?_
  have ea:=Zc w3 (.cells #[.pointer none,.pointer none] 103)
  have ha:=Zb w3 (.cells #[.pointer none,.pointer none] 103)
  refine ⟨h03.trans (Kx ea),?_⟩
  obtain ⟨eb,hebe⟩:∃eb,eb=w3.heap.size:=⟨_,rfl⟩
  have heb2:w2.heap.size<=eb:=by have:=(Xt hx1 h3).size;omega
  rw [<-hebe] at ha ⊢
  refine RgK.Zv 15 148 _ #[.agg #[.pointer (some ⟨p,0,none⟩),.pointer (some ⟨pb,0,none⟩)],.agg #[.int .u64 0,.int .u8 pa,.int .u8 ca,.int .u8 cb,.int .i64 am,.int .i64 nu,.int .i64 de]] _ (by rfl) _ _ (by rfl) Tryz.func148 rfl (by kernel_rfl) (by kernel_rfl) rfl (by kernel_rfl) (by decide) ?_
  intro w3b h03b h3b
  refine (hsw w3b (Xt e02 (Xt hx1 (Xt h3 (Xt ea h3b))))).mono ?_
  rintro e w4 ⟨hv,av,rfl,e4,hbad,hgood⟩
  simp only at hbad hgood
  have hba:=(Xt h3b e4).at ha
  refine ⟨_,rfl,h03b.trans (Kx e4),?_⟩
  by_cases hre:re=0
  ·obtain ⟨p4,m4,pb4,g4,rfl,hL4,hB4,hsl,n1,n2,n3,hgn⟩:=hgood hre
   obtain ⟨A4,c4,rfl,hsl0⟩:=hsl
   have hsl:Zn w4 w3b.heap.size 5 (.slice A4 fl.length c4) fl.length (Yt fl):=⟨A4,c4,rfl,hsl0⟩
   have HOK:=Lib.hid hmk
   have hfl:fl.length<=64:=hlen2 hre
   obtain ⟨gbase,hgb⟩:∃gb,gb=w3b.heap.size:=⟨_,rfl⟩
   rw [<-hgb] at hsl n1 n2 n3 hgn
   have hgbw:w.heap.size+2<=gbase:=by have:=hx1.size;have:=h3.size;have:=ea.size;have:=h3b.size;omega
   have hebg:eb<gbase:=by have:=Zg ha;have:=h3b.size;omega
   clear hsl0 hbad hgood hsw hgb hmk hlen2
   subst hre
   refine RgK.Vu [eb] Zl 16 [21,22,23,24] 3 (by kernel_rfl) (by kernel_rfl) (h03b.trans (Kx e4)) (fun x hx=>.inr (by rw [List.mem_singleton.1 hx];exact heb2)) ?_
   intro w1' hw1'
   simp only [Act.put,Rg.puC,Rg.puB]
   simp only [Zk,Rg.hsB,Nat.reduceBEq,Nat.reduceAdd,↓reduceIte]
   repeat (go_big_quiet_step (fail))
   refine wpQuiet_nil ?_
   intro hx4
   refine RgK.Z3 22 _ 103 _ _ rfl rfl rfl (by kernel_rfl) (by decide) rfl eb #[.pointer (some ⟨p4,0,none⟩),.pointer (some ⟨pb4,0,none⟩)] (by kernel_rfl) (by kernel_rfl) 103 _ (by kernel_rfl) (by rfl) (by rfl) (hx4.at hba) (Or.inl (by simp)) ?_
   intro w6 h06 k6 hs6
   refine RgK.Xv 23 _ (.slice A4 fl.length c4) rfl (by kernel_rfl) (by decide) rfl (fun w' _=>by go_simp) ?_
   intro w6a h06a e6a
   refine RgK.Xv 24 _ (.int .u64 rq) rfl (by kernel_rfl) (by decide) rfl (fun w' _=>by go_simp) ?_
   intro w6b h06b e6b0
   have e6b:=Xt e6a e6b0
   refine RgK.Zj (by kernel_rfl) ?_
   intro wy e7 e7'
   simp only [Act.put,Rg.puB]
   have hey:=e7'.at (e6b.at hs6)
   have K4y:Keep [eb] w4 wy:=e7
   have E2y:Ext w2 wy:=(Keep.trans_fresh (S:=[]) (Kx (Xt hx1 (Xt h3 (Xt ea (Xt h3b e4))))) K4y (fun x hx=>.inr (by rw [List.mem_singleton.1 hx];exact heb2))).ext
   clear h03 hw1' hx4 h06 k6 hs6 h06a h06b e6a e6b0 e6b e7 e7' hw1 hba ha ea hebe h03b
   have hwy:=E2y.at hH.row
   have hry:=E2y.at h2
   have EB:FrA base w wy:=FrA.of_ext (Xt e02 E2y)
   have hap4:=U3 hL4 hB4
   have hL4:=hL4.keep K4y (by simp;omega) (by simp;omega)
   have hB4:=hB4.keep K4y (by simp;omega) (fun x hx=>by have:=hgn x hx;simp;omega)
   have hsl:=hsl.keepS K4y (by simp;omega)
   have ldh:=run_loadVar_row (P:=Tryz.prog) wy eb _ 103 _ _ _ hey Tryz.underlying103 rfl (by kernel_rfl)
   have hzg:∀W:World,(W.alloc (.cells #[.int .i64 0,.int .i64 0] 55)).heap[W.heap.size]? =some (.cells #[.int .i64 0,.int .i64 0] 55):=fun W=>Zb W _
   go_wp2_with (first
    | (refine Zd rfl 103 _ _ _ rfl rfl ldh ?_)
    | (refine Ze rfl rfl 103 _ _ rfl hw _ rfl rfl 137 _ hwy (by kernel_rfl) (by rfl) (by rfl) ?_
       intro w8 hb8 ho8 hs8)
    | (refine Zu rfl 55 rfl (.cells #[.int .i64 0,.int .i64 0] 55) _ rfl (by go_simp) ?_
       intro w9 e9 hr9)
    | (refine Ze rfl rfl 55 _ _ rfl w8.heap.size _ rfl rfl 55 _ hr9 (by kernel_rfl) (by rfl) (by rfl) ?_
       intro w10 hb10 ho10 hs10))
   have B8:=hb8 hw wy (Nat.le_refl _) (Below.refl _ _)
   have K8:Keep [hw] wy w8:=⟨B8.os,B8.tape,B8.output,B8.size,fun k _ hk=>ho8 k (by simpa using hk)⟩
   have EB8:=Z8 EB K8 (fun x hx=>.inl (by rw [List.mem_singleton.1 hx];exact lo1))
   have e10:Ext w8 w10:=hb10 _ _ (Nat.le_refl _) e9
   have hr8:=K8.at hry (by simp;omega)
   have hsz8:=B8.size
   have hwyl:=Zg hry
   obtain ⟨rg,hrg⟩:∃rg,rg=w8.heap.size:=⟨_,rfl⟩
   rw [<-hrg] at hs10 ⊢
   have hrg8:w8.heap.size<=rg:=by omega
   have hrgw:w.heap.size+1<rg:=by omega
   clear hrg hb8 ho8 B8 ldh hey hb10 ho10 e9 hr9 hzg
   have hsl8:=hsl.keepS K8 (by simp;omega)
   obtain ⟨A5,c5,hv5,q1,q2,q3,q4⟩:=hsl8
   injection hv5 with hA5 _ hc5
   subst hA5 hc5
   have hn63:(fl.length:Int)<=9223372036854775807:=by omega
   go_loopw [12,43,44,45,46,47,48,49,50,51,52,53] (fun _ iv _ _ _ _ _ _ _ _ _ _ wr=>∃k:Nat,k<=fl.length/\iv= .int .i64 k/\Ext w8 wr/\wr.heap[rg]? =some (.cells #[.int .i64 (Znb (fl.take k)),.int .i64 (wrap64 rq)] 55 (0,0))) (fun _ iv _ _ _ _ _ _ _ _ _ _ _=>fl.length-(intOf iv).toNat)
   case atStart=>exact ⟨0,Nat.zero_le _,rfl,e10,hs10⟩
   obtain ⟨k,hk,rfl,er,hrr⟩:=hrel
   by_cases hkn:k<fl.length
   ·rcases q4 with q4 | ⟨g5,rfl,hb5,hlt5,hcell5⟩
    ·omega
    have hld:=Zmx wr g5 k fl hkn (fun j u hu=>(Zf (er.block hlt5)).trans (hcell5 j u hu))
    have HGW:=Lib.hid (Zl1 fl k hkn)
    generalize fl[k]'hkn=f at *
    obtain ⟨f0,f1,f2,f3,f4⟩:=f
    simp only [Fagg] at hld
    generalize Znb (fl.take k)=gk at *
    have hz5:=Zb wr (.cells #[.int .u64 0,.int .u8 0,.int .u8 0,.int .i64 0,.int .i64 0] 250)
    have ez5:=Zc wr (.cells #[.int .u64 0,.int .u8 0,.int .u8 0,.int .i64 0,.int .i64 0] 250)
    have k0:(0:Int)<=(k:Int):=by omega
    have k1:(k:Int)<(fl.length:Int):=by omega
    have k2:decide ((k:Int)<(fl.length:Int))=true:=by simpa using hkn
    clear hcell5
    go_wp2_with (first
     | (refine Zd rfl 250 _ _ _ rfl rfl hld ?_)
     | (refine Ze rfl rfl 250 _ _ rfl wr.heap.size _ rfl rfl 250 _ hz5 (by kernel_rfl) (by rfl) (by rfl) ?_
        intro w5 hb5 ho5 hs5
        have e5:Ext wr w5:=hb5 _ _ (Nat.le_refl _) ez5
        have z3:=Za (j:=3) hs5 rfl
        have hr5:=e5.at hrr
        have z0:=Za (j:=0) hr5 rfl
        have f0':=frozen_of_row w5 rg 0 _ _ hr5))
    refine ⟨⟨k+1,by omega,by go_num,Below.setCell (Xt er e5) (p:=⟨rg,0,none⟩) hrg8 _,?_⟩,by simp [intOf];omega⟩
    rw [HGW.out]
    exact heap_setCell_same w5 rg 0 _ _ _ hr5
   have hk':k=fl.length:=by omega
   subst hk'
   rw [List.take_length] at hrr
   have hk3:decide ((fl.length:Int)<(fl.length:Int))=false:=by simp
   have ldg:=run_loadVar_row (P:=Tryz.prog) wr rg _ 55 _ _ _ hrr Tryz.underlying55 rfl (by kernel_rfl)
   have hr4:=er.at hr8
   go_wp2_with (first
    | (refine Zd rfl 55 _ _ _ rfl rfl ldg ?_)
    | (refine Ze rfl rfl 55 _ _ rfl (w.heap.size+1) _ rfl rfl 55 _ hr4 (by kernel_rfl) (by rfl) (by rfl) ?_
       intro wz hbz hoz hsz))
   have EB9:=Z8 EB8 (Kx (S:=[]) er) (by simp)
   have BZ:=hbz (w.heap.size+1) wr (Nat.le_refl _) (Below.refl _ _)
   have KZ:Keep [w.heap.size+1] wr wz:=⟨BZ.os,BZ.tape,BZ.output,BZ.size,fun k _ hk=>hoz k (by simpa using hk)⟩
   have EZ:=Z8 EB9 KZ (fun x hx=>.inr (by simp at hx;omega))
   have KA:Keep [w.heap.size+1,hw] wy wz:=((K8.mono (fun x hx=>by simp at hx ⊢;omega)).trans (Kx er)).trans (KZ.mono (fun x hx=>by simp at hx ⊢;omega))
   exact Zt (w.heap.size+1) 55 _ _ _ rfl rfl hsz Tryz.underlying55 rfl (by kernel_rfl) rfl ⟨_,_,rfl,EZ,fun _=>⟨rfl,p4,m4,pb4,g4,⟨KZ.at (er.at hs8) (by simp;omega),hL4.keep KA (by simp;omega) (by simp;omega),hB4.keep KA (by simp;omega) (fun x hx=>by have:=hgn x hx;simp;omega),HOK.out,⟨lo1,hb _ (by omega),hb _ (by omega),hb _ (by omega),fun x hx=>hb _ (by have:=hgn x hx;omega)⟩⟩⟩⟩
  have HNZ:=Lib.hid hre
  obtain ⟨rfl,rfl⟩:=hbad hre
  obtain ⟨gbase,hgb⟩:∃gb,gb=w3b.heap.size:=⟨_,rfl⟩
  have hgbw:w.heap.size+2<=gbase:=by rw [hgb];have:=hx1.size;have:=h3.size;have:=ea.size;have:=h3b.size;omega
  obtain ⟨fl0,hfl0⟩:∃fl0:List Fl,fl0=[]:=⟨_,rfl⟩
  have hfl:fl0.length<=64:=by rw [hfl0];simp
  have hsl:∀W,Zn W gbase 5 (.slice none 0 0) fl0.length (Yt fl0):=fun W=>by rw [hfl0];exact Zn.of_own (World.ownsRow_nil W gbase 250 5)
  clear hbad hgood hsw hgb hmk hlen2 hre hfl0
  refine RgK.Vu [eb] Zl 16 [21,22,23,24] 3 (by kernel_rfl) (by kernel_rfl) (h03b.trans (Kx e4)) (fun x hx=>.inr (by rw [List.mem_singleton.1 hx];exact heb2)) ?_
  intro w1' hw1'
  simp only [Act.put,Rg.puC,Rg.puB]
  simp only [Zk,Rg.hsB,Nat.reduceBEq,Nat.reduceAdd,↓reduceIte]
  repeat (go_big_quiet_step (fail))
  refine wpQuiet_nil ?_
  intro hx4
  refine RgK.Z3 22 _ 103 _ _ rfl rfl rfl (by kernel_rfl) (by decide) rfl eb #[.pointer none,.pointer none] (by kernel_rfl) (by kernel_rfl) 103 _ (by kernel_rfl) (by rfl) (by rfl) (hx4.at hba) (Or.inl (by simp)) ?_
  intro w6 h06 k6 hs6
  refine RgK.Xv 23 _ (.slice none 0 0) rfl (by kernel_rfl) (by decide) rfl (fun w' _=>by go_simp) ?_
  intro w6a h06a e6a
  refine RgK.Xv 24 _ (.int .u64 rq) rfl (by kernel_rfl) (by decide) rfl (fun w' _=>by go_simp) ?_
  intro w6b h06b e6b0
  have e6b:=Xt e6a e6b0
  refine RgK.Zj (by kernel_rfl) ?_
  intro wy e7 e7'
  simp only [Act.put,Rg.puB]
  have hey:=e7'.at (e6b.at hs6)
  have K4y:Keep [eb] w4 wy:=e7
  have E2y:Ext w2 wy:=(Keep.trans_fresh (S:=[]) (Kx (Xt hx1 (Xt h3 (Xt ea (Xt h3b e4))))) K4y (fun x hx=>.inr (by rw [List.mem_singleton.1 hx];exact heb2))).ext
  clear h03 hw1' hx4 h06 k6 hs6 h06a h06b e6a e6b0 e6b e7 e7' hw1 hba ha ea hebe h03b
  have hwy:=E2y.at hH.row
  have hry:=E2y.at h2
  have EB:FrA base w wy:=FrA.of_ext (Xt e02 E2y)
  have ldh:=run_loadVar_row (P:=Tryz.prog) wy eb _ 103 _ _ _ hey Tryz.underlying103 rfl (by kernel_rfl)
  have hzg:∀W:World,(W.alloc (.cells #[.int .i64 0,.int .i64 0] 55)).heap[W.heap.size]? =some (.cells #[.int .i64 0,.int .i64 0] 55):=fun W=>Zb W _
  go_wp2_with (first
   | (refine Zd rfl 103 _ _ _ rfl rfl ldh ?_)
   | (refine Ze rfl rfl 103 _ _ rfl hw _ rfl rfl 137 _ hwy (by kernel_rfl) (by rfl) (by rfl) ?_
      intro w8 hb8 ho8 hs8)
   | (refine Zu rfl 55 rfl (.cells #[.int .i64 0,.int .i64 0] 55) _ rfl (by go_simp) ?_
      intro w9 e9 hr9)
   | (refine Ze rfl rfl 55 _ _ rfl w8.heap.size _ rfl rfl 55 _ hr9 (by kernel_rfl) (by rfl) (by rfl) ?_
      intro w10 hb10 ho10 hs10))
  have B8:=hb8 hw wy (Nat.le_refl _) (Below.refl _ _)
  have K8:Keep [hw] wy w8:=⟨B8.os,B8.tape,B8.output,B8.size,fun k _ hk=>ho8 k (by simpa using hk)⟩
  have EB8:=Z8 EB K8 (fun x hx=>.inl (by rw [List.mem_singleton.1 hx];exact lo1))
  have e10:Ext w8 w10:=hb10 _ _ (Nat.le_refl _) e9
  have hr8:=K8.at hry (by simp;omega)
  have hsz8:=B8.size
  have hwyl:=Zg hry
  obtain ⟨rg,hrg⟩:∃rg,rg=w8.heap.size:=⟨_,rfl⟩
  rw [<-hrg] at hs10 ⊢
  have hrg8:w8.heap.size<=rg:=by omega
  have hrgw:w.heap.size+1<rg:=by omega
  clear hrg hb8 ho8 B8 ldh hey hb10 ho10 e9 hr9 hzg
  go_loopw [12,43,44,45,46,47,48,49,50,51,52,53] (fun _ iv _ _ _ _ _ _ _ _ _ _ wr=>iv= .int .i64 0/\Ext w8 wr/\wr.heap[rg]? =some (.cells #[.int .i64 0,.int .i64 (wrap64 rq)] 55 (0,0))) (fun _ iv _ _ _ _ _ _ _ _ _ _ _=>0)
  case atStart=>exact ⟨rfl,e10,hs10⟩
  obtain ⟨rfl,er,hrr⟩:=hrel
  have ldg:=run_loadVar_row (P:=Tryz.prog) wr rg _ 55 _ _ _ hrr Tryz.underlying55 rfl (by kernel_rfl)
  have hr4:=er.at hr8
  go_wp2_with (first
   | (refine Zd rfl 55 _ _ _ rfl rfl ldg ?_)
   | (refine Ze rfl rfl 55 _ _ rfl (w.heap.size+1) _ rfl rfl 55 _ hr4 (by kernel_rfl) (by rfl) (by rfl) ?_
      intro wz hbz hoz hsz))
  have EB9:=Z8 EB8 (Kx (S:=[]) er) (by simp)
  have BZ:=hbz (w.heap.size+1) wr (Nat.le_refl _) (Below.refl _ _)
  have KZ:Keep [w.heap.size+1] wr wz:=⟨BZ.os,BZ.tape,BZ.output,BZ.size,fun k _ hk=>hoz k (by simpa using hk)⟩
  have EZ:=Z8 EB9 KZ (fun x hx=>.inr (by simp at hx;omega))
  exact Zt (w.heap.size+1) 55 _ _ _ rfl rfl hsz Tryz.underlying55 rfl (by kernel_rfl) rfl ⟨_,_,rfl,EZ,fun hz=>absurd hz HNZ.out⟩
end Go.Proofs.YtipjchbdogmccaaGreat
