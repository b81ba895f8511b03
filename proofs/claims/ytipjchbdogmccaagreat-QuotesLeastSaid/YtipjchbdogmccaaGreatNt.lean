/- Net, walked: which lines are debts. Net, walked: debts of a currency; which one is left. Net, walked. -/
import Derived.Test.YtipjchbdogmccaaGreatDbR
set_option maxHeartbeats 6400000
set_option maxRecDepth 100000
namespace Go.Proofs.YtipjchbdogmccaaGreat
open Go.RowKit Go.Rg Go.BigFrame
def lnFw (x:Ln):Fw:=(x.1.2.1,x.1.1,x.2.2)
def Zjl (c:Int) (x:Ln):Bool:=(x.1.2.2==c)&&decide (0<x.2.2)
theorem Zrd (x:Ln) (cb:Nat) (c:Int) (w:World) (hc:w.cell? ⟨cb,0,none⟩=some (.int .u8 c)) (hlt:cb<w.heap.size):
 Calls Tryz.prog 238 #[Ju x,.pointer (some ⟨cb,0,none⟩)] w (Ret (.tuple #[Xu (lnFw x),.bool (Zjl c x)]) w):=by
 obtain ⟨⟨o0,o1,o2⟩,o3,o4⟩:=x
 unfold Zjl lnFw
 simp only [Ju,Xu,D.Xu]
 have e0:=Zc w (.cells #[.int .u8 o0,.int .u8 o1,.int .u8 o2,.int .i64 o3,.int .i64 o4] 151)
 have h0:=Zb w (.cells #[.int .u8 o0,.int .u8 o1,.int .u8 o2,.int .i64 o3,.int .i64 o4] 151)
 have s0:=size_alloc w (.cells #[.int .u8 o0,.int .u8 o1,.int .u8 o2,.int .i64 o3,.int .i64 o4] 151)
 generalize hW:w.alloc (.cells #[.int .u8 o0,.int .u8 o1,.int .u8 o2,.int .i64 o3,.int .i64 o4] 151)=W at *
 have HW:=Lib.hid hW
 clear hW
 go_enter Tryz.func238,Tryz.ntmps238
 go_wp2_with (first
  | (refine Zu rfl 285 rfl (.cells #[.int .u8 0,.int .u8 0,.int .i64 0] 285) _ rfl (by go_simp) ?_
     rw [HW.out]
     intro w2 e2 h2
     rw [s0] at h2))
 have h02:=e2.at h0
 have e02:=Xt e0 e2
 have hc2:w2.cell? ⟨cb,0,none⟩=some (.int .u8 c):=(Zf (e02.block hlt)).trans hc
 clear h0 e0 e2 HW s0
 cases hq:(o2==c)
 rotate_left
 all_goals
  have hF:∀W,Keep [w.heap.size+1] w2 W->W.cell? ⟨w.heap.size,0,none⟩=some (.int .u8 o0)/\W.cell? ⟨w.heap.size,1,none⟩=some (.int .u8 o1)/\W.cell? ⟨w.heap.size,2,none⟩=some (.int .u8 o2)/\W.cell? ⟨w.heap.size,4,none⟩=some (.int .i64 o4)/\W.cell? ⟨cb,0,none⟩=some (.int .u8 c):=fun W kk=>by
   have q0:=kk.at h02 (by simp)
   exact ⟨Za (j:=0) q0 rfl,Za (j:=1) q0 rfl,Za (j:=2) q0 rfl,Za (j:=4) q0 rfl,(Zf (a:=⟨cb,0,none⟩) (kk.block cb (by have:=e02.size;omega) (by simp;omega))).trans hc2⟩
  refine RgK.Vt [w.heap.size+1] Zl 17 [16] (by kernel_rfl) (by kernel_rfl) ?_ ?_
  ·intro w1 hw1
   have d0:=fun u:ExtOf w1=>(hF _ (hw1.trans (Kx u.h))).1
   have d1:=fun u:ExtOf w1=>(hF _ (hw1.trans (Kx u.h))).2.1
   have d2:=fun u:ExtOf w1=>(hF _ (hw1.trans (Kx u.h))).2.2.1
   have d4:=fun u:ExtOf w1=>(hF _ (hw1.trans (Kx u.h))).2.2.2.1
   have dc:=fun u:ExtOf w1=>(hF _ (hw1.trans (Kx u.h))).2.2.2.2
   simp only [Zk,Rg.hsB,Nat.reduceBEq,Nat.reduceAdd,↓reduceIte]
   repeat (go_big_quiet_step (fail))
   refine wpQuiet_nil ?_
   trivial
  intro w1 hw1
  have d0:=fun u:KeepOf [w.heap.size+1] w1=>(hF _ (hw1.trans u.h)).1
  have d1:=fun u:KeepOf [w.heap.size+1] w1=>(hF _ (hw1.trans u.h)).2.1
  have d2:=fun u:KeepOf [w.heap.size+1] w1=>(hF _ (hw1.trans u.h)).2.2.1
  have d4:=fun u:KeepOf [w.heap.size+1] w1=>(hF _ (hw1.trans u.h)).2.2.2.1
  have dc:=fun u:KeepOf [w.heap.size+1] w1=>(hF _ (hw1.trans u.h)).2.2.2.2
  simp only [Zk,Rg.hsB,Nat.reduceBEq,Nat.reduceAdd,↓reduceIte]
  repeat (go_big_quiet_step (fail))
  refine wpQuiet_nil ?_
  intro hx1
  clear d0 d1 d2 d4 dc hF
  refine RgK.Z3 16 _ 285 _ _ rfl rfl rfl (by kernel_rfl) (by decide) rfl (w.heap.size+1) #[.int .u8 o1,.int .u8 o0,.int .i64 o4] (by kernel_rfl) (by kernel_rfl) 285 _ (by kernel_rfl) (by rfl) (by rfl) (hx1.at h2) (Or.inl (by simp)) ?_
  intro wd h0d kd hsd
  refine RgK.Zj (by kernel_rfl) ?_
  intro wy ey ey'
  simp only [Rg.puB]
  have hry:=ey'.at hsd
  have EY:Ext w wy:=(Keep.trans_fresh (S:=[]) (Kx e02) ey (fun x hx=>by right;simp at hx;omega)).ext
  clear hw1 hx1 h0d kd hsd ey ey'
  go_wp2
  exact Zt (w.heap.size+1) 285 _ _ _ rfl rfl hry Tryz.underlying285 rfl (by kernel_rfl) rfl ⟨by rw [hq];rfl,EY⟩
def Jk (c:Int) (l:Zr):List Fw:=l.filterMap (Zma c)
theorem Zpm (c:Int) (l:Zr) (k:Nat) (hk:k<l.length):Jk c (l.take (k+1))=Jk c (l.take k)++(if Zjl c (l[k]'hk)=true then [lnFw (l[k]'hk)] else []):=by
 unfold Jk
 rw [List.take_succ_eq_append_getElem hk,List.filterMap_append]
 congr 1
 simp only [List.filterMap_cons,List.filterMap_nil]
 unfold Zma Zjl
 by_cases h1:(l[k]'hk).1.2.2=c/\0<(l[k]'hk).2.2
 ·rw [if_pos h1]
  simp [h1.1,h1.2,lnFw]
 rw [if_neg h1]
 have:((l[k]'hk).1.2.2==c&&decide (0<(l[k]'hk).2.2))=false:=by
  rw [<-Bool.not_eq_true,Bool.and_eq_true,decide_eq_true_eq,beq_iff_eq]
  exact h1
 rw [this]
 simp
def Zfn (w:World) (base:Nat) (v:Value) (l:List Fw):Prop:=
 ∃A c,v= .slice A l.length c/\l.length<=c/\c<=maxLen/\(l=[]\/∃g cur,A=some ⟨g,0,none⟩/\base<=g/\w.heap[g]? =some (Obj.cells cur 285 (0,0))/\l.length*3<=cur.size/\cur.toList.take (l.length*3)=Xq l)
theorem Zfn.sl {w:World} {base:Nat} {v:Value} {l:List Fw} (h:Zfn w base v l):Zn w base 3 v l.length (Xq l):=by
 obtain ⟨A,c,h1,h2,h3,h4⟩:=h
 refine ⟨A,c,h1,h2,h3,Zo8 l,?_⟩
 rcases h4 with rfl | ⟨g,cur,q1,q2,q3,q4,q5⟩
 ·exact .inl rfl
 refine .inr ⟨g,q1,q2,Zg q3,fun j u hu=>Za q3 ?_⟩
 rw [<-q5] at hu
 have hj:j<l.length*3:=by
  have:=(List.getElem?_eq_some_iff.1 hu).1
  rw [List.length_take] at this
  omega
 rw [List.getElem?_take_of_lt hj] at hu
 simpa using hu
theorem Zfn.of_own {w:World} {base:Nat} {v:Value} {l:List Fw} (h:w.ownsRow base 285 3 v l.length (Xq l)):Zfn w base v l:=by
 rcases h.2 with ⟨h1,h2⟩ | ⟨g,cap,cur,h1,h2,h3,h4,h5,h6,h7⟩
 ·have hl:l=[]:=List.eq_nil_of_length_eq_zero h2
  subst hl
  exact ⟨none,0,h1,Nat.le_refl _,by unfold maxLen;omega,.inl rfl⟩
 exact ⟨some ⟨g,0,none⟩,cap,h1,h4,h5,.inr ⟨g,cur,rfl,h2,h3,by rw [h6];exact Nat.mul_le_mul_right 3 h4,h7⟩⟩
theorem fclip_any (base:Nat) (v:Value) (l:List Fw) (w:World) (h:Zfn w base v l):Calls Tryz.prog 220 #[v] w (fun e w'=>∃v',e= .returned v'/\w'=w/\Zfn w' base v' l):=by
 obtain ⟨A,cap,rfl,h1,h2,h4⟩:=h
 have hn63:(l.length:Int)<=9223372036854775807:=by unfold maxLen at h2;omega
 cases A
 focus
  have hl:l=[]:=by
   rcases h4 with h4 | ⟨g,cur,q1,_⟩
   ·exact h4
   cases q1
  subst hl
 rotate_left
 focus
  rename_i a
  rcases h4 with h4 | ⟨g,cur,q1,q2⟩
  focus subst h4
  rotate_left
  ·injection q1 with q1
   subst q1
   have HQ:=Lib.hid q2
   clear q2
   generalize hn:l.length=n at *
   have HN:=Lib.hid hn
   clear hn
   go_enter Tryz.func220,Tryz.ntmps220
   go_wp2
   go_ret
   exact ⟨_,rfl,rfl,_,_,by rw [HN.out];rfl,Nat.le_refl _,by rw [HN.out];exact Nat.le_trans h1 h2,.inr ⟨g,cur,rfl,by rw [HN.out];exact HQ.out⟩⟩
 all_goals
  go_enter Tryz.func220,Tryz.ntmps220
  go_wp2
  go_ret
  exact ⟨_,rfl,rfl,_,_,rfl,Nat.le_refl _,by unfold maxLen;omega,.inl rfl⟩
theorem kept_any (base cb:Nat) (c:Int) (v:Value) (l:Zr) (w:World) (h:Zn w base 5 v l.length (Ym l)) (hl:l.length<=300) (hc:w.cell? ⟨cb,0,none⟩=some (.int .u8 c)) (hcl:cb<w.heap.size):
 Calls Tryz.prog 237 #[v,.func (.func 238) #[] #[.pointer (some ⟨cb,0,none⟩)]] w (fun e w'=>∃v',e= .returned v'/\Ext w w'/\Zfn w' w.heap.size v' (Jk c l)):=by
 obtain ⟨A,cap,rfl,h1,h2,h3,h4⟩:=h
 obtain ⟨i1,hi1,hy0,hy1,hy2⟩:=info_parts fw_info
 have hn63:(l.length:Int)<=9223372036854775807:=by omega
 go_enter Tryz.func237,Tryz.ntmps237
 go_wp2
 go_loopw [5,7,8,9,12,13,14,15,16,17,18,19,20,21,22,23,24,25,26,27] (fun sv _ _ _ iv _ _ _ _ _ _ _ _ _ _ _ _ _ _ _ wr=>∃k:Nat,k<=l.length/\iv= .int .i64 k/\Ext w wr/\wr.ownsRow w.heap.size 285 3 sv (Jk c (l.take k)).length (Xq (Jk c (l.take k)))) (fun _ _ _ _ iv _ _ _ _ _ _ _ _ _ _ _ _ _ _ _ _=>l.length-(intOf iv).toNat)
 case atStart=>exact ⟨0,Nat.zero_le _,rfl,Ext.refl _,World.ownsRow_nil _ _ _ _⟩
 obtain ⟨k,hk,rfl,er,hown⟩:=hrel
 by_cases hkn:k<l.length
 ·rcases h4 with h4 | ⟨g,rfl,hb,hlt,hcell⟩
  ·omega
  have hld:=Ze2 wr g k l hkn (fun j u hu=>(Zf (er.block hlt)).trans (hcell j u hu))
  have hcr:=fun W (kk:Ext wr W)=>Zrd (l[k]'hkn) cb c W ((Zf ((Xt er kk).block hcl)).trans hc) (Nat.lt_of_lt_of_le hcl (Xt er kk).size)
  have HF:=Lib.hid (Zpm c l k hkn)
  have hlk:(Jk c (l.take k)).length<=k:=by
   unfold Jk
   have:=List.length_filterMap_le (Zma c) (l.take k)
   simp at this
   omega
  generalize l[k]'hkn=x at *
  obtain ⟨⟨o0,o1,o2⟩,o3,o4⟩:=x
  simp only [Ju,Xu,D.Xu,lnFw] at hld hcr
  have hzr:=Zb wr (.cells #[.int .u8 0,.int .u8 0,.int .u8 0,.int .i64 0,.int .i64 0] 151)
  have ezr:=Zc wr (.cells #[.int .u8 0,.int .u8 0,.int .u8 0,.int .i64 0,.int .i64 0] 151)
  have k0:(0:Int)<=(k:Int):=by omega
  have k1:(k:Int)<(l.length:Int):=by omega
  have k2:decide ((k:Int)<(l.length:Int))=true:=by simpa using hkn
  go_wp2_with (first
   | (refine Zd rfl 151 _ _ _ rfl rfl hld ?_)
   | (refine Zd rfl 151 _ _ _ rfl rfl lds ?_)
   | (refine Ze rfl rfl 151 _ _ rfl wr.heap.size _ rfl rfl 151 _ hzr (by kernel_rfl) (by rfl) (by rfl) ?_
      intro w5 hb5 ho5 hs5
      have e5:Ext wr w5:=hb5 _ _ (Nat.le_refl _) ezr
      have lds:=run_loadVar_row (P:=Tryz.prog) w5 wr.heap.size _ 151 _ _ _ hs5 Tryz.underlying151 rfl (by kernel_rfl)))
  refine (hcr w5 e5).mono ?_
  rintro e w6 ⟨rfl,e6⟩
  have e06:=Xt e5 e6
  have own6:=Zo hown e06
  have er6:=Xt er e06
  have hzf:=Zb w6 (.cells #[.int .u8 0,.int .u8 0,.int .i64 0] 285)
  have ezf:=Zc w6 (.cells #[.int .u8 0,.int .u8 0,.int .i64 0] 285)
  have hone:∀u∈[Value.int .u8 o1,.int .u8 o0,.int .i64 o4],u.oneCell'=true:=fun u hu=>by simp at hu;rcases hu with rfl | rfl | rfl<;>rfl
  cases hq:Zjl c ((o0,o1,o2),o3,o4) with
  | true=>
    rw [hq,if_pos rfl] at HF
    generalize Jk c (l.take k)=lf at *
    have hm1:lf.length+1<=maxLen:=by unfold maxLen;omega
    have hm2:(lf.length+1)*16<=140737488355328:=by omega
    clear hld hcr hown hs5 lds hq
    go_wp2_with (first
     | (refine Zd rfl 285 _ _ _ rfl rfl ldf ?_)
     | (refine Ze rfl rfl 285 _ _ rfl w6.heap.size _ rfl rfl 285 _ hzf (by kernel_rfl) (by rfl) (by rfl) ?_
        intro w7 hb7 ho7 hs7
        have e7:Ext w6 w7:=hb7 _ _ (Nat.le_refl _) ezf
        have ldf:=run_loadVar_row (P:=Tryz.prog) w7 w6.heap.size _ 285 _ _ _ hs7 Tryz.underlying285 rfl (by kernel_rfl)
        have own7:=Zo own6 e7
        have hcn:=Zmf w7 [.int .u8 o1,.int .u8 o0,.int .i64 o4] 285
        have er7:=Xt er6 e7
        have hbw:w.heap.size<=(w7.alloc (.cells #[.int .u8 o1,.int .u8 o0,.int .i64 o4] 285)).heap.size:=by rw [size_alloc];have:=er7.size;omega)
     | (at_builtin;refine wpList_append_own _ rfl _ _ 279 rfl w.heap.size 285 i1 (.agg #[.int .u8 0,.int .u8 0,.int .i64 0]) 3 16 Tryz.underlying279 hi1 hy0 hy1 hy2 rfl (by decide) _ _ _ rfl (own7.alloc _) ⟨w7.heap.size,0,none⟩ 1 1 [.int .u8 o1,.int .u8 o0,.int .i64 o4] rfl rfl hcn hone hm1 hm2 hbw ?_
        intro v' w8 hown' hgrow' hnil'))
    refine ⟨⟨k+1,by omega,by go_num,(Below.alloc er7 er7.size _).grown hgrow' hbw (fun q hq=>(own7.lt q hq).1),?_⟩,by simp [intOf];omega⟩
    rw [HF.out,Zcz,List.length_append]
    exact hown'
  | false=>
    rw [hq,if_neg (by simp),List.append_nil] at HF
    clear hld hcr hown hs5 lds hq
    go_wp2_with (first
     | (refine Ze rfl rfl 285 _ _ rfl w6.heap.size _ rfl rfl 285 _ hzf (by kernel_rfl) (by rfl) (by rfl) ?_
        intro w7 hb7 ho7 hs7
        have e7:Ext w6 w7:=hb7 _ _ (Nat.le_refl _) ezf
        have own7:=Zo own6 e7))
    exact ⟨⟨k+1,by omega,by go_num,Xt er6 e7,by rw [HF.out];exact own7⟩,by simp [intOf];omega⟩
 have hk':k=l.length:=by omega
 subst hk'
 rw [List.take_length] at hown
 have hk3:decide ((l.length:Int)<(l.length:Int))=false:=by simp
 have hfl:=Zfn.of_own hown
 clear hown h4
 go_wp2_with fail
 refine (fclip_any _ _ _ wr hfl).mono ?_
 rintro e w6 ⟨v',rfl,rfl,hsl6⟩
 go_wp2
 go_ret
 exact ⟨_,rfl,er,hsl6⟩
theorem Zfn.low {w:World} {base base':Nat} {v:Value} {l:List Fw} (h:Zfn w base v l) (hb:base'<=base):Zfn w base' v l:=by
 obtain ⟨A,c,h1,h2,h3,h4⟩:=h
 refine ⟨A,c,h1,h2,h3,?_⟩
 rcases h4 with h4 | ⟨g,cur,q1,q2,q3⟩
 ·exact .inl h4
 exact .inr ⟨g,cur,q1,Nat.le_trans hb q2,q3⟩
open Go.Shelf in
theorem fsort_any (base:Nat) (v:Value) (l:List Fw) (w:World) (hk:FwOne l) (hl:l.length<=300) (h:Zfn w base v l):
 Calls Tryz.prog 239 #[v,.func (.func 240) #[] #[]] w fun e w'=>e= .returned (.tuple #[])/\(∃S:List Nat,Keep S w w'/\∀x∈S,base<=x)/\Zfn w' base v (Jb Zaz l):=by
 have hpl:=(X4 Zaz l).length_eq
 obtain ⟨A,c,rfl,h1,h2,h4⟩:=h
 rcases h4 with h4 | ⟨g,cur,rfl,hb,hg,hsz,htake⟩
 ·subst h4
  refine (AnyF.slices_SortFunc_none Tryz.sortFlows A c (.func (.func 240) #[] #[]) w).mono ?_
  rintro e w' ⟨rfl,rfl⟩
  exact ⟨rfl,⟨[],Keep.refl _ _,by simp⟩,A,c,by rw [hpl],by rw [hpl];exact h1,h2,.inl rfl⟩
 cases hle:l with
 | nil=>
   subst hle
   refine (AnyF.slices_SortFunc_none Tryz.sortFlows (some ⟨g,0,none⟩) c (.func (.func 240) #[] #[]) w).mono ?_
   rintro e w' ⟨rfl,rfl⟩
   exact ⟨rfl,⟨[],Keep.refl _ _,by simp⟩,_,c,by rw [hpl],by rw [hpl];exact h1,h2,.inl rfl⟩
 | cons o0 l0=>
   rw [<-hle]
   have hO:Go.Sort.SWO (ltOf fun x y:Fw=>Zat x y):=
    { irrefl:=fun x=>Zoq x
      trans:=fun x y z h1 h2=>Zq2 x y z h1 h2
      ntrans:=fun x y z h1 h2=>Zg7 x y z h1 h2 }
   have hsz':l.toArray.size=l.length:=by simp
   have hH:=Zgi (fun x:Fw=>fwC x) 3 (fun _=>rfl) w g cur 285 l.toArray hg (by rw [hsz',List.toList_toArray];exact htake) (by rw [hsz'];exact hsz)
   have hcall:=AnyQ.slices_SortFunc Tryz.sortFlows 3 Tryz.isAgg285 Tryz.sizeOf285 (fun x:Fw=>fwC x) (fun _=>rfl) (fun x v hv=>by
    simp only [fwC,D.fwC,List.mem_cons,List.not_mem_nil,or_false] at hv
    rcases hv with rfl | rfl | rfl<;>rfl) (fun x y=>Zat x y) hO 240 #[] g 0 c l.toArray w (enters_of Tryz.func240 (by kernel_rfl) rfl)
    (D.fcmpLays g _ w) hH (Zg hg) (by rw [hsz'];omega)
   rw [hsz'] at hcall
   refine hcall.mono ?_
   rintro e w' ⟨rfl,d',n,os,hp,hso,rfl⟩
   have hps:d'.size=l.length:=by rw [hp.1];simp
   have hperm:d'.toList.Perm l:=by
    have h1:=hp.2.2
    have e1:d'.extract 0 l.length=d':=by rw [<-hps];simp
    have e2:l.toArray.extract 0 l.length=l.toArray:=by
     have:l.length=l.toArray.size:=hsz'.symm
     rw [this,Array.extract_size]
    rw [e1,e2] at h1
    simpa using h1
   have hlist:d'.toList=Jb Zaz l:=by
    refine debts_one hk hperm ?_
    rw [<-hps] at hso
    exact Ud hso
   obtain ⟨k1,cur',h1',h2',h3⟩:=Zcg (fun x:Fw=>fwC x) 3 (fun _=>rfl) w g n cur 285 d' os hg (by rw [hps];exact hsz)
   refine ⟨rfl,⟨[g],k1,by simpa using hb⟩,_,c,by rw [hpl],by rw [hpl];exact h1,h2,.inr ⟨g,cur',rfl,hb,h1',by rw [hpl,h2'];exact hsz,?_⟩⟩
   rw [hpl,<-hps,h3,hlist]
   rfl
theorem Zo7 {w:World} {p m:Nat} {L:Led} (h:IsLed w p m L) (c:Int):FwOne (Jk c (Z2 L.lines)):=by
 exact Zo6 h.map.keys c
theorem Zjy (c:Int) (l:Zr):(Jk c l).length<=l.length:=List.length_filterMap_le _ _
theorem debts_any (p m:Nat) (L:Led) (c:Int) (w:World) (h:IsLed w p m L) (hwf:WF L):Calls Tryz.prog 187 #[.pointer (some ⟨p,0,none⟩),.int .u8 c] w (fun e w'=>∃v',e= .returned v'/\Ext w w'/\Zfn w' w.heap.size v' (Vj L c)):=by
 have hl:(Z2 L.lines).length<=300:=by rw [Ue];have:=hwf.few;omega
 have e0:=Zc w (.cells #[.int .u8 c] 25)
 have h0:=Zb w (.cells #[.int .u8 c] 25)
 have s0:=size_alloc w (.cells #[.int .u8 c] 25)
 have hL0:=h.ext e0
 have hln:=Zdl p m L _ hL0 hwf
 have hone:=Zo7 h c
 have hdl:=Zjy c (Z2 L.lines)
 have HDR:=Lib.hid (show Vj L c=Jb Zaz (Jk c (Z2 L.lines)) from rfl)
 go_enter Tryz.func187,Tryz.ntmps187
 go_wp2_with fail
 refine hln.mono ?_
 rintro e w2 ⟨v2,rfl,e2,hown2⟩
 have hkp:=kept_any _ w.heap.size c v2 _ w2 (Zn.of_own hown2) hl (Za (j:=0) (e2.at h0) rfl) (by have:=e2.size;omega)
 clear hln
 go_wp2_with fail
 refine hkp.mono ?_
 rintro e w3 ⟨v3,rfl,e3,hfl3⟩
 have hso:=fsort_any _ v3 _ w3 hone (by omega) hfl3
 clear hkp
 go_wp2_with fail
 refine hso.mono ?_
 rintro e w4 ⟨rfl,⟨S,k4,hS⟩,hfl4⟩
 have s2:=e2.size
 have s3:=e3.size
 have hE:Ext w w4:=(Keep.trans_fresh (S:=[]) (Kx (Xt e0 (Xt e2 e3))) k4 (fun x hx=>by
  right
  have:=hS x hx
  omega)).ext
 clear hso
 go_wp2
 go_ret
 rw [HDR.out]
 exact ⟨_,rfl,hE,hfl4.low (by omega)⟩
def Zci (x y:Fw):Bool:=y.1==x.1&&y.2.1==x.2.1
theorem Zqf (x y:Fw) (cb:Nat) (w:World) (h:w.heap[cb]? =some (.cells (fwC x).toArray 285 (0,0))):
 Calls Tryz.prog 190 #[Xu y,.pointer (some ⟨cb,0,none⟩)] w (Ret (.bool (Zci x y)) w):=by
 obtain ⟨x0,x1,x2⟩:=x
 obtain ⟨y0,y1,y2⟩:=y
 unfold Zci
 simp only [Xu,D.Xu,fwC,D.fwC] at *
 have e0:=Zc w (.cells #[.int .u8 y0,.int .u8 y1,.int .i64 y2] 285)
 have h0:=Zb w (.cells #[.int .u8 y0,.int .u8 y1,.int .i64 y2] 285)
 have hx:=e0.at h
 generalize hW:w.alloc (.cells #[.int .u8 y0,.int .u8 y1,.int .i64 y2] 285)=W at *
 have c0:=Za (j:=0) h0 rfl
 have c1:=Za (j:=1) h0 rfl
 have d0:=Za (j:=0) hx rfl
 have d1:=Za (j:=1) hx rfl
 subst hW
 clear h h0 hx
 cases hq:(y0==x0)
 rotate_left
 all_goals
  go_enter Tryz.func190,Tryz.ntmps190
  go_wp2
  go_ret
  exact ⟨rfl,e0⟩
def Zd2 (x:Fw):List Fw->Nat->Int
 | [],_=>-1
 | y::l,k=>if Zci x y=true then k else Zd2 x l (k+1)
theorem Zrf (x y:Fw) (l:List Fw) (k:Nat):Zd2 x (y::l) k=if Zci x y=true then (k:Int) else Zd2 x l (k+1):=rfl
theorem idxFw_nil (x:Fw) (k:Nat):Zd2 x [] k= -1:=rfl
theorem Zjn (x:Fw):∀(l:List Fw) (k:Nat),(Zd2 x l k= -1/\l.find? (fun y=>y.1==x.1&&y.2.1==x.2.1)=none)\/∃j,∃hj:j<l.length,Zd2 x l k=((k+j:Nat):Int)/\l.find? (fun y=>y.1==x.1&&y.2.1==x.2.1)=some (l[j]'hj)
 | [],_=>.inl ⟨rfl,rfl⟩
 | y::l,k=>by
   unfold Zd2
   by_cases hs:Zci x y=true
   ·rw [if_pos hs]
    refine .inr ⟨0,by simp,rfl,?_⟩
    unfold Zci at hs
    rw [List.find?_cons,hs]
    rfl
   rw [if_neg hs,List.find?_cons]
   rw [Bool.not_eq_true] at hs
   unfold Zci at hs
   rw [hs]
   rcases Zjn x l (k+1) with ⟨h1,h2⟩ | ⟨j,hj,h1,h2⟩
   ·exact .inl ⟨h1,h2⟩
   exact .inr ⟨j+1,by simpa using hj,by rw [h1];congr 1;omega,by simpa using h2⟩
theorem Zrq (base cb:Nat) (v:Value) (l:List Fw) (x:Fw) (w:World) (h:Zn w base 3 v l.length (Xq l)) (hx:w.heap[cb]? =some (.cells (fwC x).toArray 285 (0,0))):
 Calls Tryz.prog 189 #[v,.func (.func 190) #[] #[.pointer (some ⟨cb,0,none⟩)]] w (Ret (.int .i64 (Zd2 x l 0)) w):=by
 obtain ⟨A,cap,rfl,h1,h2,h3,h4⟩:=h
 have hn63:(l.length:Int)<=9223372036854775807:=by unfold maxLen at h2;omega
 go_enter Tryz.func189,Tryz.ntmps189
 go_wp2
 go_loopw [8] (fun i wr=>∃k:Nat,k<=l.length/\i= .int .i64 k/\Ext w wr/\Zd2 x l 0=Zd2 x (l.drop k) k) (fun i _=>l.length-(intOf i).toNat)
 case atStart=>exact ⟨0,Nat.zero_le _,rfl,Ext.refl _,rfl⟩
 obtain ⟨k,hk,rfl,e1,hid⟩:=hrel
 by_cases hkn:k<l.length
 ·rw [List.drop_eq_getElem_cons hkn,Zrf] at hid
  rcases h4 with h4 | ⟨g,rfl,hb,hlt,hcell⟩
  ·omega
  have hld:=Ze3 wr g k l hkn (fun j u hu=>by rw [Zf (e1.block hlt)];exact hcell j u hu)
  have cp1:=Zqf x (l[k]'hkn) cb wr (e1.at hx)
  generalize (l[k]'hkn)=y at *
  obtain ⟨y0,y1,y2⟩:=y
  simp only [Xu,D.Xu] at hld cp1
  cases hq:Zci x (y0,y1,y2) with
  | true=>
    rw [hq,if_pos rfl] at hid
    rw [hq] at cp1
    rw [hid]
    clear hid hq
    go_wp2_with (first | (refine Zd rfl 285 _ _ _ rfl rfl hld ?_))
    refine cp1.mono ?_
    rintro e w5 ⟨rfl,e5⟩
    go_wp2
    go_ret
    exact ⟨rfl,Xt e1 e5⟩
  | false=>
    rw [hq,if_neg (by simp)] at hid
    rw [hq] at cp1
    have HID:=Lib.hid hid
    clear hid hq
    go_wp2_with (first | (refine Zd rfl 285 _ _ _ rfl rfl hld ?_))
    refine cp1.mono ?_
    rintro e w5 ⟨rfl,e5⟩
    go_wp2
    exact ⟨⟨k+1,by omega,by go_num,Xt e1 e5,HID.out⟩,by simp [intOf];omega⟩
 have hk':k=l.length:=by omega
 subst hk'
 rw [List.drop_length] at hid
 have HID:=Lib.hid hid
 clear hid
 go_wp2
 go_ret
 rw [HID.out,idxFw_nil]
 exact ⟨rfl,e1⟩
theorem Zqx {left:List Fw} {c:Int} {l:List Fw} {L:Led} {g:Int} (k:Nat) (hk:k<l.length):J7 left c (l.drop k) L g=
 if 0<leftOf left (l[k]'hk) then J7 left c (l.drop (k+1)) (Zao L (l[k]'hk).2.1 (l[k]'hk).1 c (leftOf left (l[k]'hk))).2 (wrap64 (g+leftOf left (l[k]'hk))) else J7 left c (l.drop (k+1)) L g:=by
 rw [List.drop_eq_getElem_cons hk]
 rfl
theorem net_any (p m:Nat) (L:Led) (c quota:Int) (w:World) (h:IsLed w p m L) (hwf:WF L) (hq:quota<=9223372036854775807):
 Calls Tryz.prog 150 #[.pointer (some ⟨p,0,none⟩),.int .u8 c,.int .i64 quota] w (Znq (.tuple #[.int .i64 (Zbk L c quota).1,.int .i64 (Zbk L c quota).2.1,.int .i64 (Zbk L c quota).2.2.1]) [m] (fun w'=>IsLed w' p m (Zbk L c quota).2.2.2) w):=by
 have hcp:=Zfe p m L w h
 have hmp:=h.ltm
 have hpp:=h.ltp
 by_cases hc:c<1\/8<c
 ·have HE:=Lib.hid (show Zbk L c quota=(0,0,1,L) by unfold Zbk;rw [if_pos hc])
  rcases hc with hc | hc
  focus have hc':decide (c<1)=true:=by simpa using hc
  rotate_left
  focus
   have hc':decide (c<1)=false:=by simp;omega
   have hc'':decide (8<c)=true:=by simpa using hc
  all_goals
   go_enter Tryz.func150,Tryz.ntmps150
   go_wp2_with fail
   refine hcp.mono ?_
   rintro e w1 ⟨p1,m1,rfl,e1,_,_,_⟩
   go_wp2
   go_ret3
   rw [HE.out]
   exact ⟨rfl,Kx e1,h.ext e1⟩
 focus
  have hc':decide (c<1)=false:=by simp;omega
  have hc'':decide (8<c)=false:=by simp;omega
  have HR:=Lib.hid (show Zbk L c quota=if (Y5 (Vj L c) quota).1≠0 then (0,0,(Y5 (Vj L c) quota).1,L) else ((J7 (Y5 (Vj L c) quota).2.1 c (Vj L c) L 0).2,(Y5 (Vj L c) quota).2.2,0,(J7 (Y5 (Vj L c) quota).2.1 c (Vj L c) L 0).1) by unfold Zbk;rw [if_neg hc])
  have hdb:=fun W (k:Ext w W)=>debts_any p m L c W (h.ext k) hwf
  have hdl:(Vj L c).length<=300:=by
   unfold Vj
   rw [(X4 _ _).length_eq]
   have h1:=Zjy c (Z2 L.lines)
   unfold Jk at h1
   have h2:=Ue L.lines
   have h3:=hwf.few
   omega
  clear hc
  go_enter Tryz.func150,Tryz.ntmps150
  go_wp2_with fail
  refine hcp.mono ?_
  rintro e w1 ⟨p1,m1,rfl,e1,_,_,_⟩
  go_wp2_with fail
  refine (hdb w1 e1).mono ?_
  rintro e w2 ⟨v2,rfl,e2,hfl2⟩
  generalize Vj L c=db at *
  have hls:=Zqk _ v2 db quota w2 hfl2.sl hdl hq
  clear hcp hdb
  go_wp2_with fail
  refine hls.mono ?_
  rintro e w3 ⟨v3,rfl,e3,hsl3⟩
  generalize Y5 db quota=r at *
  obtain ⟨re,rl,rm⟩:=r
  simp only at hsl3
  have hsl2:=hfl2.sl.ext e3
  have E3:=Xt e1 (Xt e2 e3)
  have h3:=h.ext E3
  clear hls hfl2
  by_cases hre:re=0
  focus
   subst hre
   have HE:=Lib.hid (show Zbk L c quota=((J7 rl c db L 0).2,rm,0,(J7 rl c db L 0).1) by rw [HR.out];simp)
   clear HR
   have HS3:=Lib.hid hsl3
   obtain ⟨A,cap,rfl,h1',h2',h3',h4'⟩:=hsl2
   obtain ⟨A3,cap3,rfl,q1',q2',q3',q4'⟩:=hsl3
   have hn63:(db.length:Int)<=9223372036854775807:=by omega
   have hs1:=e1.size
   have hs2:=e2.size
   go_wp2_with fail
   go_loopw [6,12,13,14,41,42,43,44,45,46,47,48,49,50,51,52,53,54,55,56,57,58,59,60,61,62,63,64,65,66,67,68,69,70,71,72] (fun gv _ _ _ iv _ _ _ _ _ _ _ _ _ _ _ _ _ _ _ _ _ _ _ _ _ _ _ _ _ _ _ _ _ _ _ wr=>∃(k:Nat) (L':Led) (g:Int),k<=db.length/\iv= .int .i64 k/\gv= .int .i64 g/\Keep [m] w3 wr/\IsLed wr p m L'/\WF L'/\J7 rl c db L 0=J7 rl c (db.drop k) L' g) (fun gv _ _ _ iv _ _ _ _ _ _ _ _ _ _ _ _ _ _ _ _ _ _ _ _ _ _ _ _ _ _ _ _ _ _ _ _=>db.length-(intOf iv).toNat)
   case atStart=>exact ⟨0,L,0,Nat.zero_le _,rfl,rfl,Keep.refl _ _,h3,hwf,rfl⟩
   obtain ⟨k,L',g,hk,rfl,rfl,kr,hLr,hwfr,hng⟩:=hrel
   by_cases hkn:k<db.length
   focus
    rw [Zqx k hkn] at hng
    rcases h4' with h4' | ⟨g2,rfl,hb2,hlt2,hcell2⟩
    ·omega
    focus
     have hld:=Ze3 wr g2 k db hkn (fun j u hu=>(Zf (a:=⟨g2,j,none⟩) (kr.block g2 hlt2 (by simp;omega))).trans (hcell2 j u hu))
     generalize db[k]'hkn=x at *
     have hlf:leftOf rl x=match rl.find? (fun y=>y.1==x.1&&y.2.1==x.2.1) with | some y=>wrap64 (x.2.2-y.2.2) | none=>x.2.2:=rfl
     have hix:=Zjn x rl 0
     have hfx:=fun W cb (kk:Ext wr W) hx=>Zrq w2.heap.size cb _ rl x W ((HS3.out.keep kr (by simp;omega)).ext kk) hx
     obtain ⟨a,b,n⟩:=x
     simp only [Xu,D.Xu] at hld
     simp only at hlf hng
     have HNG:=Lib.hid hng
     have hzr:=Zb wr (.cells #[.int .u8 0,.int .u8 0,.int .i64 0] 285)
     have ezr:=Zc wr (.cells #[.int .u8 0,.int .u8 0,.int .i64 0] 285)
     have k0:(0:Int)<=(k:Int):=by omega
     have k1:(k:Int)<(db.length:Int):=by omega
     have k2:decide ((k:Int)<(db.length:Int))=true:=by simpa using hkn
     clear hng
     go_wp2_with (first
      | (refine Zd rfl 285 _ _ _ rfl rfl hld ?_)
      | (refine Ze rfl rfl 285 _ _ rfl wr.heap.size _ rfl rfl 285 _ hzr (by kernel_rfl) (by rfl) (by rfl) ?_
         intro w5 hb5 ho5 hs5
         have e5:Ext wr w5:=hb5 _ _ (Nat.le_refl _) ezr
         have z2:=Za (j:=2) hs5 rfl))
     obtain ⟨xr,hxr⟩:∃xr,xr=wr.heap.size:=⟨_,rfl⟩
     rw [<-hxr] at hs5 ⊢
     clear hxr z2 hzr ezr hb5 ho5 hld
     refine (hfx w5 xr e5 hs5).mono ?_
     rintro e w6 ⟨rfl,e6⟩
     have hs6:=e6.at hs5
     have e56:=Xt e5 e6
     clear hfx
     rcases hix with ⟨hi,hf⟩ | ⟨j,hj,hi,hf⟩
     focus
      rw [hf] at hlf
      simp only at hlf
      rw [hi]
      rw [hlf] at HNG
      clear hi hf hlf
      have c0:=Za (j:=0) hs6 rfl
      have c1:=Za (j:=1) hs6 rfl
      obtain ⟨lo,hlo⟩:∃lo,lo=n:=⟨_,rfl⟩
      rw [<-hlo] at HNG
      have HLO:=Lib.hid hlo
      clear hlo
      by_cases hl0:0<lo
      focus
       have HN2:=Lib.hid (HNG.out.trans (if_pos hl0))
       have hl0':decide (0<n)=true:=by rw [<-HLO.out];simpa using hl0
      rotate_left
      ·have HN2:=Lib.hid (HNG.out.trans (if_neg hl0))
       have hl0':decide (0<n)=false:=by rw [<-HLO.out];simpa using hl0
       clear hl0 HNG
       go_wp2
       exact ⟨⟨k+1,L',g,by omega,by go_num,rfl,kr.trans (Kx e56),hLr.ext e56,hwfr,HN2.out⟩,by simp [intOf];omega⟩
     rotate_left
     focus
      rw [hf] at hlf
      simp only at hlf
      rw [hi,Nat.zero_add]
      rcases q4' with q4' | ⟨g3,rfl,hb3,hlt3,hcell3⟩
      ·omega
      focus
       have hc3:w6.cell? ⟨g3,j*3+2,none⟩=some (.int .i64 (rl[j]'hj).2.2):=
        (Zf (a:=⟨g3,j*3+2,none⟩) (e56.block (Nat.lt_of_lt_of_le hlt3 kr.size))).trans ((Zf (a:=⟨g3,j*3+2,none⟩) (kr.block g3 hlt3 (by simp;omega))).trans (hcell3 _ _ ((Zjr rl j 2 hj (by omega)).trans rfl)))
       have j0:(0:Int)<=(j:Int):=by omega
       have j1:(j:Int)<(rl.length:Int):=by omega
       generalize (rl[j]'hj)=y at *
       obtain ⟨y0,y1,yn⟩:=y
       simp only at hlf hc3
       rw [hlf] at HNG
       clear hi hf hlf hcell3
       have c0:=Za (j:=0) hs6 rfl
       have c1:=Za (j:=1) hs6 rfl
       obtain ⟨lo,hlo⟩:∃lo,lo=wrap64 (n-yn):=⟨_,rfl⟩
       rw [<-hlo] at HNG
       have HLO:=Lib.hid hlo
       clear hlo
       by_cases hl0:0<lo
       focus
        have HN2:=Lib.hid (HNG.out.trans (if_pos hl0))
        have hl0':decide (0<wrap64 (n-yn))=true:=by rw [<-HLO.out];simpa using hl0
       rotate_left
       ·have HN2:=Lib.hid (HNG.out.trans (if_neg hl0))
        have hl0':decide (0<wrap64 (n-yn))=false:=by rw [<-HLO.out];simpa using hl0
        clear hl0 HNG
        go_wp2
        exact ⟨⟨k+1,L',g,by omega,by go_num,rfl,kr.trans (Kx e56),hLr.ext e56,hwfr,HN2.out⟩,by simp [intOf];omega⟩
   rotate_left 2
   ·have hk':k=db.length:=by omega
    subst hk'
    rw [List.drop_length] at hng
    have hk3:decide ((db.length:Int)<(db.length:Int))=false:=by simp
    have HN:=Lib.hid (show J7 rl c db L 0=(L',g) from hng)
    clear hng
    go_wp2
    go_ret3
    rw [HE.out,HN.out]
    exact ⟨rfl,(Kx E3).trans kr,hLr⟩
  rotate_left 2
  ·have HE:=Lib.hid (show Zbk L c quota=(0,0,re,L) by rw [HR.out];simp [hre])
   have hre':(re==0)=false:=by simpa using hre
   have hre2:(re !=0)=true:=by simp [bne,hre']
   clear HR
   go_wp2
   go_ret3
   rw [HE.out]
   exact ⟨rfl,Kx E3,h3⟩
 all_goals
  have hfg:=Zo9 p m L' b a c lo w6 (hLr.ext e56) hwfr
  rw [HLO.out] at hfg
  clear hl0 HNG
  go_wp2_with fail
  refine hfg.mono ?_
  rintro e w7 ⟨rfl,k7,hL7⟩
  clear c0 c1
  go_wp2
  refine ⟨⟨k+1,_,_,by omega,by go_num,by rw [<-HLO.out],(kr.trans (Kx e56)).trans k7,?_,?_,HN2.out⟩,by simp [intOf];omega⟩
  ·rw [<-HLO.out] at hL7
   exact hL7
  exact Zig hwfr _ _ _ _
end Go.Proofs.YtipjchbdogmccaaGreat
