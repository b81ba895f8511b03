/- Places: may an offer be. Places: the offers against one that comes. Places: the next one to be filled. -/
import Derived.Test.YtipjchbdogmccaaGreatHCopy
import Derived.Test.YtipjchbdogmccaaGreatBest2
import Derived.Test.YtipjchbdogmccaaGreatAll
import Derived.Test.YtipjchbdogmccaaGreatIterK
set_option maxHeartbeats 3200000
set_option maxRecDepth 100000
namespace Go.Proofs.YtipjchbdogmccaaGreat
open Go.RowKit Go.Rg Go.BigFrame
def Zmd (o:Off):Bool:=(Xh ⟨[],1⟩ o.owner o.sell o.buy o.left o.num o.den).2.1==0
theorem cmay_any (o:Off) (w:World) (b1:o.num<=9223372036854775807) (b2:o.den<=9223372036854775807):Calls Tryz.prog 182 #[o.agg] w (Ret (.bool (Zmd o)) w):=by
 obtain ⟨o0,o1,o2,o3,o4,o5,o6⟩:=o
 unfold Zmd
 simp only [Off.agg] at *
 have e0:=Zc w (.cells #[.int .u64 o0,.int .u8 o1,.int .u8 o2,.int .u8 o3,.int .i64 o4,.int .i64 o5,.int .i64 o6] 153)
 have h0:=Zb w (.cells #[.int .u64 o0,.int .u8 o1,.int .u8 o2,.int .u8 o3,.int .i64 o4,.int .i64 o5,.int .i64 o6] 153)
 go_enter Tryz.func182,Tryz.ntmps182
 go_wp2
 refine Zh Zl 16 [0,11,12,13,14,15] (by kernel_rfl) (by kernel_rfl) ?_
 intro w1 hw1
 have q0:∀u:ExtOf w1,u.to.heap[w.heap.size]? =_:=fun u=>(Xt hw1 u.h).at h0
 have d1:=fun u:ExtOf w1=>Za (j:=1) (q0 u) rfl
 have d2:=fun u:ExtOf w1=>Za (j:=2) (q0 u) rfl
 have d3:=fun u:ExtOf w1=>Za (j:=3) (q0 u) rfl
 have d4:=fun u:ExtOf w1=>Za (j:=4) (q0 u) rfl
 have d5:=fun u:ExtOf w1=>Za (j:=5) (q0 u) rfl
 have d6:=fun u:ExtOf w1=>Za (j:=6) (q0 u) rfl
 clear q0
 simp only [Zk,Rg.hsB,Nat.reduceBEq,Nat.reduceAdd,↓reduceIte]
 repeat (go_big_quiet_step (fail))
 refine wpQuiet_nil ?_
 clear d1 d2 d3 d4 d5 d6
 refine Zv 0 51 _ #[] _ (by rfl) _ _ (by rfl) Tryz.func51 rfl rfl (by kernel_rfl) (by rfl) (by kernel_rfl) (by decide) ?_
 intro w3 h03 h3
 refine (Zps w3).mono ?_
 rintro e w4 ⟨pb,g,rfl,e4,hB4,hpb4,hg4⟩
 refine ⟨_,rfl,Xt h03 e4,?_⟩
 refine Zv 11 184 _ #[.pointer (some ⟨pb,0,none⟩),.int .u8 o1,.int .u8 o2,.int .u8 o3,.int .i64 o4,.agg #[.int .i64 o5,.int .i64 o6]] _ (by rfl) _ _ (by rfl) Tryz.func184 rfl rfl (by kernel_rfl) (by rfl) (by kernel_rfl) (by decide) ?_
 intro w5 h05 h5
 refine (Zle pb g _ o1 o2 o3 o4 o5 o6 _ (hB4.ext h5) b1 b2).mono ?_
 rintro e w6 ⟨rfl,g',k6,hB6,hg6⟩
 have s3:=(Xt e0 h03).size
 have s30:=h03.size
 have E6:Ext _ w6:=(Keep.trans_fresh (S:=[]) (Kx h05) k6 (fun x hx=>by
  right
  rcases List.mem_cons.1 hx with rfl | hx
  ·omega
  have:=hg4 x (by simpa using hx)
  omega)).ext
 refine ⟨_,rfl,E6,?_⟩
 clear k6 hB6 hg6
 generalize Xh ⟨[],1⟩ o1 o2 o3 o4 o5 o6=r at *
 obtain ⟨r1,r2,r3⟩:=r
 refine wpX_again Zl 12 [] (by kernel_rfl) E6 ?_
 intro w1 hw1
 simp only [Act.put,Rg.puC,Rg.puB]
 simp only [Zk,Rg.hsB,Nat.reduceAdd,↓reduceIte]
 repeat (go_big_quiet_step (fail))
 refine wpQuiet_nil ?_
 refine Zj (by kernel_rfl) ?_
 intro w7 e7 e7'
 simp only [Rg.puB]
 go_wp2
 go_ret
 exact ⟨rfl,Xt e0 (Xt E6 e7)⟩
structure Coming (W:World) (c p m pb:Nat) (g:Option Nat) (L:Led) (B:Bk) (o:Off) (av:Value):Prop where
 row:W.heap[c]? =some (.cells #[.pointer (some ⟨p,0,none⟩),.pointer (some ⟨pb,0,none⟩),.int .u64 o.seq,.int .u8 o.owner,.int .u8 o.sell,.int .u8 o.buy,.int .i64 o.left,.int .i64 o.num,.int .i64 o.den,av] 297 (0,0))
 led:IsLed W p m L
 book:IsBook W pb g B
theorem Coming.ext {W W':World} {c p m pb:Nat} {g:Option Nat} {L:Led} {B:Bk} {o:Off} {av:Value} (h:Coming W c p m pb g L B o av) (k:Ext W W'):Coming W' c p m pb g L B o av:=
 ⟨k.at h.row,h.led.ext k,h.book.ext k⟩
theorem Coming.keep {S:List Nat} {W W':World} {c p m pb:Nat} {g:Option Nat} {L:Led} {B:Bk} {o:Off} {av:Value} (h:Coming W c p m pb g L B o av) (k:Keep S W W') (h1:c∉S) (h2:p∉S) (h3:m∉S) (h4:pb∉S) (h5:∀x,g=some x->x∉S):
 Coming W' c p m pb g L B o av:=
 ⟨k.at h.row h1,h.led.keep k h2 h3,h.book.keep k h4 h5⟩
def agR (B:Bk) (o:Off):List Off:=X0 B.offs o.buy o.sell
def Zdz (o x:Off):Bool:=decide (0<Zff x.num x.den (Zjm o.num o.den).1 (Zjm o.num o.den).2)
theorem Zqn (n d m q:Int) (w:World) (b1:n<=9223372036854775807) (b2:d<=9223372036854775807) (b3:m<=9223372036854775807) (b4:q<=9223372036854775807):
 Calls Tryz.prog 260 #[rat (n,d),rat (m,q)] w (Ret (.int .i64 (Zff n d m q)) w):=
 (D.Zew n d m q w b1 b2 b3 b4).mono fun _ _ ⟨h1,h2⟩=>⟨h1,h2.to⟩
def cBox (b:Nat):Array Value:=#[.pointer (some ⟨b,0,none⟩)]
theorem Zno (b c p m pb:Nat) (g:Option Nat) (L:Led) (B:Bk) (o:Off) (av:Value) (hok:∀x∈B.offs,Xr x=true) (hsq:SeqB B.offs) (b1:o.num<=9223372036854775807) (b2:o.den<=9223372036854775807):
 IterKp Tryz.prog 304 (cBox b) (fun (_:Nat) W=>Coming W c p m pb g L B o av/\W.heap[b]? =some (.cells #[.pointer (some ⟨c,0,none⟩)] 295 (0,0)))
  (fun s _ _ x=>∃y,(agR B o)[s]? =some y/\Zdz o y=false/\x=y.agg) (fun s s'=>s'=s+1) (fun s=>∀y,(agR B o)[s]? =some y->Zdz o y=true) 0:=by
 intro l J Jx W hE hBs hJl hR h0
 refine (callsIn_wide (n:=0)).1 ?_
 show CallsIn Fence.wide 0 Tryz.prog 304 #[.func (.yield l) #[] #[],.pointer (some ⟨b,0,none⟩)] W _
 refine callsIn_of_wp Tryz.func304 rfl trivial ?_ rfl
 simp only [Tryz.ntmps304,List.size_toArray,List.length_cons,List.length_nil,Nat.reduceAdd,Nat.reduceSub,Array.replicate_succ,Array.replicate_zero,List.push_toArray,List.append_toArray,List.nil_append,List.cons_append]
 obtain ⟨hC,hbx⟩:=hBs 0 W h0
 have hrow:=hC.row
 obtain ⟨oseq,own,sell,buy,left,num,den⟩:=o
 simp only at hrow b1 b2
 have d0:=Za (j:=0) hbx rfl
 have r7:=Za (j:=7) hrow rfl
 have r8:=Za (j:=8) hrow rfl
 have hinv:=fun w=>Zhb num den w b1 b2
 simp only [rat] at hinv
 obtain ⟨mn,md,hmd⟩:∃mn md,Zjm num den=(mn,md):=⟨_,_,rfl⟩
 have HMD:=Lib.hid hmd
 rw [hmd] at hinv
 clear hmd
 simp only at hinv
 gi_wp2
 refine ⟨trivial,rfl,CallsIn.mono (callsIn_wide.2 (hinv W)) ?_⟩
 rintro e w2 ⟨rfl,e2⟩
 gi_wp2
 have e3:=Zc w2 (.cells #[.int .i64 mn,.int .i64 md] 27)
 have h3:=Zb w2 (.cells #[.int .i64 mn,.int .i64 md] 27)
 have s2:=e2.size
 obtain ⟨mb,hmb⟩:∃mb,mb=w2.heap.size:=⟨_,rfl⟩
 rw [<-hmb] at h3 ⊢
 have hmW:W.heap.size<=mb:=by omega
 clear hmb
 generalize hW3:w2.alloc (.cells #[.int .i64 mn,.int .i64 md] 27)=W3 at *
 have E3:=Xt e2 e3
 have hC3:=hC.ext E3
 have hb3:=E3.at hbx
 have hrow3:=hC3.row
 simp only at hrow3
 clear hW3 e2 e3 d0 r7 r8 hinv
 refine wpIn_wide.2 ?_
 refine Z9 Zl [15,16] (by kernel_rfl) (by kernel_rfl) ?_
 intro w1 hw1
 have d0:=fun u:ExtOf w1=>Za (j:=0) ((Xt hw1 u.h).at hb3) rfl
 have r1:=fun u:ExtOf w1=>Za (j:=1) ((Xt hw1 u.h).at hrow3) rfl
 have r4:=fun u:ExtOf w1=>Za (j:=4) ((Xt hw1 u.h).at hrow3) rfl
 have r5:=fun u:ExtOf w1=>Za (j:=5) ((Xt hw1 u.h).at hrow3) rfl
 simp only [Zk,Rg.hsB,Nat.reduceBEq,Nat.reduceAdd,↓reduceIte]
 repeat (go_big_quiet_step (fail))
 refine wpQuiet_nil ?_
 clear d0 r1 r4 r5
 refine Zv 15 176 _ #[.pointer (some ⟨pb,0,none⟩),.int .u8 buy,.int .u8 sell] _ (by rfl) _ _ (by rfl) Tryz.func176 rfl rfl (by kernel_rfl) (by rfl) (by kernel_rfl) (by decide) ?_
 intro w4 h04 h4
 refine (Zpu pb g B buy sell w4 (hC3.book.ext h04) hok hsq).mono ?_
 rintro e w5 ⟨v,rfl,e5,hown⟩
 refine ⟨_,rfl,Xt h04 e5,?_⟩
 obtain ⟨A,cap,rfl⟩:=Z7 hown
 refine Zkd Zl 16 [17] 0 (by kernel_rfl) (Xt h04 e5) ?_
 intro w1 hw1
 simp only [Act.put,Rg.puC,Rg.puB]
 simp only [Zk,Rg.hsB,Nat.reduceBEq,Nat.reduceAdd,↓reduceIte]
 repeat (go_big_quiet_step (fail))
 refine wpQuiet_nil ?_
 refine Xc (by kernel_rfl) ?_
 intro w6 e6 e6'
 try simp only [Act.put,Rg.puC,Rg.puB]
 try simp only [Exit.then]
 gi_wp2
 have hag:agR B ⟨oseq,own,sell,buy,left,num,den⟩=X0 B.offs buy sell:=rfl
 have hov:∀y:Off,Zdz ⟨oseq,own,sell,buy,left,num,den⟩ y=decide (0<Zff y.num y.den mn md):=fun y=>by unfold Zdz;simp only;rw [HMD.out]
 have hmb:mn<=9223372036854775807/\md<=9223372036854775807:=by
  have h1:=HMD.out
  unfold Zjm at h1
  split at h1
  rotate_left
  all_goals simp only [Prod.mk.injEq] at h1;omega
 have hlen:(X0 B.offs buy sell).length<=32:=by
  rw [(Zeo B.offs buy sell).length_eq]
  exact Nat.le_trans (List.length_filter_le _ _) hC.book.few
 have hrat:∀y∈X0 B.offs buy sell,y.num<=9223372036854775807/\y.den<=9223372036854775807:=fun y hy=>by
  have:=Zbj (hok y (Zlq hy).1)
  omega
 have E6:Ext W w6:=Xt E3 (Xt h04 (Xt e5 e6))
 have hsl6:Zhk w6 W.heap.size (.slice A (X0 B.offs buy sell).length cap) (X0 B.offs buy sell):=by
  have hs:=(Zn.of_own hown).ext e6
  obtain ⟨A2,cap2,q0,q1,q2,q3,q4⟩:=hs
  have:=E3.size
  have:=h04.size
  exact ⟨A2,cap2,q0,q1,q2,q3,by rcases q4 with q4 | ⟨g',q4,q5,q6⟩;exact .inl q4;exact .inr ⟨g',q4,by omega,q6⟩⟩
 have hm6:=(Xt h04 (Xt e5 e6)).at h3
 have hJ6:=hE 0 W w6 h0 E6
 have hlW:=hJl 0 W h0
 have HAG:=Lib.hid hag
 have HOV:=Lib.hid hov
 clear hown h3 hC3 hb3 hrow3 hrow hC hbx h0 h04 h4 e5 e6 e6' E3 E6 HMD hag hov
 generalize X0 B.offs buy sell=bst at *
 have hn63:(bst.length:Int)<=9223372036854775807:=by omega
 gi_loopw [29] (fun i wr=>∃k:Nat,k<=bst.length/\i= .int .i64 k/\J k wr/\wr.heap[mb]? =some (.cells #[.int .i64 mn,.int .i64 md] 27 (0,0))/\Zhk wr W.heap.size (.slice A bst.length cap) bst) (fun i _=>bst.length-(intOf i).toNat)
 case atStart=>exact ⟨0,Nat.zero_le _,rfl,hJ6,hm6,hsl6⟩
 obtain ⟨k,hk,rfl,hJk,hm,hsl⟩:=hrel
 by_cases hkn:k<bst.length
 ·obtain ⟨A',cap',hv,q1,q2,q3,q4⟩:=hsl
  injection hv with hv1 _ hv2
  subst hv1 hv2
  rcases q4 with q4 | ⟨gs,rfl,hbs,hlts,hcs⟩
  ·omega
  have hg:∀(j:Nat) (hj:j<7) u,(bst[k]'hkn).cells[j]? =some u->wr.cell? ⟨gs,k*7+j,none⟩=some u:=fun j hj u hu=>hcs _ _ ((Y7 bst k j hkn hj).trans hu)
  have hgk:(agR B ⟨oseq,own,sell,buy,left,num,den⟩)[k]? =some (bst[k]'hkn):=by rw [HAG.out];exact List.getElem?_eq_getElem hkn
  have hry:=hrat _ (List.getElem_mem hkn)
  generalize (bst[k]'hkn)=y at *
  have hoy:=HOV.out y
  have HGK:=Lib.hid hgk
  have HOY:=Lib.hid hoy
  clear hgk hoy
  obtain ⟨y0,y1,y2,y3,y4,y5,y6⟩:=y
  simp only at hry
  have g0:wr.cell? ⟨gs,k*7,none⟩=some (.int .u64 y0):=hg 0 (by decide) _ rfl
  have g1:wr.cell? ⟨gs,k*7+1,none⟩=some (.int .u8 y1):=hg 1 (by decide) _ rfl
  have g2:wr.cell? ⟨gs,k*7+2,none⟩=some (.int .u8 y2):=hg 2 (by decide) _ rfl
  have g3:wr.cell? ⟨gs,k*7+3,none⟩=some (.int .u8 y3):=hg 3 (by decide) _ rfl
  have g4:wr.cell? ⟨gs,k*7+4,none⟩=some (.int .i64 y4):=hg 4 (by decide) _ rfl
  have g5:wr.cell? ⟨gs,k*7+5,none⟩=some (.int .i64 y5):=hg 5 (by decide) _ rfl
  have g6:wr.cell? ⟨gs,k*7+6,none⟩=some (.int .i64 y6):=hg 6 (by decide) _ rfl
  clear hg
  have m0:=Za (j:=0) hm rfl
  have m1:=Za (j:=1) hm rfl
  have hltm:=Zg hm
  have hcmp:=fun w=>Zqn y5 y6 mn md w hry.1 hry.2 hmb.1 hmb.2
  simp only [rat] at hcmp
  gi_wp2
  refine ⟨trivial,rfl,CallsIn.mono (callsIn_wide.2 (hcmp _)) ?_⟩
  have e7:=Zc wr (.cells #[.int .u64 y0,.int .u8 y1,.int .u8 y2,.int .u8 y3,.int .i64 y4,.int .i64 y5,.int .i64 y6] 153)
  have h7:=Zb wr (.cells #[.int .u64 y0,.int .u8 y1,.int .u8 y2,.int .u8 y3,.int .i64 y4,.int .i64 y5,.int .i64 y6] 153)
  rintro e w8 ⟨rfl,e8⟩
  have h8:=e8.at h7
  have E8:=Xt e7 e8
  have hm8:=E8.at hm
  have hs8:=E8.size
  clear g0 g1 g2 g3 g4 g5 g6 m0 m1 e7 h7 e8 hcmp
  cases hq:decide (0<Zff y5 y6 mn md) with
  | true=>
    have HQ:=Lib.hid (HOY.out.trans hq)
    gi_wp2
    refine ⟨fun _ _=>trivial,?_⟩
    gi_wp2
    refine bodyPost_ret (results_none rfl _ _ _) rfl ?_
    exact ⟨⟨_,rfl⟩,.inl ⟨k,hE k _ _ hJk E8,fun y hy=>by rw [HGK.out] at hy;injection hy with hy;subst hy;exact HQ.out⟩⟩
  | false=>
    have HQ:=Lib.hid (HOY.out.trans hq)
    have c0:=Za (j:=0) h8 rfl
    have c1:=Za (j:=1) h8 rfl
    have c2:=Za (j:=2) h8 rfl
    have c3:=Za (j:=3) h8 rfl
    have c4:=Za (j:=4) h8 rfl
    have c5:=Za (j:=5) h8 rfl
    have c6:=Za (j:=6) h8 rfl
    have hr:=hR k wr w8 _ hJk E8 ⟨_,HGK.out,HQ.out,rfl⟩
    simp only [Off.agg] at hr
    obtain ⟨fn,tmps,assign,body,hy,hRd⟩:=hr
    gi_wp2
    refine ⟨rfl,RoundIn.mono hRd ?_⟩
    rintro e W3 (⟨rfl,hkp,s',hJ',hs'⟩ | ⟨rfl,hJx⟩)
    ·have hS:∀x∈[l-1,l],x<W.heap.size:=fun x hx=>by simp at hx;omega
     gi_wp2
     go_roundw
     case rel=>
      refine ⟨k+1,by omega,by go_num,by rw [<-hs'];exact hJ',hkp.at hm8 (fun hx=>by have:=hS _ hx;omega),?_⟩
      exact ⟨_,cap,rfl,q1,q2,q3,.inr ⟨gs,rfl,hbs,by have:=hkp.size;omega,fun j u hu=>(Zf ((hkp.block gs (by omega) (fun hx=>by have:=hS _ hx;omega)).trans (E8.block hlts))).trans (hcs j u hu)⟩⟩
     case measure=>simp [intOf];omega
    gi_wp2
    refine bodyPost_ret (results_none rfl _ _ _) rfl ?_
    exact ⟨⟨_,rfl⟩,.inr hJx⟩
 have hk':k=bst.length:=by omega
 subst hk'
 gi_wp2
 go_end0
 exact ⟨⟨_,rfl⟩,.inl ⟨_,hJk,fun y hy=>by rw [HAG.out,List.getElem?_eq_none (Nat.le_refl _)] at hy;cases hy⟩⟩
def Uu (L:Led) (B:Bk) (o:Off):List Off->Int×Int
 | []=>(0,0)
 | y::l=>if Zdz o y then (0,0) else if 0<Yl L B y.seq o.owner o.owner 1099511627776 o.left then (y.seq,Yl L B y.seq o.owner o.owner 1099511627776 o.left) else Uu L B o l
def X7 (L:Led) (B:Bk) (o:Off):Int×Int:=Uu L B o (agR B o)
theorem Zc9 (c:Nat) (w:World):Calls Tryz.prog 267 #[.pointer (some ⟨c,0,none⟩)] w
 (fun e w'=>e= .returned (.func (.func 304) #[] (cBox w.heap.size))/\Ext w w'/\w'.heap[w.heap.size]? =some (.cells #[.pointer (some ⟨c,0,none⟩)] 295 (0,0))):=by
 have e0:=Zc w (.cells #[.pointer (some ⟨c,0,none⟩)] 295)
 have h0:=Zb w (.cells #[.pointer (some ⟨c,0,none⟩)] 295)
 go_enter Tryz.func267,Tryz.ntmps267
 go_wp2
 go_ret
 exact ⟨rfl,e0,h0⟩
theorem load_u64 (w:World) (B:Nat) (u:Value) (t:TypeId) (h:w.heap[B]? =some (.cells #[u] t (0,0))):(loadVar 28 ⟨B,0,none⟩).run Tryz.prog w= .ok u w:=by
 have c0:=Za (j:=0) h rfl
 unfold loadVar
 go_simp
theorem load_i64 (w:World) (B:Nat) (u:Value) (t:TypeId) (h:w.heap[B]? =some (.cells #[u] t (0,0))):(loadVar 2 ⟨B,0,none⟩).run Tryz.prog w= .ok u w:=by
 have c0:=Za (j:=0) h rfl
 unfold loadVar
 go_simp
theorem Zmq (tmps:Array Value) (w:World) (B1 B2:Nat) (v u:Value) (h1:tmps.getD 2 undef= .pointer (some ⟨B1,0,none⟩)) (h2:tmps.getD 3 undef= .pointer (some ⟨B2,0,none⟩))
 (b1:w.heap[B1]? =some (.cells #[v] 28 (0,0))) (b2:w.heap[B2]? =some (.cells #[u] 2 (0,0))):(results Tryz.f234 tmps).run Tryz.prog w= .ok (.tuple #[v,u]) w:=by
 have hr:Tryz.f234.results=#[.cell 2 28,.cell 3 2]:=rfl
 have l1:=load_u64 w B1 v _ b1
 have l2:=load_i64 w B2 u _ b2
 simp only [Array.getD_eq_getD_getElem?] at h1 h2
 simp only [results,hr]
 simp [Sem.run_bind,Result.andThen,h1,h2,asAddr,l1,l2]
structure NI (w:World) (c p m pb:Nat) (g:Option Nat) (L:Led) (B:Bk) (o:Off) (av:Value) (bb:Nat) (s:Nat) (W:World):Prop where
 cm:Coming W c p m pb g L B o av
 k0:W.heap[w.heap.size]? =some (.cells #[.pointer (some ⟨c,0,none⟩)] 295 (0,0))
 k1:W.heap[w.heap.size+1]? =some (.cells #[.int .u64 0] 28 (0,0))
 k2:W.heap[w.heap.size+1+1]? =some (.cells #[.int .i64 0] 2 (0,0))
 kb:W.heap[bb]? =some (.cells #[.pointer (some ⟨c,0,none⟩)] 295 (0,0))
 be:Ext w W
 on:Uu L B o ((agR B o).drop s)=X7 L B o
structure NF (w:World) (r:Int×Int) (W:World):Prop where
 k1:W.heap[w.heap.size+1]? =some (.cells #[.int .u64 r.1] 28 (0,0))
 k2:W.heap[w.heap.size+1+1]? =some (.cells #[.int .i64 r.2] 2 (0,0))
 be:Ext w W
theorem NI.keep {w:World} {c p m pb:Nat} {g:Option Nat} {L:Led} {B:Bk} {o:Off} {av:Value} {bb s D:Nat} {W W':World} (h:NI w c p m pb g L B o av bb s W) (k:Keep [D,D+1] W W') (hw:w.heap.size+3<=D) (hb:bb<D)
 (hc:c<w.heap.size) (hp:p<w.heap.size) (hm:m<w.heap.size) (hpb:pb<w.heap.size) (hg:∀x,g=some x->x<w.heap.size):NI w c p m pb g L B o av bb s W':=
 ⟨h.cm.keep k (by simp;omega) (by simp;omega) (by simp;omega) (by simp;omega) (fun x hx=>by have:=hg x hx;simp;omega),k.at h.k0 (by simp;omega),k.at h.k1 (by simp;omega),k.at h.k2 (by simp;omega),k.at h.kb (by simp;omega),
  (Keep.trans_fresh (S:=[]) (Kx h.be) k (fun x hx=>by simp at hx;right;omega)).ext,h.on⟩
theorem NF.keep {w:World} {r:Int×Int} {D:Nat} {W W':World} (h:NF w r W) (k:Keep [D,D+1] W W') (hw:w.heap.size+3<=D):NF w r W':=
 ⟨k.at h.k1 (by simp;omega),k.at h.k2 (by simp;omega),(Keep.trans_fresh (S:=[]) (Kx h.be) k (fun x hx=>by simp at hx;right;omega)).ext⟩
theorem Zln (w W:World) (D:Nat) (r:Int×Int) (tmps:Array Value) (h2:tmps.getD 2 undef= .pointer (some ⟨w.heap.size+1,0,none⟩)) (h3:tmps.getD 3 undef= .pointer (some ⟨w.heap.size+1+1,0,none⟩))
 (hF:NF w r W) (hD:W.heap[D]? =some (.deferred (some []))) (hb:w.heap.size+3<=D):
 LeavesInM Fence.wide 0 Tryz.prog Tryz.f234 tmps (Ret (.tuple #[.int .u64 r.1,.int .i64 r.2]) w) [{ target:= .collected D,args:=#[] }] .returning W:=by
 have kf:Keep [D] W (W.putObj D (.deferred none)):=Xs _ (by simp)
 refine ⟨by simp,.inl ⟨_,_,rfl,run_takeDeferred hD,?_⟩⟩
 exact ⟨_,Zmq _ _ _ _ _ _ h2 h3 (kf.at hF.k1 (by simp;omega)) (kf.at hF.k2 (by simp;omega)),rfl,(Keep.trans_fresh (S:=[]) (Kx hF.be) kf (fun x hx=>by simp at hx;right;omega)).ext⟩
theorem next_any (c p m pb:Nat) (g:Option Nat) (L:Led) (B:Bk) (o:Off) (av:Value) (w:World) (h:Coming w c p m pb g L B o av) (hwf:WF L) (hok:OkB B) (hsq:SeqB B.offs) (b1:o.num<=9223372036854775807) (b2:o.den<=9223372036854775807):
 Calls Tryz.prog 234 #[.pointer (some ⟨c,0,none⟩)] w (Ret (.tuple #[.int .u64 (X7 L B o).1,.int .i64 (X7 L B o).2]) w):=by
 have e0:=Zc w (.cells #[.pointer (some ⟨c,0,none⟩)] 295)
 have s0:=size_alloc w (.cells #[.pointer (some ⟨c,0,none⟩)] 295)
 have h0:=Zb w (.cells #[.pointer (some ⟨c,0,none⟩)] 295)
 generalize hW1:w.alloc (.cells #[.pointer (some ⟨c,0,none⟩)] 295)=w1 at *
 have e1:=Zc w1 (.cells #[.int .u64 0] 28)
 have s1:=size_alloc w1 (.cells #[.int .u64 0] 28)
 have h1:=Zb w1 (.cells #[.int .u64 0] 28)
 generalize hW2:w1.alloc (.cells #[.int .u64 0] 28)=w2 at *
 have e2:=Zc w2 (.cells #[.int .i64 0] 2)
 have s2:=size_alloc w2 (.cells #[.int .i64 0] 2)
 have h2:=Zb w2 (.cells #[.int .i64 0] 2)
 rw [s0] at h1 s1
 rw [s1] at h2 s2
 have k0:=e2.at (e1.at h0)
 have k1:=e2.at h1
 have E2:=Xt e0 (Xt e1 e2)
 have hC:=h.ext E2
 have hlc:=Zg h.row
 have hlp:=h.led.ltp
 have hlm:=h.led.ltm
 have hlb:=h.book.ltp
 have hlg:=h.book.ltg
 have hag:=Zc9 c
 subst hW2 hW1
 clear h0 h1 e0 e1 e2
 refine (callsIn_wide (n:=0)).1 ?_
 refine callsIn_of_wp_marks Tryz.func234 rfl trivial ?_ rfl
 simp only [Tryz.ntmps234,List.size_toArray,List.length_cons,List.length_nil,Nat.reduceAdd,Nat.reduceSub,Array.replicate_succ,Array.replicate_zero,List.push_toArray,List.append_toArray,List.nil_append,List.cons_append]
 gi_wp2
 refine ⟨trivial,rfl,CallsIn.mono (callsIn_wide.2 (hag _)) ?_⟩
 rintro e w7 ⟨rfl,e7,hb7⟩
 have hw7:=e7.size
 have hbb:(((w.alloc (.cells #[.pointer (some ⟨c,0,none⟩)] 295)).alloc (.cells #[.int .u64 0] 28)).alloc (.cells #[.int .i64 0] 2)).heap.size=w.heap.size+3:=by omega
 have k07:=e7.at k0
 have k17:=e7.at k1
 have k27:=e7.at h2
 have hC7:=hC.ext e7
 have E7:Ext w w7:=Xt E2 e7
 rw [hbb] at hb7 hw7 ⊢
 have hlt7:=Zg hb7
 clear k0 k1 h2 hC E2 e7 hag hbb
 gi_wp2
 refine Zes rfl (enters_of Tryz.func304 (by kernel_rfl) rfl) rfl (Zno (w.heap.size+3) c p m pb g L B o av hok hsq b1 b2)
  (NI w c p m pb g L B o av (w.heap.size+3)) (fun cd W=>cd= .ret/\NF w (X7 L B o) W)
  (fun s A B hs hk=>hs.keep hk (by omega) (by omega) hlc hlp hlm hlb hlg) (fun cd A B hs hk=>⟨hs.1,hs.2.keep hk (by omega)⟩) (fun s A hs=>⟨hs.cm,hs.kb⟩)
  (fun s A B B' x hx _ _=>hx) ⟨hC7,k07,k17,k27,hb7,E7,rfl⟩ ?asg ?asgk ?assign ?body ?done ?stop
 case asg=>exact fun x a W=>∃y:Off,∃eb:Nat,x=y.agg/\W.heap[eb]? =some (.cells y.cells.toArray 153 (0,0))/\w7.heap.size+2<=eb/\a={ tmps:=#[.pointer (some ⟨c,0,none⟩),.pointer (some ⟨w.heap.size,0,none⟩),.pointer (some ⟨w.heap.size+1,0,none⟩),.pointer (some ⟨w.heap.size+1+1,0,none⟩),.pointer (some ⟨eb,0,none⟩),undef,.pointer (some ⟨c,0,none⟩),.func (.func 304) #[] (cBox (w.heap.size+3)),x,undef,undef,undef,undef,undef,undef,undef,undef,undef,undef,undef,undef,undef,undef,undef,undef,undef,undef,undef,undef,undef,undef,undef,undef,undef,undef,undef],defers:=[] }
 case asgk=>
  rintro x a W W' ⟨y,eb,h1,h2,h3,h4⟩ hk
  exact ⟨y,eb,h1,hk.at h2 (by simp;omega),h3,h4⟩
 case assign=>
  rintro l s A x W K ⟨y,_,_,rfl⟩ hsz hK
  have ea:=Zc W (.cells y.cells.toArray 153)
  have ha:=Zb W (.cells y.cells.toArray 153)
  have hKa:=hK _ _ ea ⟨y,W.heap.size,rfl,ha,by omega,rfl⟩
  unfold Off.cells at hKa
  unfold Off.agg at hKa ⊢
  clear hK ea ha
  refine Zeq (by kernel_rfl) (by rintro ⟨_,_,hh⟩;exact hh) ?_
  go_wp2
  exact hKa
 case body=>
  rintro s A W x aX hIA hk ⟨y,hy,hov,rfl⟩ hsz ⟨y',eb,hxy',heb,hle,rfl⟩
  have hyy:y'=y:=by
   cases y
   cases y'
   simp [Off.agg] at hxy'
   simp [hxy']
  subst hyy
  have hI:=hIA.keep hk (by omega) (by omega) hlc hlp hlm hlb hlg
  have hszW:w7.heap.size+2<=W.heap.size:=by have:=hk.size;omega
  have hmy:=fun wq hL hB=>Ze6 p m pb g L B y'.seq o.owner o.owner 1099511627776 o.left wq hL hwf hB hok
  have hs:s<(agR B o).length:=(List.getElem?_eq_some_iff.1 hy).1
  have hdrop:(agR B o).drop s=y'::(agR B o).drop (s+1):=by
   rw [List.drop_eq_getElem_cons hs]
   congr 1
   have:=List.getElem?_eq_getElem hs
   rw [hy] at this
   injection this with this
   exact this.symm
  have hon:=hI.on
  rw [hdrop] at hon
  unfold Uu at hon
  rw [hov] at hon
  simp only [Bool.false_eq_true,if_false] at hon
  generalize Yl L B y'.seq o.owner o.owner 1099511627776 o.left=n at *
  have HON:=Lib.hid hon
  have hrow:=hI.cm.row
  have hbe:=hI.be
  have hk0:=hI.k0
  have hk1:=hI.k1
  have hk2:=hI.k2
  have hkb:=hI.kb
  have hL:=hI.cm.led
  have hB:=hI.cm.book
  obtain ⟨y0,y1,y2,y3,y4,y5,y6⟩:=y'
  obtain ⟨oseq,own,sell,buy,left,num,den⟩:=o
  simp only [Off.cells] at heb
  simp only [Off.agg] at *
  clear hIA hk hy hov hxy' hdrop hon hI h hC7 k07 k17 k27 hb7 E7
  gi_wp2
  refine Uo (by kernel_rfl) (by kernel_rfl) (by rintro ⟨_,_,hh⟩;exact hh) (Ui Zl 22 [] (by kernel_rfl) ?_)
  intro w1 hw1
  have d0:=fun u:ExtOf w1=>Za (j:=0) ((Xt hw1 u.h).at hk0) rfl
  have r0:=fun u:ExtOf w1=>Za (j:=0) ((Xt hw1 u.h).at hrow) rfl
  have r1:=fun u:ExtOf w1=>Za (j:=1) ((Xt hw1 u.h).at hrow) rfl
  have r3:=fun u:ExtOf w1=>Za (j:=3) ((Xt hw1 u.h).at hrow) rfl
  have r6:=fun u:ExtOf w1=>Za (j:=6) ((Xt hw1 u.h).at hrow) rfl
  have f0:=fun u:ExtOf w1=>Za (j:=0) ((Xt hw1 u.h).at heb) rfl
  have hLq:∀u:ExtOf w1,IsLed u.to p m L:=fun u=>hL.ext (Xt hw1 u.h)
  have hBq:∀u:ExtOf w1,IsBook u.to pb g B:=fun u=>hB.ext (Xt hw1 u.h)
  simp only [Zk,Rg.hsB,Nat.reduceAdd,↓reduceIte]
  repeat (go_big_quiet_step ((go_at_call 178;exact Ret.cls (hmy _ (hLq _) (hBq _)))))
  refine wpQuiet_nil ?_
  refine Zj (by kernel_rfl) ?_
  intro w9 e9 e9'
  simp only [Rg.puB]
  clear d0 r0 r1 r3 r6 f0 hLq hBq hmy
  have hk09:=e9.at hk0
  have hk19:=e9.at hk1
  have hk29:=e9.at hk2
  have hkb9:=e9.at hkb
  have hrow9:=e9.at hrow
  have heb9:=e9.at heb
  have hL9:=hL.ext e9
  have hB9:=hB.ext e9
  have hbe9:=Xt hbe e9
  have c1:=Za (j:=0) hk19 rfl
  have c2:=Za (j:=0) hk29 rfl
  have p1:=frozen_of_row _ _ 0 _ _ hk19
  have p2:=frozen_of_row _ _ 0 _ _ hk29
  have f0:=Za (j:=0) heb9 rfl
  have hD0:w9.heap[w7.heap.size]? =W.heap[w7.heap.size]? :=e9.block (by omega)
  have hD1:w9.heap[w7.heap.size+1]? =W.heap[w7.heap.size+1]? :=e9.block (by omega)
  by_cases hn:0<n
  ·have hn':decide (0<n)=true:=by simpa using hn
   go_wp2
   gi_wp2
   iterate 8 (try (simp only [Oper.semAt];go_simp;gi_wp2))
   have hrr:X7 L B ⟨oseq,own,sell,buy,left,num,den⟩=(y0,n):=by
    have:=HON.out
    rw [if_pos hn] at this
    exact this.symm
   have k1':Keep [w.heap.size+1] w9 (w9.setCell ⟨w.heap.size+1,0,none⟩ (.int .u64 y0)):=(Keep.refl _ _).setCell (Or.inl (by simp)) _
   have g1:=heap_setCell_same w9 _ 0 _ _ (.int .u64 y0) hk19
   have g2:=k1'.at hk29 (by simp)
   have k2':Keep [w.heap.size+1+1] (w9.setCell ⟨w.heap.size+1,0,none⟩ (.int .u64 y0)) ((w9.setCell ⟨w.heap.size+1,0,none⟩ (.int .u64 y0)).setCell ⟨w.heap.size+1+1,0,none⟩ (.int .i64 n)):=(Keep.refl _ _).setCell (Or.inl (by simp)) _
   have g3:=k2'.at g1 (by simp)
   have g4:=heap_setCell_same _ _ 0 _ _ (.int .i64 n) g2
   have hs9:=e9.size
   have hs10:=k1'.size
   have hEE:Ext w ((w9.setCell ⟨w.heap.size+1,0,none⟩ (.int .u64 y0)).setCell ⟨w.heap.size+1+1,0,none⟩ (.int .i64 n)):=
    (Keep.trans_fresh (S:=[]) (Keep.trans_fresh (S:=[]) (Kx hbe9) k1' (fun x hx=>by simp at hx;right;omega)) k2' (fun x hx=>by simp at hx;right;omega)).ext
   exact ⟨⟨(k2'.block _ (by omega) (by simp;omega)).trans ((k1'.block _ (by omega) (by simp;omega)).trans hD0),(k2'.block _ (by omega) (by simp;omega)).trans ((k1'.block _ (by omega) (by simp;omega)).trans hD1)⟩,rfl,
    ⟨by rw [hrr];exact g3,by rw [hrr];exact g4,hEE⟩⟩
  have hn':decide (0<n)=false:=by simpa using hn
  have hon2:Uu L B ⟨oseq,own,sell,buy,left,num,den⟩ ((agR B ⟨oseq,own,sell,buy,left,num,den⟩).drop (s+1))=X7 L B ⟨oseq,own,sell,buy,left,num,den⟩:=by
   have:=HON.out
   rwa [if_neg hn] at this
  have HN2:=Lib.hid hon2
  clear hon2 HON
  go_wp2
  gi_wp2
  simp only [Oper.semAt]
  go_simp
  gi_wp2
  exact ⟨Kx e9,⟨hD0,hD1⟩,s+1,⟨⟨hrow9,hL9,hB9⟩,hk09,hk19,hk29,hkb9,hbe9,HN2.out⟩,rfl⟩
 case done=>
  intro s W hend hI hD
  have hr:X7 L B o=(0,0):=by
   rw [<-hI.on]
   cases hq:(agR B o).drop s with
   | nil=>rfl
   | cons y ys=>
     have hy:(agR B o)[s]? =some y:=by
      have:=List.getElem?_drop (xs:=agR B o) (i:=s) (j:=0)
      rw [hq] at this
      simpa using this.symm
     unfold Uu
     rw [if_pos (hend y hy)]
  have hk1:=hI.k1
  have hk2:=hI.k2
  have hbe:=hI.be
  have HR:=Lib.hid hr
  clear hI hr hend
  have c1:=Za (j:=0) hk1 rfl
  have c2:=Za (j:=0) hk2 rfl
  have p1:=frozen_of_row _ _ 0 _ _ hk1
  have p2:=frozen_of_row _ _ 0 _ _ hk2
  gi_wp2
  have k1':Keep [w.heap.size+1] W (W.setCell ⟨w.heap.size+1,0,none⟩ (.int .u64 0)):=(Keep.refl _ _).setCell (Or.inl (by simp)) _
  have g1:=heap_setCell_same W _ 0 _ _ (.int .u64 0) hk1
  have g2:=k1'.at hk2 (by simp)
  have k2':Keep [w.heap.size+1+1] (W.setCell ⟨w.heap.size+1,0,none⟩ (.int .u64 0)) ((W.setCell ⟨w.heap.size+1,0,none⟩ (.int .u64 0)).setCell ⟨w.heap.size+1+1,0,none⟩ (.int .i64 0)):=(Keep.refl _ _).setCell (Or.inl (by simp)) _
  have g3:=k2'.at g1 (by simp)
  have g4:=heap_setCell_same _ _ 0 _ _ (.int .i64 0) g2
  have g5:=k2'.at (k1'.at hD (by simp;omega)) (by simp;omega)
  have hEE:Ext w ((W.setCell ⟨w.heap.size+1,0,none⟩ (.int .u64 0)).setCell ⟨w.heap.size+1+1,0,none⟩ (.int .i64 0)):=
   (Keep.trans_fresh (S:=[]) (Keep.trans_fresh (S:=[]) (Kx hbe) k1' (fun x hx=>by simp at hx;right;omega)) k2' (fun x hx=>by simp at hx;right;omega)).ext
  exact Zln w _ w7.heap.size (X7 L B o) _ rfl rfl ⟨by rw [HR.out];exact g3,by rw [HR.out];exact g4,hEE⟩ g5 (by omega)
 case stop=>
  rintro cd W ⟨rfl,hF⟩ hD
  gi_wp2
  exact Zln w _ w7.heap.size (X7 L B o) _ rfl rfl hF hD (by omega)
end Go.Proofs.YtipjchbdogmccaaGreat
