/- QuotesLeast: what a swap costs is the least; walked. -/
import Derived.Test.YtipjchbdogmccaaGreatQx
namespace Go.Proofs.YtipjchbdogmccaaGreat
open Go.RowKit Go.Rg Go.BigFrame
theorem IsM.keepRow {w w':World} {q p m pb:Nat} {g:Option Nat} {L:Led} {B:Bk} (h:IsM w q p m pb g L B) {b:Nat} {cs:Array Value} {t:TypeId} (hr:w.heap[b]? =some (.cells cs t (0,0))) (k:Keep [b] w w') (t1:105≠t) (t2:t≠203) (t3:t≠205) (t4:t≠153):IsM w' q p m pb g L B:=by
 have h1:=Zgc h.led hr t2
 have h2:=Zdq h.book hr t3 t4
 have h3:=Za6 h.row hr t1
 exact h.keep k (by simpa using h3) h1.1 h1.2 h2.1 h2.2
structure QlI (w W:World) (xb S R q p m pb:Nat) (g:Option Nat) (L:Led) (B:Bk) (ask:Array Value) (st rp:Array Value):Prop where
 be:Ext w W
 ask:W.heap[xb]? =some (.cells ask 110 (0,0))
 st:W.heap[S]? =some (.cells st 30 (0,0))
 rp:W.heap[R]? =some (.cells rp 38 (0,0))
 mac:IsM W q p m pb g L B
 leS:w.heap.size<=S
 leR:w.heap.size<=R
theorem QlI.ext {w W W':World} {xb S R q p m pb:Nat} {g:Option Nat} {L:Led} {B:Bk} {ask st rp:Array Value} (h:QlI w W xb S R q p m pb g L B ask st rp) (k:Ext W W'):QlI w W' xb S R q p m pb g L B ask st rp:=
 ⟨Xt h.be k,k.at h.ask,k.at h.st,k.at h.rp,h.mac.ext k,h.leS,h.leR⟩
theorem QlI.stp {w W W':World} {xb S R q p m pb:Nat} {g:Option Nat} {L:Led} {B:Bk} {ask st st' rp:Array Value} (h:QlI w W xb S R q p m pb g L B ask st rp) (k:Keep [S] W W') (hr:W'.heap[S]? =some (.cells st' 30 (0,0))):QlI w W' xb S R q p m pb g L B ask st' rp:=
 ⟨((Kx (S:=[]) h.be).trans_fresh k (fun x hx=>by right;simp at hx;subst hx;exact h.leS)).ext,k.at h.ask (by simpa using Za6 h.ask h.st (by decide)),hr,k.at h.rp (by simpa using Za6 h.rp h.st (by decide)),h.mac.keepRow h.st k (by decide) (by decide) (by decide) (by decide),h.leS,h.leR⟩
theorem QlI.rep {w W W':World} {xb S R q p m pb:Nat} {g:Option Nat} {L:Led} {B:Bk} {ask st rp rp':Array Value} (h:QlI w W xb S R q p m pb g L B ask st rp) (k:Keep [R] W W') (hr:W'.heap[R]? =some (.cells rp' 38 (0,0))):QlI w W' xb S R q p m pb g L B ask st rp':=
 ⟨((Kx (S:=[]) h.be).trans_fresh k (fun x hx=>by right;simp at hx;subst hx;exact h.leR)).ext,k.at h.ask (by simpa using Za6 h.ask h.rp (by decide)),k.at h.st (by simpa using Za6 h.st h.rp (by decide)),hr,h.mac.keepRow h.rp k (by decide) (by decide) (by decide) (by decide),h.leS,h.leR⟩
theorem Jy {w w':World} {b:Nat} (hb:∀(B:Nat) (w0:World),B<=b->Below B w0 w->Below B w0 w') (ho:∀k,k≠b->w'.heap[k]? =w.heap[k]?):Keep [b] w w':=by
 have h:=hb b w (Nat.le_refl _) (Below.refl _ _)
 exact ⟨h.os,h.tape,h.output,h.size,fun i _ hA=>ho i (by simpa using hA)⟩
set_option maxRecDepth 100000 in
set_option maxHeartbeats 25600000 in
theorem Zqp (va:Value) (l:List Cmd) (fr to get give n:Int) (w:World) (ha:Zbu w 1 va l.length (l.flatMap Cmd.cells)) (hla:∀x∈l,Zd4 w x) (hn1: -9223372036854775808<=n) (hn2:n<=9223372036854775807):
 Calls Tryz.prog 12 #[va,.agg #[.int .u8 fr,.int .u8 to,.int .u8 get,.int .u8 give,.int .i64 n]] w (Ret (.bool true) w):=by
 obtain ⟨W,hW,eW,hb,sW⟩:=Y8 w #[.int .u8 fr,.int .u8 to,.int .u8 get,.int .u8 give,.int .i64 n] 110
 have hgr:=Zjp va l W (ha.ext eW) (fun x hx=>(hla x hx).ext eW)
 have hmd:=fun W' (k:Ext W W')=>Zk7 va l W' (ha.ext (Xt eW k)) (fun x hx=>(hla x hx).ext (Xt eW k))
 have y0:=Za (j:=0) hb rfl
 have y1:=Za (j:=1) hb rfl
 have y2:=Za (j:=2) hb rfl
 have y3:=Za (j:=3) hb rfl
 have y4:=Za (j:=4) hb rfl
 clear ha hla sW
 go_enter Tryz.func12,Tryz.ntmps12
 go_wp2_with (rw [hW])
 refine hgr.mono ?_
 clear hgr
 rintro e w1 ⟨⟨bg,rfl,_⟩,e1⟩
 cases bg with
 | true=>
   go_wp2_with fail
   refine (Vg _).mono ?_
   rintro e wz ⟨rfl,ez⟩
   go_wp2_with fail
   go_ret
   exact ⟨rfl,Xt eW (Xt e1 ez)⟩
 | false=>
   go_wp2_with fail
   refine (hmd w1 e1).mono ?_
   clear hmd
   rintro e w2 ⟨q,p,m,pb,g,L,B,rfl,e2,hM,_⟩
   have XX:=Xt e1 e2
   clear y0 y1 y2 y3 y4
   have y0:=Za (j:=0) (XX.at hb) rfl
   have y1:=Za (j:=1) (XX.at hb) rfl
   have y2:=Za (j:=2) (XX.at hb) rfl
   have y3:=Za (j:=3) (XX.at hb) rfl
   have y4:=Za (j:=4) (XX.at hb) rfl
   have hs:=sw_ok hM.ok
   have HS:=Lib.hid hs
   clear hs e1 e2
   go_wp2_with fail
   refine (U1 q p m pb g L B fr to get give n w2 hM hn2).mono ?_
   rintro e w3 ⟨rfl,e3⟩
   have XX:=Xt XX e3
   clear y0 y1 y2 y3 y4
   have y0:=Za (j:=0) (XX.at hb) rfl
   have y1:=Za (j:=1) (XX.at hb) rfl
   have y2:=Za (j:=2) (XX.at hb) rfl
   have y3:=Za (j:=3) (XX.at hb) rfl
   have y4:=Za (j:=4) (XX.at hb) rfl
   have hM:=hM.ext e3
   have ap1:=Zc8 fr to get give n 1099511627776 L B
   have hde:=Zar L B fr to get give n
   have hdz:=fun h=>dear_zero (L:=L) (B:=B) (fr:=fr) (to:=to) (get:=get) (give:=give) (n:=n) h
   have hz:=Zb w3 (.cells #[.int .u8 0,.int .u8 0,.int .u8 0,.int .u8 0,.int .u8 0,.int .i64 0,.int .i64 0,.int .i64 0,.int .i64 0,.int .u64 0] 30)
   have hdv:Yh L B fr to get give n=Yh L B fr to get give n:=rfl
   generalize hdd0:Yh L B fr to get give n=dv at *
   obtain ⟨c,ce⟩:=dv
   simp only at hde hdz
   have HDD:=Lib.hid hdd0
   clear hdd0 hdv
   generalize hE:(Z4 L B fr to get give n 1099511627776).1=E at *
   subst hde
   go_wp2_with (first
    | (refine Ze rfl rfl 30 _ _ rfl w3.heap.size _ rfl rfl 30 _ hz (by kernel_rfl) (by rfl) (by rfl) ?_
       intro w4 hb4 ho4 h4))
   have s3W:=XX.size
   have s34:=Zg h4
   have e4:Ext w3 w4:=hb4 _ _ (Nat.le_refl _) (Zc _ _)
   have XX:=Xt XX e4
   have hM:=hM.ext e4
   have hb4':=XX.at hb
   clear y0 y1 y2 y3 y4 hb4 ho4 hz
   refine Zh Zl 7 [1,3,4,5,6] (by kernel_rfl) (by kernel_rfl) ?_
   intro w1 hw1
   have lds:=fun wq (hq:Cls w1 wq)=>run_loadVar_row wq w3.heap.size _ _ _ _ _ ((Xt hw1 (Zgo hq)).at h4) Tryz.underlying30 rfl (by kernel_rfl)
   simp only [Zk,Rg.hsB,Nat.reduceBEq,Nat.reduceAdd,↓reduceIte]
   repeat (first | go_big_quiet_step ((fail)) | (go_big_quiet_want;(refine Z0 30 _ _ _ rfl rfl lds ?_);go_big_quiet_on;simp only [Act.put,Rg.puB]))
   refine wpQuiet_nil ?_
   clear lds
   refine Zfg [1,3,4,5,6] (by simp) (by simp) q p m pb g L B (swS fr to get give n 1099511627776) w4 w1 hM (Jw _ ⟨hn2,show (1099511627776:Int)<=_ by decide,show (0:Int)<=_ by decide,show (0:Int)<=_ by decide⟩) 43 45 44 46 47 48 9 _ _ _ _ _ _ _ _ ⟨rfl,rfl,rfl,rfl⟩ ⟨rfl,rfl,rfl,rfl⟩ ⟨rfl,rfl,rfl,rfl⟩ ⟨rfl,rfl,rfl,rfl⟩ (fun _=>⟨rfl,rfl,rfl,rfl⟩) rfl rfl (by decide) (by decide) (by decide) (of_decide_eq_true (by kernel_rfl)) (by kernel_rfl) hw1 ?_
   intro v1 v3 v4 v6 w5 A cp e5 sg hp6
   obtain ⟨R,rfl,hR,hRr⟩:=hp6 (by simp)
   generalize (Z6 [swS fr to get give n 1099511627776] L B).1=r1 at *
   subst ap1
   have hgl:swG L B fr to get give n 1099511627776=swG L B fr to get give n 1099511627776:=rfl
   generalize swG L B fr to get give n 1099511627776=gl at *
   clear hgl hp6
   simp only at sg
   simp only [List.drop_succ_cons,List.drop_zero,Rg.puB]
   have Q5:QlI w w5 w.heap.size w3.heap.size R q p m pb g L B #[.int .u8 fr,.int .u8 to,.int .u8 get,.int .u8 give,.int .i64 n] #[.int .u8 4,.int .u8 fr,.int .u8 to,.int .u8 get,.int .u8 give,.int .i64 n,.int .i64 1099511627776,.int .i64 0,.int .i64 0,.int .u64 0] #[.int .i64 0,.int .i64 0,.slice none 0 0]:=
    ⟨Xt eW (Xt XX e5),e5.at hb4',e5.at h4,hRr,hM.ext e5,Nat.le_trans eW.size s3W,by have:=eW.size;omega⟩
   clear hRr hM h4 hb4' e5 hw1 e4 hb
   by_cases hce:ce=0
   ·subst hce
    have rp5:=Q5.rp
    have hd2:(Yh L B fr to get give n).2=0:=by rw [HDD.out]
    have hdp:=Zfd HS.out hd2
    rw [HDD.out] at hdp
    simp only at hdp
    obtain ⟨g1,g2,g3,g4⟩:=hdp
    go_wp2_with (first
     | (refine Ze rfl rfl 38 _ _ rfl R _ rfl rfl 38 _ rp5 (by kernel_rfl) (by rfl) (by rfl) ?_
        intro w6 hb6 ho6 h6
        have z0:=Za (j:=0) h6 rfl
        have Q6:=Q5.rep (Jy hb6 ho6) h6
        have z6:=Za (j:=6) Q6.st rfl
        have f6:=frozen_of_row _ _ 6 _ _ Q6.st
        have hs7:=heap_setCell_same w6 w3.heap.size 6 _ _ (.int .i64 c) Q6.st))
    have k7:Keep [w3.heap.size] w6 (w6.setCell ⟨w3.heap.size,6,none⟩ (.int .i64 c)):=(Keep.refl _ _).setCell (.inl (by simp)) _
    have Q7:QlI w (w6.setCell ⟨w3.heap.size,6,none⟩ (.int .i64 c)) w.heap.size w3.heap.size R q p m pb g L B #[.int .u8 fr,.int .u8 to,.int .u8 get,.int .u8 give,.int .i64 n] #[.int .u8 4,.int .u8 fr,.int .u8 to,.int .u8 get,.int .u8 give,.int .i64 n,.int .i64 (c),.int .i64 0,.int .i64 0,.int .u64 0] #[.int .i64 0,.int .i64 0,.slice A gl.length cp]:=Q6.stp k7 hs7
    generalize w6.setCell ⟨w3.heap.size,6,none⟩ (.int .i64 c)=w7 at *
    clear k7 hs7 z0 z6 f6 h6 hb6 ho6 Q6 Q5 rp5 sg
    obtain ⟨⟨sa1,sa2⟩,_⟩:((Z4 L B fr to get give n c).1=0/\Y1 (Z4 L B fr to get give n c).2.2.2=c)/\True:=⟨by have:=(Zmn hd2 g3 g4).1 (by rw [HDD.out];exact Int.le_refl _);rw [HDD.out] at this;exact this,trivial⟩
    have hg2:swG L B fr to get give n c=[(c,((Z4 L B fr to get give n c).2.2.2.length:Int))]:=by unfold swG;rw [if_neg (by simpa using sa1),sa2]
    have ap2:=Zc8 fr to get give n c L B
    rw [sa1,hg2] at ap2
    generalize ((Z4 L B fr to get give n c).2.2.2.length:Int)=ln at *
    have AP2:=Lib.hid ap2
    clear ap2 sa1 sa2 hg2
    have st7:=Q7.st
    have mc7:=Q7.mac
    refine Zh Zl 6 [1,3,4,5] (by kernel_rfl) (by kernel_rfl) ?_
    intro w1 hw1
    have lds:=fun wq (hq:Cls w1 wq)=>run_loadVar_row wq w3.heap.size _ _ _ _ _ ((Xt hw1 (Zgo hq)).at st7) Tryz.underlying30 rfl (by kernel_rfl)
    simp only [Zk,Rg.hsB,Nat.reduceBEq,Nat.reduceAdd,↓reduceIte]
    repeat (first | go_big_quiet_step ((fail)) | (go_big_quiet_want;(refine Z0 30 _ _ _ rfl rfl lds ?_);go_big_quiet_on;simp only [Act.put,Rg.puB]))
    refine wpQuiet_nil ?_
    clear lds st7
    refine Zfg [1,3,4,5] (by simp) (by simp) q p m pb g L B (swS fr to get give n (c)) w7 w1 mc7 (Jw _ ⟨hn2,show c<=9223372036854775807 by omega,show (0:Int)<=_ by decide,show (0:Int)<=_ by decide⟩) 62 64 63 65 66 67 68 _ _ _ _ ⟨none,.alloc 0,0,"",#[],none⟩ _ _ _ ⟨rfl,rfl,rfl,rfl⟩ ⟨rfl,rfl,rfl,rfl⟩ ⟨rfl,rfl,rfl,rfl⟩ ⟨rfl,rfl,rfl,rfl⟩ (fun h=>absurd h (by decide)) rfl rfl (by decide) (by decide) (by decide) (of_decide_eq_true (by kernel_rfl)) (by kernel_rfl) hw1 ?_
    intro v1 v3 v4 v6 w8 A2 cp2 e8 sg2 _
    have Q8:=Q7.ext e8
    have ltR:=Zg Q7.rp
    have ap2:=AP2.out
    generalize (Z6 [swS fr to get give n c] L B).1=r2 at *
    subst ap2
    simp only at sg2
    simp only [List.drop_succ_cons,List.drop_zero,Rg.puB]
    obtain ⟨A8,c8,hv8,_,_,_,s84⟩:=sg2
    injection hv8 with hA8 _ hc8
    subst hA8
    subst hc8
    rcases s84 with s84 | ⟨ga,rfl,hga,hlt8,hcl8⟩
    ·simp at s84
    have x8:=hcl8 0 _ rfl
    have rp8:=Q8.rp
    clear hcl8 mc7 AP2
    by_cases hn1':1<n
    ·have hdl:=Zmb HS.out (fr:=fr) (to:=to) (get:=get) (give:=give) (by omega) hd2
     rw [HDD.out] at hdl
     have HDL:=Lib.hid hdl
     clear hdl
     by_cases hc1:1<c
     ·
      go_wp2_with (first
       | (refine Ze rfl rfl 38 _ _ rfl R _ rfl rfl 38 _ rp8 (by kernel_rfl) (by rfl) (by rfl) ?_
          intro w9 hb9 ho9 h9
          have z0:=Za (j:=0) h9 rfl
          have Q9:=Q8.rep (Jy hb9 ho9) h9
          have y4:=Za (j:=4) Q9.ask rfl
          have z2:=Za (j:=2) h9 rfl
          have xg:=(Zf (a:=⟨ga,0,none⟩) (ho9 ga (by omega))).trans x8
          have z6:=Za (j:=6) Q9.st rfl
          have f6:=frozen_of_row _ _ 6 _ _ Q9.st
          have hs10:=heap_setCell_same w9 w3.heap.size 6 _ _ (.int .i64 (c-1)) Q9.st))
      have k10:Keep [w3.heap.size] w9 (w9.setCell ⟨w3.heap.size,6,none⟩ (.int .i64 (c-1))):=(Keep.refl _ _).setCell (.inl (by simp)) _
      have Q10:QlI w (w9.setCell ⟨w3.heap.size,6,none⟩ (.int .i64 (c-1))) w.heap.size w3.heap.size R q p m pb g L B #[.int .u8 fr,.int .u8 to,.int .u8 get,.int .u8 give,.int .i64 n] #[.int .u8 4,.int .u8 fr,.int .u8 to,.int .u8 get,.int .u8 give,.int .i64 n,.int .i64 (c-1),.int .i64 0,.int .i64 0,.int .u64 0] #[.int .i64 0,.int .i64 0,.slice (some ⟨ga,0,none⟩) 1 cp2]:=Q9.stp k10 hs10
      generalize w9.setCell ⟨w3.heap.size,6,none⟩ (.int .i64 (c-1))=w10 at *
      clear k10 hs10 z0 z2 z6 f6 h9 hb9 ho9 Q9 rp8 xg x8 y4
      have sb1:(Z4 L B fr to get give n (c-1)).1=12:=(Zmn hd2 (mx:=c-1) (by omega) (by omega)).2 (by rw [HDD.out];show c-1<c;omega)
      have hg3:swG L B fr to get give n (c-1)=[]:=by unfold swG;rw [if_pos (by rw [sb1];decide)]
      have ap3:=Zc8 fr to get give n (c-1) L B
      rw [sb1,hg3] at ap3
      have AP3:=Lib.hid ap3
      clear ap3 sb1 hg3
      have st10:=Q10.st
      have mc10:=Q10.mac
      refine Zh Zl 6 [1,3,4,5] (by kernel_rfl) (by kernel_rfl) ?_
      intro w1 hw1
      have lds:=fun wq (hq:Cls w1 wq)=>run_loadVar_row wq w3.heap.size _ _ _ _ _ ((Xt hw1 (Zgo hq)).at st10) Tryz.underlying30 rfl (by kernel_rfl)
      simp only [Zk,Rg.hsB,Nat.reduceBEq,Nat.reduceAdd,↓reduceIte]
      repeat (first | go_big_quiet_step ((fail)) | (go_big_quiet_want;(refine Z0 30 _ _ _ rfl rfl lds ?_);go_big_quiet_on;simp only [Act.put,Rg.puB]))
      refine wpQuiet_nil ?_
      clear lds st10
      refine Zfg [1,3,4,5] (by simp) (by simp) q p m pb g L B (swS fr to get give n (c-1)) w10 w1 mc10 (Jw _ ⟨hn2,show c-1<=9223372036854775807 by omega,show (0:Int)<=_ by decide,show (0:Int)<=_ by decide⟩) 95 97 96 98 99 100 101 _ _ _ _ ⟨none,.alloc 0,0,"",#[],none⟩ _ _ _ ⟨rfl,rfl,rfl,rfl⟩ ⟨rfl,rfl,rfl,rfl⟩ ⟨rfl,rfl,rfl,rfl⟩ ⟨rfl,rfl,rfl,rfl⟩ (fun h=>absurd h (by decide)) rfl rfl (by decide) (by decide) (by decide) (of_decide_eq_true (by kernel_rfl)) (by kernel_rfl) hw1 ?_
      intro v1' v3' v4' v6' w11 A3 cp3 e11 sg3 _
      have Q11:=Q10.ext e11
      have ap3:=AP3.out
      generalize (Z6 [swS fr to get give n (c-1)] L B).1=r3 at *
      subst ap3
      simp only [List.drop_succ_cons,List.drop_zero,Rg.puB]
      have rp11:=Q11.rp
      clear mc10 AP3 sg3
      go_wp2_with (first
       | (refine Ze rfl rfl 38 _ _ rfl R _ rfl rfl 38 _ rp11 (by kernel_rfl) (by rfl) (by rfl) ?_
          intro w12 hb12 ho12 h12
          have z0:=Za (j:=0) h12 rfl
          have Q12:=Q11.rep (Jy hb12 ho12) h12
          have y4:=Za (j:=4) Q12.ask rfl
          have y0:=Za (j:=0) Q12.ask rfl
          have y1:=Za (j:=1) Q12.ask rfl
          have y2:=Za (j:=2) Q12.ask rfl
          have y3:=Za (j:=3) Q12.ask rfl))
      refine (U1 q p m pb g L B fr to get give (n-1) w12 Q12.mac (by omega)).mono ?_
      rintro e wd ⟨rfl,ed⟩
      rw [HDL.out.1]
      have hle:=HDL.out.2
      have Qd:=Q12.ext ed
      go_wp2_with fail
      refine (Vg _).mono ?_
      rintro e wz ⟨rfl,ez⟩
      go_wp2_with fail
      go_ret
      exact ⟨rfl,Xt Qd.be ez⟩
     ·
      go_wp2_with (first
       | (refine Ze rfl rfl 38 _ _ rfl R _ rfl rfl 38 _ rp8 (by kernel_rfl) (by rfl) (by rfl) ?_
          intro w9 hb9 ho9 h9
          have z0:=Za (j:=0) h9 rfl
          have Q9:=Q8.rep (Jy hb9 ho9) h9
          have y4:=Za (j:=4) Q9.ask rfl
          have z2:=Za (j:=2) h9 rfl
          have xg:=(Zf (a:=⟨ga,0,none⟩) (ho9 ga (by omega))).trans x8
          have y0:=Za (j:=0) Q9.ask rfl
          have y1:=Za (j:=1) Q9.ask rfl
          have y2:=Za (j:=2) Q9.ask rfl
          have y3:=Za (j:=3) Q9.ask rfl))
      refine (U1 q p m pb g L B fr to get give (n-1) w9 Q9.mac (by omega)).mono ?_
      rintro e wd ⟨rfl,ed⟩
      rw [HDL.out.1]
      have hle:=HDL.out.2
      have Qd:=Q9.ext ed
      go_wp2_with fail
      refine (Vg _).mono ?_
      rintro e wz ⟨rfl,ez⟩
      go_wp2_with fail
      go_ret
      exact ⟨rfl,Xt Qd.be ez⟩
    by_cases hc1:1<c
    ·
     go_wp2_with (first
      | (refine Ze rfl rfl 38 _ _ rfl R _ rfl rfl 38 _ rp8 (by kernel_rfl) (by rfl) (by rfl) ?_
         intro w9 hb9 ho9 h9
         have z0:=Za (j:=0) h9 rfl
         have Q9:=Q8.rep (Jy hb9 ho9) h9
         have y4:=Za (j:=4) Q9.ask rfl
         have z2:=Za (j:=2) h9 rfl
         have xg:=(Zf (a:=⟨ga,0,none⟩) (ho9 ga (by omega))).trans x8
         have z6:=Za (j:=6) Q9.st rfl
         have f6:=frozen_of_row _ _ 6 _ _ Q9.st
         have hs10:=heap_setCell_same w9 w3.heap.size 6 _ _ (.int .i64 (c-1)) Q9.st))
     have k10:Keep [w3.heap.size] w9 (w9.setCell ⟨w3.heap.size,6,none⟩ (.int .i64 (c-1))):=(Keep.refl _ _).setCell (.inl (by simp)) _
     have Q10:QlI w (w9.setCell ⟨w3.heap.size,6,none⟩ (.int .i64 (c-1))) w.heap.size w3.heap.size R q p m pb g L B #[.int .u8 fr,.int .u8 to,.int .u8 get,.int .u8 give,.int .i64 n] #[.int .u8 4,.int .u8 fr,.int .u8 to,.int .u8 get,.int .u8 give,.int .i64 n,.int .i64 (c-1),.int .i64 0,.int .i64 0,.int .u64 0] #[.int .i64 0,.int .i64 0,.slice (some ⟨ga,0,none⟩) 1 cp2]:=Q9.stp k10 hs10
     generalize w9.setCell ⟨w3.heap.size,6,none⟩ (.int .i64 (c-1))=w10 at *
     clear k10 hs10 z0 z2 z6 f6 h9 hb9 ho9 Q9 rp8 xg x8 y4
     have sb1:(Z4 L B fr to get give n (c-1)).1=12:=(Zmn hd2 (mx:=c-1) (by omega) (by omega)).2 (by rw [HDD.out];show c-1<c;omega)
     have hg3:swG L B fr to get give n (c-1)=[]:=by unfold swG;rw [if_pos (by rw [sb1];decide)]
     have ap3:=Zc8 fr to get give n (c-1) L B
     rw [sb1,hg3] at ap3
     have AP3:=Lib.hid ap3
     clear ap3 sb1 hg3
     have st10:=Q10.st
     have mc10:=Q10.mac
     refine Zh Zl 6 [1,3,4,5] (by kernel_rfl) (by kernel_rfl) ?_
     intro w1 hw1
     have lds:=fun wq (hq:Cls w1 wq)=>run_loadVar_row wq w3.heap.size _ _ _ _ _ ((Xt hw1 (Zgo hq)).at st10) Tryz.underlying30 rfl (by kernel_rfl)
     simp only [Zk,Rg.hsB,Nat.reduceBEq,Nat.reduceAdd,↓reduceIte]
     repeat (first | go_big_quiet_step ((fail)) | (go_big_quiet_want;(refine Z0 30 _ _ _ rfl rfl lds ?_);go_big_quiet_on;simp only [Act.put,Rg.puB]))
     refine wpQuiet_nil ?_
     clear lds st10
     refine Zfg [1,3,4,5] (by simp) (by simp) q p m pb g L B (swS fr to get give n (c-1)) w10 w1 mc10 (Jw _ ⟨hn2,show c-1<=9223372036854775807 by omega,show (0:Int)<=_ by decide,show (0:Int)<=_ by decide⟩) 95 97 96 98 99 100 101 _ _ _ _ ⟨none,.alloc 0,0,"",#[],none⟩ _ _ _ ⟨rfl,rfl,rfl,rfl⟩ ⟨rfl,rfl,rfl,rfl⟩ ⟨rfl,rfl,rfl,rfl⟩ ⟨rfl,rfl,rfl,rfl⟩ (fun h=>absurd h (by decide)) rfl rfl (by decide) (by decide) (by decide) (of_decide_eq_true (by kernel_rfl)) (by kernel_rfl) hw1 ?_
     intro v1' v3' v4' v6' w11 A3 cp3 e11 sg3 _
     have Q11:=Q10.ext e11
     have ap3:=AP3.out
     generalize (Z6 [swS fr to get give n (c-1)] L B).1=r3 at *
     subst ap3
     simp only [List.drop_succ_cons,List.drop_zero,Rg.puB]
     have rp11:=Q11.rp
     clear mc10 AP3 sg3
     go_wp2_with (first
      | (refine Ze rfl rfl 38 _ _ rfl R _ rfl rfl 38 _ rp11 (by kernel_rfl) (by rfl) (by rfl) ?_
         intro w12 hb12 ho12 h12
         have z0:=Za (j:=0) h12 rfl
         have Q12:=Q11.rep (Jy hb12 ho12) h12
         have y4:=Za (j:=4) Q12.ask rfl
         have y0:=Za (j:=0) Q12.ask rfl
         have y1:=Za (j:=1) Q12.ask rfl
         have y2:=Za (j:=2) Q12.ask rfl
         have y3:=Za (j:=3) Q12.ask rfl))
     refine (Vg _).mono ?_
     rintro e wz ⟨rfl,ez⟩
     go_wp2_with fail
     go_ret
     exact ⟨rfl,Xt Q12.be ez⟩
    ·
     go_wp2_with (first
      | (refine Ze rfl rfl 38 _ _ rfl R _ rfl rfl 38 _ rp8 (by kernel_rfl) (by rfl) (by rfl) ?_
         intro w9 hb9 ho9 h9
         have z0:=Za (j:=0) h9 rfl
         have Q9:=Q8.rep (Jy hb9 ho9) h9
         have y4:=Za (j:=4) Q9.ask rfl
         have z2:=Za (j:=2) h9 rfl
         have xg:=(Zf (a:=⟨ga,0,none⟩) (ho9 ga (by omega))).trans x8
         have y0:=Za (j:=0) Q9.ask rfl
         have y1:=Za (j:=1) Q9.ask rfl
         have y2:=Za (j:=2) Q9.ask rfl
         have y3:=Za (j:=3) Q9.ask rfl))
     refine (Vg _).mono ?_
     rintro e wz ⟨rfl,ez⟩
     go_wp2_with fail
     go_ret
     exact ⟨rfl,Xt Q9.be ez⟩
   have hc0:c=0:=hdz hce
   subst hc0
   have hce2:(ce !=0)=true:=by simpa [bne] using hce
   have rp5:=Q5.rp
   go_wp2_with (first
    | (refine Ze rfl rfl 38 _ _ rfl R _ rfl rfl 38 _ rp5 (by kernel_rfl) (by rfl) (by rfl) ?_
       intro w6 hb6 ho6 h6
       have z0:=Za (j:=0) h6 rfl))
   refine (Vg _).mono ?_
   rintro e wz ⟨rfl,ez⟩
   go_wp2_with fail
   go_ret
   have Q6:=Q5.rep (Jy hb6 ho6) h6
   exact ⟨rfl,Xt Q6.be ez⟩
end Go.Proofs.YtipjchbdogmccaaGreat
