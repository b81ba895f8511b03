/- Journals: the state; where there is no journal, or no machine; walked. Journals: positions of a state, whether one is there, a new one; walked. Journals: whether one is there, how many, all entries, an account's, the turnover; walked. Journals: what a position was; walked. Journals: a new one, of a machine; its state; walked. -/
import Derived.Test.YtipjchbdogmccaaGreatSta
import Derived.Test.YtipjchbdogmccaaGreatJnP
import Derived.Test.YtipjchbdogmccaaGreatSwap5
set_option maxHeartbeats 6400000
set_option maxRecDepth 100000
namespace Go.Proofs.YtipjchbdogmccaaGreat
open Go.RowKit Go.Rg Go.BigFrame
theorem posL_line (S:Zu) (k:Nat) (hk:k<S.length) (hne:(S[k]'hk).1.1≠(S[k]'hk).1.2.1):
 Vt (S.take (k+1))=Zm4 (Zm4 (Vt (S.take k)) (S[k]'hk).1.1 (S[k]'hk).1.2.2 (Vt (S.take k) (S[k]'hk).1.1 (S[k]'hk).1.2.2+(S[k]'hk).2.2)) (S[k]'hk).1.2.1 (S[k]'hk).1.2.2 (Vt (S.take k) (S[k]'hk).1.2.1 (S[k]'hk).1.2.2-(S[k]'hk).2.2):=by
 funext p c
 rw [Zlu S k hk p c]
 generalize (S[k]'hk)=x at *
 obtain ⟨⟨a,b,d⟩,lim,n⟩:=x
 simp only at hne
 unfold Zm4 Un
 simp only
 by_cases hc:d=c
 ·subst hc
  by_cases ha:a=p
  ·subst ha
   rw [if_pos rfl,if_pos rfl,if_neg (fun e=>hne e.1),if_pos ⟨rfl,rfl⟩]
  by_cases hb:b=p
  ·subst hb
   rw [if_pos rfl,if_neg ha,if_pos rfl,if_pos ⟨rfl,rfl⟩]
   omega
  rw [if_pos rfl,if_neg ha,if_neg hb,if_neg (fun e=>hb e.1.symm),if_neg (fun e=>ha e.1.symm)]
  omega
 rw [if_neg hc,if_neg (fun e=>hc e.2.symm),if_neg (fun e=>hc e.2.symm)]
 omega
theorem Zei (b:Nat) (v:Value) (L:Led) (B:Bk) (w:World) (h:StSl w b v L B) (hw:WF L):Calls Tryz.prog 75 #[v] w (Ret (.agg (Xl (Z1 L)).toArray) w):=by
 obtain ⟨v1,v2,v3,rfl,s1,s2,s3⟩:=h
 obtain ⟨A2,c2,rfl,a1,a2,a3,a4⟩:=s2
 have hl64:(Yh L.lines).length<=64:=by rw [Ub];exact hw.few
 have hnum:∀y∈Yh L.lines,0<=y.2.2/\y.2.2<=1099511627776/\1<=y.1.1/\y.1.1<=16/\1<=y.1.2.1/\y.1.2.1<=16/\y.1.1≠y.1.2.1/\1<=y.1.2.2/\y.1.2.2<=8:=fun y hy=>by
  have h1:=hw.nums y (Ju.1 hy)
  have h2:=(hw.ends y (Ju.1 hy)).1
  unfold X9 at h2
  rw [decide_eq_true_eq] at h2
  omega
 have hpos:Xl (Z1 L)=Xl (Vt (Yh L.lines)):=congrArg Xl (funext fun p=>funext fun c=>(Zjm L.lines p c).symm)
 rw [hpos]
 clear hpos
 generalize Yh L.lines=S at *
 have e0:=Zc w (.cells #[v1,.slice A2 S.length c2,v3,.int .u64 B.next] 47)
 have h0:=Zb w (.cells #[v1,.slice A2 S.length c2,v3,.int .u64 B.next] 47)
 have s0:=size_alloc w (.cells #[v1,.slice A2 S.length c2,v3,.int .u64 B.next] 47)
 have hn63:(S.length:Int)<=9223372036854775807:=by omega
 go_enter Tryz.func75,Tryz.ntmps75
 go_wp2_with (refine Zm rfl 97 rfl (.cells (Xl fun _ _=>0).toArray 97) _ rfl (by kernel_rfl) ?_
              intro wb eb hb
              have hst:=eb.at h0
              have z1:wb.cell? ⟨w.heap.size,1,none⟩=_:=Za (j:=1) hst rfl)
 rw [s0] at hb
 have E0:=Xt e0 eb
 clear e0 h0 eb
 go_loopw [4,8,9,10,11,12,13,14,15,16,17,18,19,20,21,22,23,24,25,26,27,28,29,30,31,32,33,34,35,36] (fun _ iv _ _ _ _ _ _ _ _ _ _ _ _ _ _ _ _ _ _ _ _ _ _ _ _ _ _ _ _ wr=>∃k:Nat,k<=S.length/\iv= .int .i64 k/\wr.heap[w.heap.size+1]? =some (.cells (Xl (Vt (S.take k))).toArray 97 (0,0))/\Ext w wr) (fun _ iv _ _ _ _ _ _ _ _ _ _ _ _ _ _ _ _ _ _ _ _ _ _ _ _ _ _ _ _ _=>S.length-(intOf iv).toNat)
 case atStart=>exact ⟨0,Nat.zero_le _,rfl,by rw [List.take_zero];exact hb,E0⟩
 obtain ⟨k,hk,rfl,hbk,er⟩:=hrel
 by_cases hkn:k<S.length
 ·rcases a4 with a4 | ⟨g,rfl,hb,hlt,hcell⟩
  ·omega
  have hj1:(0:Int)<=(k:Int):=by omega
  have hj2:(k:Int)<(S.length:Int):=by omega
  have hld:=Zij wr g k S hkn (fun i u hu=>(Zd (er.block hlt)).trans (hcell i u hu))
  obtain ⟨n1,n2,n3,n4,n5,n6,n7,n8,n9⟩:=hnum _ (List.getElem_mem hkn)
  have hbd:=fun p c=>Zif p c (S.take k) (fun x hx=>by have:=hnum x (List.mem_of_mem_take hx);omega)
  have hlk:((S.take k).length:Int)<=64:=by rw [List.length_take];omega
  have htk:=posL_line S k hkn n7
  generalize (S[k]'hkn)=x at *
  obtain ⟨⟨xa,xb,xc⟩,⟨lim,dbt⟩⟩:=x
  simp only [Zel] at hld n1 n2 n3 n4 n5 n6 n7 n8 n9 htk
  obtain ⟨xa,rfl⟩:∃n:Nat,xa=(n:Int):=⟨xa.toNat,by omega⟩
  obtain ⟨xb,rfl⟩:∃n:Nat,xb=(n:Int):=⟨xb.toNat,by omega⟩
  obtain ⟨xc,rfl⟩:∃n:Nat,xc=(n:Int):=⟨xc.toNat,by omega⟩
  have hb1:=hbd (xa:Int) (xc:Int)
  have hb2:=hbd (xb:Int) (xc:Int)
  have HTK:=Lib.hid htk
  clear htk hbd hnum hcell a3
  generalize Vt (S.take k)=F at *
  have hln:=Zb wr (.cells #[.int .u8 (xa:Int),.int .u8 (xb:Int),.int .u8 (xc:Int),.int .i64 lim,.int .i64 dbt] 151)
  have e3:=Zc wr (.cells #[.int .u8 (xa:Int),.int .u8 (xb:Int),.int .u8 (xc:Int),.int .i64 lim,.int .i64 dbt] 151)
  have hlb:=Ze hbk
  have hbk:=e3.at hbk
  obtain ⟨z,hz⟩:∃z,F (xa:Int) (xc:Int)=z:=⟨_,rfl⟩
  obtain ⟨y,hy⟩:∃y,F (xb:Int) (xc:Int)=y:=⟨_,rfl⟩
  rw [hz] at hb1
  rw [hy] at hb2
  have hq1:(xa:Int)<17:=by omega
  have hq2:(xb:Int)<17:=by omega
  have hq3:(xc:Int)<9:=by omega
  have hq4:(0:Int)<=(xa:Int):=by omega
  have hq5:(0:Int)<=(xb:Int):=by omega
  have hq6:(0:Int)<=(xc:Int):=by omega
  have w1a: -9223372036854775808<=z+dbt:=by omega
  have w2a:z+dbt<=9223372036854775807:=by omega
  have w3a: -9223372036854775808<=y-dbt:=by omega
  have w4a:y-dbt<=9223372036854775807:=by omega
  go_wp2_with (refine Zf rfl 151 _ _ _ rfl rfl hld ?_)
  generalize wr.alloc (.cells #[.int .u8 (xa:Int),.int .u8 (xb:Int),.int .u8 (xc:Int),.int .i64 lim,.int .i64 dbt] 151)=W4 at *
  refine Zh Zk 11 [] (by kernel_rfl) (by kernel_rfl) ?_
  intro w1 hw1
  have hE:=fun u:ExtOf w1=>Xt hw1 u.h
  have u0:=fun u:ExtOf w1=>Za (j:=0) ((hE u).at hln) rfl
  have u2:=fun u:ExtOf w1=>Za (j:=2) ((hE u).at hln) rfl
  have u4:=fun u:ExtOf w1=>Za (j:=4) ((hE u).at hln) rfl
  have ub:∀u:ExtOf w1,u.to.cell? ⟨w.heap.size+1,xa*9+xc,none⟩=some (.int .i64 z):=fun u=>(Zb0 ((hE u).at hbk) (by omega) (by omega)).trans (by rw [hz])
  clear hE
  simp only [Zj,Rg.hsB,Nat.reduceAdd,↓reduceIte]
  repeat (go_big_quiet_step ((fail)))
  refine wpQuiet_nil ?_
  refine Zi (by kernel_rfl) ?_
  intro w6 e6 e6'
  simp only [Rg.puB]
  clear u0 u2 u4 ub
  have hbt:=e6.at hbk
  have hlt:=e6.at hln
  have fr:=frozen_of_row _ _ (xa*9+xc) _ _ hbt
  have cc:w6.cell? ⟨w.heap.size+1,xa*9+xc,none⟩=some (.int .i64 z):=(Zb0 hbt (by omega) (by omega)).trans (by rw [hz])
  go_wp2_with fail
  have hbk5:=Zqr (v:=z+dbt) hbt (show xa<17 by omega) (show xc<9 by omega)
  have kb:Keep [w.heap.size+1] w6 (w6.setCell ⟨w.heap.size+1,xa*9+xc,none⟩ (.int .i64 (z+dbt))):=(Keep.refl _ _).setCell (Or.inl (by simp)) _
  have hln5:=kb.at hlt (by simp;omega)
  have hy5:Zm4 F (xa:Int) (xc:Int) (z+dbt) (xb:Int) (xc:Int)=y:=by unfold Zm4;rw [if_neg (fun e=>n7 e.1.symm)];exact hy
  have E5:Ext w (w6.setCell ⟨w.heap.size+1,xa*9+xc,none⟩ (.int .i64 (z+dbt))):=(Keep.trans_fresh (S:=[]) (Kx (Xt er (Xt e3 e6))) kb (fun x hx=>by simp at hx;right;omega)).ext
  clear hbt hlt fr cc e6 kb
  generalize w6.setCell ⟨w.heap.size+1,xa*9+xc,none⟩ (.int .i64 (z+dbt))=W5 at *
  refine Zh Zk 11 [] (by kernel_rfl) (by kernel_rfl) ?_
  intro w1 hw1
  have hE:=fun u:ExtOf w1=>Xt hw1 u.h
  have u0:=fun u:ExtOf w1=>Za (j:=1) ((hE u).at hln5) rfl
  have u2:=fun u:ExtOf w1=>Za (j:=2) ((hE u).at hln5) rfl
  have u4:=fun u:ExtOf w1=>Za (j:=4) ((hE u).at hln5) rfl
  have ub:∀u:ExtOf w1,u.to.cell? ⟨w.heap.size+1,xb*9+xc,none⟩=some (.int .i64 y):=fun u=>(Zb0 ((hE u).at hbk5) (by omega) (by omega)).trans (by rw [hy5])
  clear hE
  simp only [Zj,Rg.hsB,Nat.reduceAdd,↓reduceIte]
  repeat (go_big_quiet_step ((fail)))
  refine wpQuiet_nil ?_
  refine Zi (by kernel_rfl) ?_
  intro w7 e7 e7'
  simp only [Rg.puB]
  clear u0 u2 u4 ub
  have hbt7:=e7.at hbk5
  have hlt7:=e7.at hln5
  have fr7:=frozen_of_row _ _ (xb*9+xc) _ _ hbt7
  have cc7:w7.cell? ⟨w.heap.size+1,xb*9+xc,none⟩=some (.int .i64 y):=(Zb0 hbt7 (by omega) (by omega)).trans (by rw [hy5])
  go_wp2_with fail
  have hbk8:=Zqr (v:=y-dbt) hbt7 (show xb<17 by omega) (show xc<9 by omega)
  have kb:Keep [w.heap.size+1] w7 (w7.setCell ⟨w.heap.size+1,xb*9+xc,none⟩ (.int .i64 (y-dbt))):=(Keep.refl _ _).setCell (Or.inl (by simp)) _
  have E8:Ext w (w7.setCell ⟨w.heap.size+1,xb*9+xc,none⟩ (.int .i64 (y-dbt))):=(Keep.trans_fresh (S:=[]) (Kx (Xt E5 e7)) kb (fun x hx=>by simp at hx;right;omega)).ext
  exact ⟨⟨k+1,by omega,by go_num,by rw [HTK.out,hz,hy];exact hbk8,E8⟩,by simp [intOf];omega⟩
 have hk':k=S.length:=by omega
 subst hk'
 rw [List.take_length] at hbk
 have hld:=run_loadVar_row (P:=Tryz.prog) wr (w.heap.size+1) _ 97 _ _ _ hbk Tryz.underlying97 rfl (by rw [U2,List.size_toArray,Z3])
 go_wp2_with (first
  | (refine Zf rfl 97 _ _ _ rfl rfl hld ?_)
  | (refine Zg rfl rfl 97 _ _ rfl (w.heap.size+1) _ rfl rfl 97 _ hbk (by rw [U2,List.size_toArray,Z3]) (by rfl) (by rw [Array.all_toList];exact Zd6 _) ?_
     intro w8 hb8 ho8 h8))
 exact Xb (w.heap.size+1) 97 _ _ _ rfl rfl h8 Tryz.underlying97 rfl (by rw [U2,List.size_toArray,Z3]) rfl ⟨rfl,hb8 _ _ (by omega) er⟩
theorem Jy (w:World) (jb:Nat) (q:Addr) (f g:Int->Int->Int) (many:Int) (ev:Value) (h:Xn w jb (.pointer (some q)) f g many ev):Calls Tryz.prog 68 #[.pointer (some ⟨jb,0,none⟩)] w (Ret (.bool true) w):=by
 have c0:=h.cm
 go_enter Tryz.func68,Tryz.ntmps68
 go_wp2
 go_ret
 exact ⟨rfl,Ext.refl _⟩
theorem jmany_any (w:World) (jb:Nat) (q:Addr) (f g:Int->Int->Int) (many:Int) (ev:Value) (h:Xn w jb (.pointer (some q)) f g many ev):Calls Tryz.prog 42 #[.pointer (some ⟨jb,0,none⟩)] w (Ret (.int .i64 many) w):=by
 have ht:=Jy w jb q f g many ev h
 go_enter Tryz.func42,Tryz.ntmps42
 go_wp2_with fail
 refine ht.mono ?_
 rintro e w1 ⟨rfl,e1⟩
 have c0:=(h.ext e1).ck
 go_wp2
 go_ret
 exact ⟨rfl,e1⟩
theorem jall_any (w:World) (jb:Nat) (q:Addr) (f g:Int->Int->Int) (many:Int) (ev:Value) (es:List En) (h:Xn w jb (.pointer (some q)) f g many ev) (ha:Vv w 7 ev es.length (Yf es)) (hl:es.length<=1000000):
 Calls Tryz.prog 33 #[.pointer (some ⟨jb,0,none⟩)] w (RetEnl es w):=by
 have ht:=Jy w jb q f g many ev h
 go_enter Tryz.func33,Tryz.ntmps33
 go_wp2_with fail
 refine ht.mono ?_
 rintro e w1 ⟨rfl,e1⟩
 have c0:=(h.ext e1).ce
 have hcl:=Zs4 ev es w1 (ha.ext e1) hl
 obtain ⟨A,cap,rfl,_⟩:=ha
 go_wp2_with fail
 refine hcl.mono ?_
 rintro e w2 ⟨v2,rfl,e2,hown⟩
 have hsl:=Zt.of_own hown
 have hcp:=Zmt _ _ v2 _ w2 hsl
 obtain ⟨A2,cap2,rfl⟩:=Ye hown
 go_wp2_with fail
 refine hcp.mono ?_
 rintro e w3 ⟨v3,rfl,rfl,hs3⟩
 have hs4:=hs3
 obtain ⟨A3,cap3,rfl,_⟩:=hs3
 go_wp2
 go_ret
 exact ⟨_,rfl,Xt e1 e2,hs4.low e1.size⟩
theorem jacc_any (w:World) (jb:Nat) (q:Addr) (f g:Int->Int->Int) (many:Int) (ev:Value) (es:List En) (p c:Int) (h:Xn w jb (.pointer (some q)) f g many ev) (ha:Vv w 7 ev es.length (Yf es)) (hl:es.length<=1000000):
 Calls Tryz.prog 35 #[.pointer (some ⟨jb,0,none⟩),.int .u8 p,.int .u8 c] w (RetEnl (Zam es p c) w):=by
 have ht:=Jy w jb q f g many ev h
 have hof:=fun w=>jof_any (some ⟨jb,0,none⟩) p c w
 simp only [Zb1] at hof
 go_enter Tryz.func35,Tryz.ntmps35
 go_wp2_with fail
 refine ht.mono ?_
 rintro e w1 ⟨rfl,e1⟩
 go_wp2_with fail
 refine (hof w1).mono ?_
 rintro e w2 ⟨rfl,e2,k1,k2⟩
 have hlt:=(h.ext e1).lt
 have hco:=Zql _ _ jb ev es p c w2 ⟨k1,k2,(h.ext (Xt e1 e2)).ce,ha.ext (Xt e1 e2)⟩ (h.ext (Xt e1 e2)).lt hl
 go_wp2_with fail
 refine hco.mono ?_
 rintro e w3 ⟨v3,rfl,e3,hown⟩
 have hsl:=Zt.of_own hown
 have hcp:=Zmt _ _ v3 _ w3 hsl
 obtain ⟨A2,cap2,rfl⟩:=Ye hown
 go_wp2_with fail
 refine hcp.mono ?_
 rintro e w4 ⟨v4,rfl,rfl,hs3⟩
 have hs4:=hs3
 obtain ⟨A3,cap3,rfl,_⟩:=hs3
 go_wp2
 go_ret
 exact ⟨_,rfl,Xt e1 (Xt e2 e3),hs4.low (Nat.le_trans e1.size e2.size)⟩
theorem Zmd (w:World) (jb:Nat) (q:Addr) (f g:Int->Int->Int) (many:Int) (ev:Value) (es:List En) (c:Int) (h:Xn w jb (.pointer (some q)) f g many ev) (ha:Vv w 7 ev es.length (Yf es)):
 Calls Tryz.prog 34 #[.pointer (some ⟨jb,0,none⟩),.int .u8 c] w (Ret (.int .i64 (Zaq es c)) w):=by
 have ht:=Jy w jb q f g many ev h
 obtain ⟨A,cap,rfl,q1,q2,q3,q4⟩:=ha
 have hn63:(es.length:Int)<=9223372036854775807:=by unfold maxLen at q2;omega
 go_enter Tryz.func34,Tryz.ntmps34
 go_wp2_with fail
 refine ht.mono ?_
 rintro e w1 ⟨rfl,e1⟩
 have c0:=(h.ext e1).ce
 go_wp2_with fail
 go_loopw [4,6,15,16,17,18,19,20,21,22,23,24,25,26,27,28] (fun nv _ iv _ _ _ _ _ _ _ _ _ _ _ _ _ wr=>∃k:Nat,k<=es.length/\iv= .int .i64 k/\nv= .int .i64 (Zaq (es.take k) c)/\Ext w1 wr) (fun _ _ iv _ _ _ _ _ _ _ _ _ _ _ _ _ _=>es.length-(intOf iv).toNat)
 case atStart=>exact ⟨0,Nat.zero_le _,rfl,rfl,Ext.refl _⟩
 obtain ⟨k,hk,rfl,rfl,er⟩:=hrel
 by_cases hkn:k<es.length
 ·rcases q4 with q4 | ⟨gs,off,rfl,hlt,hcs⟩
  ·omega
  have hg:∀(j:Nat) (hj:j<7) u,(es[k]'hkn).cells[j]? =some u->wr.cell? ⟨gs,off+(k*7+j),none⟩=some u:=fun j hj u hu=>(Zd ((Xt e1 er).block hlt)).trans (hcs _ _ ((X2 es k j hkn hj).trans hu))
  have htk:Zaq (es.take (k+1)) c=Zlj c (Zaq (es.take k) c) (es[k]'hkn):=by
   unfold Zaq
   rw [List.take_succ_eq_append_getElem hkn,List.foldl_append]
   rfl
  generalize (es[k]'hkn)=x at *
  obtain ⟨no,st,kd,pa,cu,n,sm⟩:=x
  have g0:wr.cell? ⟨gs,off+k*7,none⟩=some (.int .i64 no):=hg 0 (by decide) _ rfl
  have g1:wr.cell? ⟨gs,off+k*7+1,none⟩=some (.int .i64 st):=by rw [Nat.add_assoc];exact hg 1 (by decide) _ rfl
  have g2:wr.cell? ⟨gs,off+k*7+2,none⟩=some (.int .u8 kd):=by rw [Nat.add_assoc];exact hg 2 (by decide) _ rfl
  have g3:wr.cell? ⟨gs,off+k*7+3,none⟩=some (.int .u8 pa):=by rw [Nat.add_assoc];exact hg 3 (by decide) _ rfl
  have g4:wr.cell? ⟨gs,off+k*7+4,none⟩=some (.int .u8 cu):=by rw [Nat.add_assoc];exact hg 4 (by decide) _ rfl
  have g5:wr.cell? ⟨gs,off+k*7+5,none⟩=some (.int .i64 n):=by rw [Nat.add_assoc];exact hg 5 (by decide) _ rfl
  have g6:wr.cell? ⟨gs,off+k*7+6,none⟩=some (.int .i64 sm):=by rw [Nat.add_assoc];exact hg 6 (by decide) _ rfl
  clear hg hcs
  unfold Zlj at htk
  simp only at htk
  have HTK:=Lib.hid htk
  clear htk
  generalize Zaq (es.take k) c=z at *
  cases hq:(cu==c)
  focus
   have hq':¬cu=c:=by simpa using hq
   rw [if_neg hq'] at HTK
   have e2:=Zc wr (.cells #[.int .i64 no,.int .i64 st,.int .u8 kd,.int .u8 pa,.int .u8 cu,.int .i64 n,.int .i64 sm] 84)
   clear hq'
  rotate_left
  focus
   have hq':cu=c:=by simpa using hq
   rw [if_pos hq'] at HTK
   have e2:=Zc wr (.cells #[.int .i64 no,.int .i64 st,.int .u8 kd,.int .u8 pa,.int .u8 cu,.int .i64 n,.int .i64 sm] 84)
   subst hq'
   clear hq
  all_goals
   go_wp2
   exact ⟨⟨k+1,by omega,by go_num,by rw [HTK.out],Xt er e2⟩,by simp [intOf];omega⟩
 have hk':k=es.length:=by omega
 subst hk'
 rw [List.take_length]
 go_wp2
 go_ret
 exact ⟨rfl,Xt e1 er⟩
theorem has_acc (p c:Int) (w:World):Calls Tryz.prog 73 #[.agg (Zb1 p c)] w (Ret (.bool (Zbg p c)) w):=by
 have e0:=Zc w (.cells (Zb1 p c) 177)
 unfold Zb1 at *
 obtain ⟨b,hb⟩:∃b,Zbg p c=b:=⟨_,rfl⟩
 rw [hb]
 unfold Zbg at hb
 have HB:=Lib.hid hb
 clear hb
 by_cases h1:1<=p
 focus
  have d1:decide (p>=1)=true:=by simpa using h1
  by_cases h2:p<=16
  focus
   have d2:decide (p<=16)=true:=by simpa using h2
   by_cases h3:1<=c
   focus
    have d3:decide (c>=1)=true:=by simpa using h3
    by_cases h4:c<=8
    focus
     have d4:decide (c<=8)=true:=by simpa using h4
     have hbb:b=true:=by have:=HB.out;rw [<-this];simp [h1,h2,h3,h4]
    rotate_left
    focus
     have d4:decide (c<=8)=false:=by simpa using h4
     have hbb:b=false:=by have:=HB.out;rw [<-this];simp [h4]
    all_goals
     subst hbb
     clear HB h1 h2 h3 h4
   rotate_left 2
   focus
    have d3:decide (c>=1)=false:=by simpa using h3
    have hbb:b=false:=by have:=HB.out;rw [<-this];simp [h3]
    subst hbb
    clear HB h1 h2 h3
  rotate_left 3
  focus
   have d2:decide (p<=16)=false:=by simpa using h2
   have hbb:b=false:=by have:=HB.out;rw [<-this];simp [h2]
   subst hbb
   clear HB h1 h2
 rotate_left 4
 focus
  have d1:decide (p>=1)=false:=by simpa using h1
  have hbb:b=false:=by have:=HB.out;rw [<-this];simp [h1]
  subst hbb
  clear HB h1
 all_goals
  go_enter Tryz.func73,Tryz.ntmps73
  go_wp2
  go_ret
  exact ⟨rfl,e0⟩
theorem Zcz (tmps:Array Value) (w:World):(results Tryz.f37 tmps).run Tryz.prog w= .ok (tmps.getD 8 undef) w:=by
 have hr:Tryz.f37.results=#[.tmp 8]:=rfl
 simp only [results,hr]
 simp
theorem rows2 (w:World) (a0 a1:Array Value) (t0 t1:TypeId):
 ∃W,W=((w.alloc (.cells a0 t0)).alloc (.cells a1 t1))/\Ext w W/\W.heap[w.heap.size]? =some (.cells a0 t0 (0,0))/\W.heap[w.heap.size+1]? =some (.cells a1 t1 (0,0))/\W.heap.size=w.heap.size+1+1:=by
 have e0:=Zc w (.cells a0 t0)
 have s0:=size_alloc w (.cells a0 t0)
 have h0:=Zb w (.cells a0 t0)
 have e1:=Zc (w.alloc (.cells a0 t0)) (.cells a1 t1)
 have s1:=size_alloc (w.alloc (.cells a0 t0)) (.cells a1 t1)
 have h1:=Zb (w.alloc (.cells a0 t0)) (.cells a1 t1)
 rw [s0] at h1 s1
 exact ⟨_,rfl,Xt e0 e1,e1.at h0,h1,s1⟩
structure StI (w:World) (l:List En) (upto r:Int) (jb:Nat) (p c:Int) (s:Nat) (W:World):Prop where
 be:Ext w W
 bx:∃n,W.heap[w.heap.size]? =some (.cells #[.int .i64 n] 2 (0,0))/\Zoq upto (l.drop s) n=r
 k1:W.heap[w.heap.size+1]? =some (.cells #[.pointer (some ⟨jb,0,none⟩)] 77 (0,0))
 k2:W.heap[w.heap.size+1+1]? =some (.cells (Zb1 p c) 177 (0,0))
structure StF (w:World) (r:Int) (W:World):Prop where
 be:Ext w W
 bx:W.heap[w.heap.size]? =some (.cells #[.int .i64 r] 2 (0,0))
theorem StI.keep {w:World} {l:List En} {upto r:Int} {jb:Nat} {p c:Int} {s D:Nat} {W W':World} (h:StI w l upto r jb p c s W) (k:Keep [D,D+1] W W') (hD:w.heap.size+3<=D):StI w l upto r jb p c s W':=by
 obtain ⟨n,h1,h2⟩:=h.bx
 exact ⟨(Keep.trans_fresh (S:=[]) (Kx h.be) k (fun x hx=>by simp at hx;right;omega)).ext,⟨n,k.at h1 (by simp;omega),h2⟩,k.at h.k1 (by simp;omega),k.at h.k2 (by simp;omega)⟩
theorem StF.keep {w:World} {r:Int} {D:Nat} {W W':World} (h:StF w r W) (k:Keep [D,D+1] W W') (hD:w.heap.size+3<=D):StF w r W':=
 ⟨(Keep.trans_fresh (S:=[]) (Kx h.be) k (fun x hx=>by simp at hx;right;omega)).ext,k.at h.bx (by simp;omega)⟩
theorem Ze2 (w:World) (jb:Nat) (q:Addr) (f g:Int->Int->Int) (many:Int) (ev:Value) (es:List En) (p c upto:Int) (h:Xn w jb (.pointer (some q)) f g many ev) (ha:Vv w 7 ev es.length (Yf es)):
 Calls Tryz.prog 37 #[.pointer (some ⟨jb,0,none⟩),.int .u8 p,.int .u8 c,.int .i64 upto] w (Ret (.int .i64 (stoF f es p c upto)) w):=by
 obtain ⟨W,hW,E1,h0,h1,_⟩:=rows2 w #[.int .i64 upto] #[.int .u8 p,.int .u8 c] 3 177
 have ht:=Jy _ jb q f g many ev (h.ext E1)
 have hac:=fun w=>has_acc p c w
 simp only [Zb1] at hac
 obtain ⟨r,hr⟩:∃r,stoF f es p c upto=r:=⟨_,rfl⟩
 rw [hr]
 unfold stoF at hr
 have HR:=Lib.hid hr
 clear hr
 subst hW
 refine (callsIn_wide (n:=0)).1 ?_
 refine callsIn_of_wp_marks Tryz.func37 rfl trivial ?_ rfl
 simp only [Tryz.ntmps37,List.size_toArray,List.length_cons,List.length_nil,Nat.reduceAdd,Nat.reduceSub,Array.replicate_succ,Array.replicate_zero,List.push_toArray,List.append_toArray,List.nil_append,List.cons_append]
 gi_wp2
 refine ⟨trivial,rfl,CallsIn.mono (callsIn_wide.2 ht) ?_⟩
 rintro e w1 ⟨rfl,e1⟩
 have c90:w1.cell? ⟨w.heap.size+1,0,none⟩=_:=Za (j:=0) (e1.at h1) rfl
 have c91:w1.cell? ⟨w.heap.size+1,1,none⟩=_:=Za (j:=1) (e1.at h1) rfl
 gi_wp2
 refine ⟨trivial,rfl,CallsIn.mono (callsIn_wide.2 (hac w1)) ?_⟩
 rintro e w2 ⟨rfl,e2⟩
 have hRow2:=(h.ext E1).ext (Xt e1 e2)
 have E2:=Xt E1 (Xt e1 e2)
 have h02:=(Xt e1 e2).at h0
 have h12:=(Xt e1 e2).at h1
 have ha2:=ha.ext E2
 clear ht h0 h1 c90 c91 e1 e2 E1 hac h ha
 cases hok:Zbg p c with
 | false=>
   have hr:r=0:=by have:=HR.out;rw [hok] at this;simpa using this.symm
   subst hr
   gi_wp2
   exact ⟨_,Zcz _ _,rfl,E2⟩
 | true=>
   have hr:=HR.out
   rw [if_pos hok] at hr
   unfold Zbg at hok
   rw [decide_eq_true_eq] at hok
   obtain ⟨p,rfl⟩:∃n:Nat,p=(n:Int):=⟨p.toNat,by omega⟩
   obtain ⟨c,rfl⟩:∃n:Nat,c=(n:Int):=⟨c.toNat,by omega⟩
   have hp:p<17:=by omega
   have hc:c<9:=by omega
   have hp1:(0:Int)<=(p:Int):=by omega
   have hp2:(p:Int)<17:=by omega
   have hc1:(0:Int)<=(c:Int):=by omega
   have hc2:(c:Int)<9:=by omega
   have cf:=hRow2.cf hp hc
   generalize f (p:Int) (c:Int)=n0 at *
   have HR2:=Lib.hid hr
   have k90:w2.cell? ⟨w.heap.size+1,0,none⟩=_:=Za (j:=0) h12 rfl
   have k91:w2.cell? ⟨w.heap.size+1,1,none⟩=_:=Za (j:=1) h12 rfl
   have hof:=fun w=>jof_any (some ⟨jb,0,none⟩) (p:Int) (c:Int) w
   simp only [Zb1] at hof
   have hlt12:=Ze h12
   have hn0:=Zb w2 (.cells #[.int .i64 n0] 2)
   have en0:=Zc w2 (.cells #[.int .i64 n0] 2)
   have sn0:=size_alloc w2 (.cells #[.int .i64 n0] 2)
   clear hr HR hok
   gi_wp2
   refine ⟨trivial,rfl,CallsIn.mono (callsIn_wide.2 (hof _)) ?_⟩
   rintro e w3 ⟨rfl,e3,k1,k2⟩
   rw [sn0] at k1 k2
   have hn3:=e3.at hn0
   have E3:=Xt en0 e3
   have hs3:w2.heap.size+3<=w3.heap.size:=Ze k2
   rw [sn0]
   have hit:=Zpr (w2.heap.size+1) (w2.heap.size+1+1) jb ev es (p:Int) (c:Int)
   clear hn0 en0 sn0 e3 k90 k91 cf hof
   gi_wp2
   generalize hacc:Zam es (p:Int) (c:Int)=l at *
   refine U6 rfl (enters_of Tryz.func120 (by kernel_rfl) rfl) rfl hit
    (StI w2 l upto r jb (p:Int) (c:Int)) (fun cd W=>cd= .exit 0/\StF w2 r W)
    (fun s A B hs hk=>hs.keep hk hs3) (fun cd A B hs hk=>⟨hs.1,hs.2.keep hk hs3⟩) (fun s A hs=>⟨hs.k1,hs.k2,(hRow2.ext hs.be).ce,ha2.ext hs.be⟩)
    (fun s A B B' x hx _ _=>hx) ⟨E3,⟨n0,hn3,by simpa using HR2.out⟩,k1,k2⟩ ?asg ?asgk ?assign ?body ?done ?stop
   case asg=>exact fun x a W=>∃e:En,∃eb:Nat,x=e.agg/\W.heap[eb]? =some (.cells e.cells.toArray 84 (0,0))/\w3.heap.size+2<=eb/\a={ tmps:=#[.pointer (some ⟨jb,0,none⟩),.int .u8 (p:Int),.int .u8 (c:Int),.int .i64 upto,undef,undef,undef,.pointer (some ⟨w.heap.size,0,none⟩),.int .i64 0,.pointer (some ⟨w.heap.size+1,0,none⟩),.pointer (some ⟨w2.heap.size,0,none⟩),.pointer (some ⟨eb,0,none⟩),.int .u8 (p:Int),.int .u8 (c:Int),.agg #[.int .u8 (p:Int),.int .u8 (c:Int)],.pointer (some ⟨jb,0,none⟩),.bool true,.bool false,.bool false,.agg #[.int .u8 (p:Int),.int .u8 (c:Int)],.bool true,.bool false,.bool false,.pointer (some ⟨jb,0,none⟩),.int .u8 (p:Int),.int .u8 (c:Int),.pointer (some ⟨jb,0,none⟩),.pointer (some ⟨jb,1,none⟩),.pointer (some ⟨jb,1+p*9,none⟩),.pointer (some ⟨jb,1+p*9+c,none⟩),.int .i64 n0,.pointer (some ⟨jb,0,none⟩),.agg #[.int .u8 (p:Int),.int .u8 (c:Int)],.func (.func 120) #[] (Zjt (w2.heap.size+1) (w2.heap.size+1+1)),x,undef,undef,undef,undef,undef,undef,undef],defers:=[] }
   case asgk=>
    rintro x a W W' ⟨y,eb,h1,h2,h3,h4⟩ hk
    exact ⟨y,eb,h1,hk.at h2 (by simp;omega),h3,h4⟩
   case assign=>
    rintro lp s A x W K ⟨y,_,rfl⟩ hsz hK
    have ea:=Zc W (.cells y.cells.toArray 84)
    have ha:=Zb W (.cells y.cells.toArray 84)
    have hKa:=hK _ _ ea ⟨y,W.heap.size,rfl,ha,by omega,rfl⟩
    unfold En.cells at hKa
    unfold En.agg at hKa ⊢
    clear hK ea ha
    refine Vc (by kernel_rfl) (by rintro ⟨_,_,hh⟩;exact hh) ?_
    go_wp2
    exact hKa
   case body=>
    rintro s A W x aX hIA hk ⟨y,hy,rfl⟩ hsz ⟨y',eb,hxy',heb,hle,rfl⟩
    have hyy:y'=y:=by
     cases y
     cases y'
     simp [En.agg] at hxy'
     simp [hxy']
    subst hyy
    have hI:=hIA.keep hk hs3
    obtain ⟨m0,hbx,hon⟩:=hI.bx
    have hbe:=hI.be
    have hk1:=hI.k1
    have hk2:=hI.k2
    have hs:s<l.length:=(List.getElem?_eq_some_iff.1 hy).1
    have hdrop:l.drop s=y'::l.drop (s+1):=by
     rw [List.drop_eq_getElem_cons hs]
     congr 1
     have:=List.getElem?_eq_getElem hs
     rw [hy] at this
     injection this with this
     exact this.symm
    rw [hdrop,Zoq] at hon
    have HON:=Lib.hid hon
    obtain ⟨no,st,kd,pa,cu,nn,sm⟩:=y'
    simp only [En.cells] at heb
    simp only [En.agg] at *
    have c0:W.cell? ⟨eb,0,none⟩=_:=Za (j:=0) heb rfl
    have c6:W.cell? ⟨eb,6,none⟩=_:=Za (j:=6) heb rfl
    have cu0:W.cell? ⟨w.heap.size,0,none⟩=_:=Za (j:=0) (hbe.at h02) rfl
    have cb0:W.cell? ⟨w2.heap.size,0,none⟩=_:=Za (j:=0) hbx rfl
    have fb0:=frozen_of_row _ _ 0 _ _ hbx
    have hszW:w3.heap.size+2<=W.heap.size:=by have:=hk.size;omega
    clear hxy' hdrop hon hIA hk hy hI hit
    by_cases hq:upto<no
    ·have hq':decide (no > upto)=true:=by simpa using hq
     have hr2:=HON.out
     try simp only at hr2
     rw [if_pos hq] at hr2
     have HR3:=Lib.hid hr2
     clear hr2 HON hq
     gi_wp2
     iterate 8 (try (simp only [Oper.semAt];go_simp;gi_wp2))
     exact ⟨⟨rfl,rfl⟩,rfl,⟨hbe,by rw [<-HR3.out];exact hbx⟩⟩
    ·have hq':decide (no > upto)=false:=by simpa using hq
     have hr2:=HON.out
     try simp only at hr2
     rw [if_neg hq] at hr2
     have HR3:=Lib.hid hr2
     clear hr2 HON hq
     gi_wp2
     iterate 8 (try (simp only [Oper.semAt];go_simp;gi_wp2))
     have kb:Keep [w2.heap.size] W (W.setCell ⟨w2.heap.size,0,none⟩ (.int .i64 sm)):=(Keep.refl _ _).setCell (Or.inl (by simp)) _
     have h22:=heap_setCell_same W _ 0 _ _ (.int .i64 sm) hbx
     exact ⟨⟨kb.block _ (by omega) (by simp;omega),kb.block _ (by omega) (by simp;omega)⟩,s+1,⟨(Keep.trans_fresh (S:=[]) (Kx hbe) kb (fun x hx=>by simp at hx;right;omega)).ext,⟨sm,h22,HR3.out⟩,kb.at hk1 (by simp),kb.at hk2 (by simp;omega)⟩,rfl⟩
   case done=>
    intro s W hend hI hD
    obtain ⟨n,hbx,hon⟩:=hI.bx
    have hbe:=hI.be
    subst hend
    rw [List.drop_length,Zoq] at hon
    subst hon
    clear hI hit
    have c0:W.cell? ⟨w2.heap.size,0,none⟩=_:=Za (j:=0) hbx rfl
    gi_wp2
    have kf:Keep [w3.heap.size] W (W.putObj w3.heap.size (.deferred none)):=Yg _ (by simp)
    refine ⟨by simp,.inl ⟨_,_,rfl,run_takeDeferred hD,?_⟩⟩
    exact ⟨_,Zcz _ _,rfl,(Keep.trans_fresh (S:=[]) (Kx (Xt E2 hbe)) kf (fun x hx=>by simp at hx;right;omega)).ext⟩
   case stop=>
    rintro cd W ⟨rfl,hF⟩ hD
    have hbx:=hF.bx
    have hbe:=hF.be
    clear hF hit
    have c0:W.cell? ⟨w2.heap.size,0,none⟩=_:=Za (j:=0) hbx rfl
    gi_wp2
    have kf:Keep [w3.heap.size] W (W.putObj w3.heap.size (.deferred none)):=Yg _ (by simp)
    refine ⟨by simp,.inl ⟨_,_,rfl,run_takeDeferred hD,?_⟩⟩
    exact ⟨_,Zcz _ _,rfl,(Keep.trans_fresh (S:=[]) (Kx (Xt E2 hbe)) kf (fun x hx=>by simp at hx;right;omega)).ext⟩
end Go.Proofs.YtipjchbdogmccaaGreat
namespace Go.Rg
open Go.RowKit Go.BigFrame
variable {P:Program} {ops:Array Oper} {rest:List Oper} {o:Oper} {a:Act} {w:World} {Q:Exit->Act->World->Prop}
theorem Zk6 {t:TypeId} {x:Operand} (_hop:o.op= .box t x) (hg:Region.wanted o (yielded ops a.tmps)=true) (ob:Obj) (v:Value) (dst:Option Tmp) (hdst:o.dst=dst)
 (hm:(execOp a.eval o).run P w= .ok (.value v) (w.alloc ob))
 (h:∀w':World,Ext w w'->w'.heap[w.heap.size]? =some ob->wpList P ops Q rest (a.put dst v) w'):wpList P ops Q (o::rest) a w:=
 wpList_want hg fun K hK=>by
  unfold Oper.wp
  rw [hm,Oper.upon_value,hdst]
  exact hK _ _ (h _ (Zc w ob) (Zb w ob))
theorem Zm1 {t:TypeId} {parts:Array (Nat×Operand)} (_hop:o.op= .build t parts) (hg:o.guard=none) (v:Value) (dst:Option Tmp) (hdst:o.dst=dst)
 (hm:(execOp a.eval o).run P w= .ok (.value v) w)
 (h:wpList P ops Q rest (a.put dst v) w):wpList P ops Q (o::rest) a w:=
 wpList_plain hg fun K hK=>by
  unfold Oper.wp
  rw [hm,Oper.upon_value,hdst]
  exact hK _ _ h
end Go.Rg
namespace Go.Proofs.YtipjchbdogmccaaGreat
open Go.RowKit Go.Rg Go.BigFrame
structure IsJ (w:World) (base jb q p m pb:Nat) (g:Option Nat) (ev:Value) (J:Jn):Prop where
 row:Xn w jb (.pointer (some ⟨q,0,none⟩)) (Z1 J.L0) (Z1 J.L) J.many ev
 mac:IsM w q p m pb g J.L J.B
 own:w.ownsRow base 84 7 ev J.es.length (Yf J.es)
theorem IsJ.ext {w w':World} {base jb q p m pb:Nat} {g:Option Nat} {ev:Value} {J:Jn} (h:IsJ w base jb q p m pb g ev J) (k:Ext w w'):IsJ w' base jb q p m pb g ev J:=
 ⟨h.row.ext k,h.mac.ext k,Zq h.own k⟩
theorem IsJ.arg {w:World} {base jb q p m pb:Nat} {g:Option Nat} {ev:Value} {J:Jn} (h:IsJ w base jb q p m pb g ev J):Vv w 7 ev J.es.length (Yf J.es):=(Zt.of_own h.own).arg
theorem Zps (q p m pb:Nat) (g:Option Nat) (L:Led) (B:Bk) (w:World) (h:IsM w q p m pb g L B):Calls Tryz.prog 43 #[.pointer (some ⟨q,0,none⟩)] w
 (fun e w'=>∃jb q' p' m' pb' g',e= .returned (.pointer (some ⟨jb,0,none⟩))/\Ext w w'/\IsJ w' w.heap.size jb q' p' m' pb' g' (.slice none 0 0) (Up L B)/\w.heap.size<=jb/\w.heap.size<=q'):=by
 have hcp:=Zl8 q p m pb g L B w h
 go_enter Tryz.func43,Tryz.ntmps43
 go_wp2_with fail
 refine hcp.mono ?_
 rintro e w1 ⟨q',p',m',pb',g',rfl,e1,hM,hq⟩
 have hst:=Zlp q' p' m' pb' g' L B w1 hM
 go_wp2_with fail
 refine hst.mono ?_
 rintro e w2 ⟨v,rfl,e2,hsl⟩
 have hps:=Zei _ v L B w2 hsl hM.ok.wf
 obtain ⟨v1,v2,v3,rfl,_⟩:=hsl
 go_wp2_with fail
 refine hps.mono ?_
 rintro e w3 ⟨rfl,e3⟩
 have hM3:=hM.ext (Xt e2 e3)
 have E3:=Xt e1 (Xt e2 e3)
 clear hcp hst hps
 go_wp2_with (first
  | (refine Zm rfl 97 rfl (.cells (Xl fun _ _=>0).toArray 97) _ rfl (by kernel_rfl) ?_
     intro w4 e4 h4)
  | (refine Zg rfl rfl 97 _ _ rfl w3.heap.size _ rfl rfl 97 _ h4 (by rw [U2,List.size_toArray,Z3]) (by rfl) (by rw [Array.all_toList];exact Zd6 _) ?_
     intro w5 hb5 ho5 h5
     have e5:Ext w3 w5:=hb5 _ _ (Nat.le_refl _) e4
     have hld:=run_loadVar_row (P:=Tryz.prog) w5 w3.heap.size _ 97 _ _ _ h5 Tryz.underlying97 rfl (by rw [U2,List.size_toArray,Z3]))
  | (refine Zf rfl 97 _ _ _ rfl rfl hld ?_)
  | (refine Zm1 rfl rfl (.agg (X8 (.pointer (some ⟨q',0,none⟩)) (Z1 L) (Z1 L) 0 (.slice none 0 0)).toArray) _ rfl (by kernel_rfl) ?_)
  | (refine Zk6 rfl rfl (.cells (X8 (.pointer (some ⟨q',0,none⟩)) (Z1 L) (Z1 L) 0 (.slice none 0 0)).toArray 99) (.pointer (some ⟨w5.heap.size,0,none⟩)) _ rfl (by kernel_rfl) ?_
     intro w6 e6 h6))
 go_ret
 have hM6:=hM3.ext (Xt e5 e6)
 exact ⟨_,q',p',m',pb',g',rfl,Xt E3 (Xt e5 e6),⟨h6,hM6,World.ownsRow_nil _ _ _ _⟩,by have:=E3.size;have:=e5.size;omega,hq⟩
theorem Zji (tmps:Array Value) (w:World) (B:Nat) (cs:Array Value) (h:tmps.getD 4 undef= .pointer (some ⟨B,0,none⟩)) (hB:w.heap[B]? =some (.cells cs 38 (0,0))) (hi:cs.size=3):(results Tryz.f41 tmps).run Tryz.prog w= .ok (.agg cs) w:=
 results_cell_row (show Tryz.f41.results=#[.cell 4 38] from rfl) tmps w B 38 cs _ _ h hB Tryz.underlying38 rfl (by rw [hi];kernel_rfl)
end Go.Proofs.YtipjchbdogmccaaGreat
