/- Quotes: the numbers of two lists of one offer each; walked. Quotes: the numbers of two lists of one offer each, of the same number; walked. Quotes: two equal numbers sorted, and made one; the numbers of two lists of one offer each; walked. -/
import Derived.Test.YtipjchbdogmccaaGreatQp
import Derived.Lib.AppendZeros
set_option maxHeartbeats 3200000
set_option maxRecDepth 100000
namespace Go.Proofs.YtipjchbdogmccaaGreat
open Go.RowKit Go.Rg Go.BigFrame
theorem Zkm:Zw.agg.cells.size=7:=rfl
theorem Zrh (n:Nat) (h1:1<=n) (h2:n<=64) (w:World):Calls Tryz.prog 162 #[.slice none 0 0,.int .i64 n] w
 (fun e w'=>∃g cap,e= .returned (.slice (some ⟨g,0,none⟩) 0 cap)/\Ext w w'/\w'.ownsRow w.heap.size 153 7 (.slice (some ⟨g,0,none⟩) 0 cap) 0 []):=by
 obtain ⟨i0,hi,hz0,hz1,hz2⟩:=info_parts Zbi
 have hr:=Lib.run_append_nil_zeros (P:=Tryz.prog) w 45 3 45 153 i0 Zw.agg .i64 .i64 Tryz.underlying45 Tryz.underlying3 hi hz0 n h1 (by omega) (by omega) (by rw [hz2];omega)
 have hc1:=grownCap_ge w n 0 153
 have hc2:=grownCap_le_maxLen w n 0 153 (by unfold maxLen;omega)
 generalize grownCap w n 0 153=c at *
 have hown:(w.drew.alloc (.cells (Builtin.zeroCells Zw.agg.cells n++Builtin.zeroCells Zw.agg.cells (c-n)) 153)).ownsRow w.heap.size 153 7 (.slice (some ⟨w.heap.size,0,none⟩) 0 c) 0 []:=by
  refine ⟨rfl,.inr ⟨w.heap.size,c,Builtin.zeroCells Zw.agg.cells n++Builtin.zeroCells Zw.agg.cells (c-n),rfl,Nat.le_refl _,?_,Nat.zero_le _,hc2,?_,rfl⟩⟩
  ·exact Zb w.drew _
  simp [Builtin.zeroCells,Zkm];omega
 have he:Ext w (w.drew.alloc (.cells (Builtin.zeroCells Zw.agg.cells n++Builtin.zeroCells Zw.agg.cells (c-n)) 153)):=((Below.refl w.heap.size w).drew).alloc (Nat.le_refl _) _
 generalize w.drew.alloc (.cells (Builtin.zeroCells Zw.agg.cells n++Builtin.zeroCells Zw.agg.cells (c-n)) 153)=w1 at *
 have hn0:(0:Int)<=(n:Int):=by omega
 have hn1:(0:Int)<(n:Int):=by omega
 have hn63:(n:Int)<=64:=by omega
 go_enter Tryz.func162,Tryz.ntmps162
 go_wp2_with (first
  | (at_builtin;refine Lib.wpList_append_run _ rfl _ _ _ _ rfl _ _ rfl rfl _ _ hr ?_))
 go_ret
 exact ⟨_,_,rfl,he,hown⟩
theorem Zr1 (b:Nat) (v3 u3:Value) (o1 o2:List Off) (w:World) (hb:w.heap[b]? =some (.cells #[v3,u3] 45 (0,0))) (h1:Zn w 0 7 v3 o1.length (Zi o1)) (h2:Zn w 0 7 u3 o2.length (Zi o2))
 (hn1:1<=o1.length) (hn2:1<=o2.length) (hn:o1.length+o2.length<=64):
 Calls Tryz.prog 136 #[.slice (some ⟨b,0,none⟩) 2 2] w (Zsg (o1++o2) w):=by
 obtain ⟨A1,c1,rfl,a1,a2,a3,a4⟩:=h1
 obtain ⟨A2,c2,rfl,b1,b2,b3,b4⟩:=h2
 rcases a4 with a4 | ⟨g1,rfl,ga,gb,gc⟩
 ·omega
 rcases b4 with b4 | ⟨g2,rfl,gd,ge,gf⟩
 ·omega
 obtain ⟨i0,hi,hz0,hz1,hz2⟩:=info_parts Zbi
 have x0:=Za (j:=0) hb rfl
 have x1:=Za (j:=1) hb rfl
 have hbl:=Zg hb
 go_enter Tryz.func136,Tryz.ntmps136
 go_wp2
 go_loopw [3,5,11,12,13,14,15,16,17,18,19,20,21,22] (fun sv _ iv _ _ _ _ _ _ _ _ _ _ _ wr=>((iv= .int .i64 0/\sv= .int .i64 0)\/(iv= .int .i64 1/\sv= .int .i64 o1.length)\/(iv= .int .i64 2/\sv= .int .i64 ((o1.length:Int)+o2.length)))/\wr=w) (fun _ _ iv _ _ _ _ _ _ _ _ _ _ _ _=>2-(intOf iv).toNat)
 case atStart=>exact ⟨.inl ⟨rfl,rfl⟩,rfl⟩
 obtain ⟨hrel,hw⟩:=hrel
 replace hw:=hw.symm
 subst hw
 rcases hrel with ⟨rfl,rfl⟩ | ⟨rfl,rfl⟩ | ⟨rfl,rfl⟩
 ·have k1:(0:Int)<=(o1.length:Int):=by omega
  go_wp2_with fail
  exact ⟨⟨.inr (.inl ⟨rfl,rfl⟩),trivial⟩,by decide⟩
 ·have k1:(0:Int)<=(o1.length:Int)+(o2.length:Int):=by omega
  go_wp2_with fail
  exact ⟨⟨.inr (.inr ⟨rfl,rfl⟩),trivial⟩,by decide⟩
 go_wp2_with fail
 rw [show (o1.length:Int)+(o2.length:Int)=((o1.length+o2.length:Nat):Int) by omega]
 refine (Zrh (o1.length+o2.length) (by omega) hn w).mono ?_
 rintro e w2 ⟨g,cap,rfl,e2,hown⟩
 have y0:=Za (j:=0) (e2.at hb) rfl
 have y1:=Za (j:=1) (e2.at hb) rfl
 have GC:=Lib.hid gc
 have GF:=Lib.hid gf
 clear gc gf
 go_wp2_with fail
 clear y0 y1 x0 x1
 go_loopw [6,8,27,28,29,30,31,32,33,34] (fun ov _ iv _ _ _ _ _ _ _ wr=>((iv= .int .i64 0/\wr.ownsRow w.heap.size 153 7 ov 0 [])\/(iv= .int .i64 1/\wr.ownsRow w.heap.size 153 7 ov o1.length (Zi o1))\/(iv= .int .i64 2/\wr.ownsRow w.heap.size 153 7 ov (o1++o2).length (Zi (o1++o2))))/\Ext w wr) (fun _ _ iv _ _ _ _ _ _ _ _=>2-(intOf iv).toNat)
 case atStart=>exact ⟨.inl ⟨rfl,hown⟩,e2⟩
 obtain ⟨hrel,er⟩:=hrel
 have z0:=Za (j:=0) (er.at hb) rfl
 have z1:=Za (j:=1) (er.at hb) rfl
 have hne1:∀j u,(Zi o1)[j]? =some u->wr.cell? ((⟨g1,0,none⟩:Addr).add j)=some u:=fun j u hu=>by
  have hadd:(⟨g1,0,none⟩:Addr).add j=⟨g1,j,none⟩:=by unfold Addr.add;split<;>simp_all
  rw [hadd]
  exact (Zf (er.block gb)).trans (GC.out j u hu)
 have hne2:∀j u,(Zi o2)[j]? =some u->wr.cell? ((⟨g2,0,none⟩:Addr).add j)=some u:=fun j u hu=>by
  have hadd:(⟨g2,0,none⟩:Addr).add j=⟨g2,j,none⟩:=by unfold Addr.add;split<;>simp_all
  rw [hadd]
  exact (Zf (er.block ge)).trans (GF.out j u hu)
 have hN1:=Lib.hid hne1
 have hN2:=Lib.hid hne2
 clear hne1 hne2
 rcases hrel with ⟨rfl,ho⟩ | ⟨rfl,ho⟩ | ⟨rfl,ho⟩
 ·go_wp2_with (first
   | (at_builtin;refine wpList_append_own _ rfl _ _ 45 rfl w.heap.size 153 i0 Zw.agg 7 40 Tryz.underlying45 hi hz0 hz1 hz2 rfl (by decide) _ 0 _ rfl ho ⟨g1,0,none⟩ o1.length c1 (Zi o1) rfl a3 hN1.out (Ut o1) (by unfold maxLen;omega) (by omega) er.size ?_
      intro v' w9 hown9 hgrow9 hnil9
      have E9:Ext w w9:=(Y6 (S:=[]) (Kx er) hgrow9 (fun q hq=>.inr (ho.lt q hq).1)).ext))
  exact ⟨⟨.inr (.inl ⟨rfl,by simpa using hown9⟩),E9⟩,by decide⟩
 ·go_wp2_with (first
   | (at_builtin;refine wpList_append_own _ rfl _ _ 45 rfl w.heap.size 153 i0 Zw.agg 7 40 Tryz.underlying45 hi hz0 hz1 hz2 rfl (by decide) _ o1.length _ rfl ho ⟨g2,0,none⟩ o2.length c2 (Zi o2) rfl b3 hN2.out (Ut o2) (by unfold maxLen;omega) (by omega) er.size ?_
      intro v' w9 hown9 hgrow9 hnil9
      have E9:Ext w w9:=(Y6 (S:=[]) (Kx er) hgrow9 (fun q hq=>.inr (ho.lt q hq).1)).ext))
  exact ⟨⟨.inr (.inr ⟨rfl,by rw [List.length_append,Xk];exact hown9⟩),E9⟩,by decide⟩
 go_wp2_with fail
 go_ret
 exact ⟨_,rfl,er,ho⟩
theorem isNaN_any (x:Int) (w:World):Calls Tryz.prog 253 #[.int .u64 x] w (Ret (.bool false) w):=by
 have hx:(x !=x)=false:=by simp [bne]
 go_enter Tryz.func253,Tryz.ntmps253
 go_wp2
 go_ret
 exact ⟨rfl,Ext.refl _⟩
theorem uless_any (x y:Int) (w:World):Calls Tryz.prog 210 #[.int .u64 x,.int .u64 y] w (Ret (.bool (decide (x<y))) w):=by
 go_enter Tryz.func210,Tryz.ntmps210
 go_wp2_with fail
 refine (isNaN_any x w).mono ?_
 rintro e w2 ⟨rfl,e2⟩
 go_wp2_with fail
 go_ret
 exact ⟨rfl,e2⟩
theorem ins2_any (g cap:Nat) (s:Int) (w:World) (c0:w.cell? ⟨g,0,none⟩=some (.int .u64 s)) (c1:w.cell? ⟨g,1,none⟩=some (.int .u64 s)) (hg:g<w.heap.size):
 Calls Tryz.prog 204 #[.slice (some ⟨g,0,none⟩) 2 cap,.int .i64 0,.int .i64 2] w (fun e w'=>e= .returned (.tuple #[])/\Ext w w'):=by
 have hls:=fun W=>uless_any s s W
 rw [show decide (s<s)=false by simp] at hls
 go_enter Tryz.func204,Tryz.ntmps204
 go_wp2
 go_loopw [6,7,10,11,12,13,14,15,16,17,18,19,20,21,22,23,24,25,26,27,28,29,30,31,32,33,34,35,36,37,38,39,40,41,42,43,44,45,46,47,48] (fun iv _ _ _ _ _ _ _ _ _ _ _ _ _ _ _ _ _ _ _ _ _ _ _ _ _ _ _ _ _ _ _ _ _ _ _ _ _ _ _ _ wr=>(iv= .int .i64 1\/iv= .int .i64 2)/\Ext w wr) (fun iv _ _ _ _ _ _ _ _ _ _ _ _ _ _ _ _ _ _ _ _ _ _ _ _ _ _ _ _ _ _ _ _ _ _ _ _ _ _ _ _ _=>2-(intOf iv).toNat)
 case atStart=>exact ⟨.inl rfl,Ext.refl _⟩
 obtain ⟨hrel,er⟩:=hrel
 rcases hrel with rfl | rfl
 ·go_wp2_with fail
  go_loopw [7,16,17,18,19,20,21,22,23,24,25,26,27,28,29,30,31,32,33,34,35,36,37,38,39,40,41,42,43,44,45,46,47,48] (fun jv _ _ _ _ _ _ _ _ _ _ _ _ _ _ _ _ _ _ _ _ _ _ _ _ _ _ _ _ _ _ _ _ _ wr=>jv= .int .i64 1/\Ext w wr) (fun _ _ _ _ _ _ _ _ _ _ _ _ _ _ _ _ _ _ _ _ _ _ _ _ _ _ _ _ _ _ _ _ _ _ _=>0)
  case atStart=>exact ⟨rfl,er⟩
  obtain ⟨rfl,er2⟩:=hrel
  go_wp2_with fail
  refine Z9 Zl [] (by kernel_rfl) (by kernel_rfl) ?_
  intro w1 hw1
  have x0:∀u:ExtOf w1,u.to.cell? ⟨g,0,none⟩=_:=fun u=>(Zf ((Xt er2 (Xt hw1 u.h)).block hg)).trans c0
  have x1:∀u:ExtOf w1,u.to.cell? ⟨g,1,none⟩=_:=fun u=>(Zf ((Xt er2 (Xt hw1 u.h)).block hg)).trans c1
  simp only [Zk,Rg.hsB,Nat.reduceAdd,↓reduceIte]
  repeat (go_big_quiet_step ((go_at_call 210;exact Ret.cls (hls _))))
  refine wpQuiet_nil ?_
  refine Xc (by kernel_rfl) ?_
  intro w3 e3 e3'
  try simp only [Act.put,Rg.puC,Rg.puB]
  clear x0 x1
  go_wp2_with fail
  exact ⟨⟨.inr rfl,Xt er2 e3⟩,by decide⟩
 go_wp2_with fail
 exact bodyPost_end (results_none (by kernel_rfl) _ _ _) rfl ⟨rfl,er⟩
theorem pdq2_any (g cap:Nat) (s lim:Int) (w:World) (c0:w.cell? ⟨g,0,none⟩=some (.int .u64 s)) (c1:w.cell? ⟨g,1,none⟩=some (.int .u64 s)) (hg:g<w.heap.size):
 Calls Tryz.prog 163 #[.slice (some ⟨g,0,none⟩) 2 cap,.int .i64 0,.int .i64 2,.int .i64 lim] w (fun e w'=>e= .returned (.tuple #[])/\Ext w w'):=by
 go_enter Tryz.func163,Tryz.ntmps163
 go_wp2
 go_loopw [1,2,3,8,9,10,11,12,13,14,15,16,17,18,19,20,21,22,23,24,25,26,27,28,29,30,31,32,33,34,35,36,37,38,39,40,41,42,43,44,45,46,47,48,49,50,51,52,53,54,55,56,57,58,59,60,61,62,63,64,65,66,67,68,69,70,71,72,73,74,75,76,77,78,79,80,81,82,83,84,85,86,87,88,89,90,91,92,93,94,95,96,97,98,99,100,101,102,103,104,105,106,107,108,109,110,111,112,113,114,115,116,117,118,119,120,121,122,123,124,125,126,127,128,129,130,131,132,133] (fun av bv _ _ _ _ _ _ _ _ _ _ _ _ _ _ _ _ _ _ _ _ _ _ _ _ _ _ _ _ _ _ _ _ _ _ _ _ _ _ _ _ _ _ _ _ _ _ _ _ _ _ _ _ _ _ _ _ _ _ _ _ _ _ _ _ _ _ _ _ _ _ _ _ _ _ _ _ _ _ _ _ _ _ _ _ _ _ _ _ _ _ _ _ _ _ _ _ _ _ _ _ _ _ _ _ _ _ _ _ _ _ _ _ _ _ _ _ _ _ _ _ _ _ _ _ _ _ _ wr=>(av= .int .i64 0/\bv= .int .i64 2)/\Ext w wr) (fun _ _ _ _ _ _ _ _ _ _ _ _ _ _ _ _ _ _ _ _ _ _ _ _ _ _ _ _ _ _ _ _ _ _ _ _ _ _ _ _ _ _ _ _ _ _ _ _ _ _ _ _ _ _ _ _ _ _ _ _ _ _ _ _ _ _ _ _ _ _ _ _ _ _ _ _ _ _ _ _ _ _ _ _ _ _ _ _ _ _ _ _ _ _ _ _ _ _ _ _ _ _ _ _ _ _ _ _ _ _ _ _ _ _ _ _ _ _ _ _ _ _ _ _ _ _ _ _ _ _=>0)
 case atStart=>exact ⟨⟨rfl,rfl⟩,Ext.refl _⟩
 obtain ⟨⟨rfl,rfl⟩,er⟩:=hrel
 go_wp2_with fail
 refine (ins2_any g cap s wr ((Zf (er.block hg)).trans c0) ((Zf (er.block hg)).trans c1) (Nat.lt_of_lt_of_le hg er.size)).mono ?_
 rintro e w2 ⟨rfl,e2⟩
 go_wp2_with fail
 refine bodyPost_ret (results_none (by kernel_rfl) _ _ _) rfl ?_
 exact ⟨rfl,Xt er e2⟩
theorem sort2_any (g cap:Nat) (s:Int) (w:World) (c0:w.cell? ⟨g,0,none⟩=some (.int .u64 s)) (c1:w.cell? ⟨g,1,none⟩=some (.int .u64 s)) (hg:g<w.heap.size):
 Calls Tryz.prog 137 #[.slice (some ⟨g,0,none⟩) 2 cap] w (fun e w'=>e= .returned (.tuple #[])/\Ext w w'):=by
 go_enter Tryz.func137,Tryz.ntmps137
 go_wp2_with fail
 refine (Tryz.bits_Len 2 w (by decide) (by decide)).mono ?_
 rintro e w2 ⟨rfl,rfl⟩
 go_wp2_with fail
 refine (pdq2_any g cap s _ _ c0 c1 hg).mono ?_
 rintro e w3 ⟨rfl,e3⟩
 go_wp2_with fail
 exact bodyPost_end (results_none (by kernel_rfl) _ _ _) rfl ⟨rfl,e3⟩
theorem Zni (base g cap:Nat) (s:Int) (w:World) (hown:w.ownsRow base 28 1 (.slice (some ⟨g,0,none⟩) 2 cap) 2 [.int .u64 s,.int .u64 s]):
 Calls Tryz.prog 138 #[.slice (some ⟨g,0,none⟩) 2 cap] w (fun e w'=>∃v,e= .returned v/\Keep [g] w w'/\Zn w' base 1 v 1 [.int .u64 s]):=by
 obtain ⟨cells,hrow⟩:=Us hown
 have c0:=(Yc hown).2 0 _ rfl
 have c1:=(Yc hown).2 1 _ rfl
 have hg:=Zg hrow
 obtain ⟨_,hown2⟩:=id hown
 rcases hown2 with ⟨h0,_⟩ | ⟨b,cap',cur',hv,hb,hgr,h1,h2,h3,h4⟩
 ·cases h0
 injection hv with hv1 _ hv2
 injection hv1 with hv1
 injection hv1 with hv1 _ _
 subst hv1 hv2
 have hcap:(2:Int)<=(cap:Int):=by omega
 go_enter Tryz.func138,Tryz.ntmps138
 go_wp2_with fail
 go_loopw [2,3,4,5,10,11,12,13,14,15,16,17,18,19,20,21,22,23,24,25,26,27,28,29,30,31,32,33,34,35,36,37,38,39,40,41,42,43,44,45,46,47,48,49,50,51,52,53,54,55,56,57,58,59] (fun _ iv _ _ _ _ _ _ _ _ _ _ _ _ _ _ _ _ _ _ _ _ _ _ _ _ _ _ _ _ _ _ _ _ _ _ _ _ _ _ _ _ _ _ _ _ _ _ _ _ _ _ _ _ wr=>iv= .int .i64 1/\Ext w wr) (fun _ _ _ _ _ _ _ _ _ _ _ _ _ _ _ _ _ _ _ _ _ _ _ _ _ _ _ _ _ _ _ _ _ _ _ _ _ _ _ _ _ _ _ _ _ _ _ _ _ _ _ _ _ _ _=>0)
 case atStart=>exact ⟨rfl,Ext.refl _⟩
 obtain ⟨rfl,er⟩:=hrel
 go_wp2_with fail
 refine Z9 Zl [] (by kernel_rfl) (by kernel_rfl) ?_
 intro w1 hw1
 have x0:∀u:ExtOf w1,u.to.cell? ⟨g,0,none⟩=_:=fun u=>(Zf ((Xt er (Xt hw1 u.h)).block hg)).trans c0
 have x1:∀u:ExtOf w1,u.to.cell? ⟨g,1,none⟩=_:=fun u=>(Zf ((Xt er (Xt hw1 u.h)).block hg)).trans c1
 simp only [Zk,Rg.hsB,Nat.reduceAdd,↓reduceIte]
 repeat (go_big_quiet_step (fail))
 refine wpQuiet_nil ?_
 refine Xc (by kernel_rfl) ?_
 intro w3 e3 e3'
 try simp only [Act.put,Rg.puC,Rg.puB]
 clear x0 x1
 go_wp2_with fail
 go_loopw [3,5,29,30,31,32,33,34,35,36,37,38,39,40,41,42,43,44,45,46,47,48,49,50,51,52,53] (fun kv jv _ _ _ _ _ _ _ _ _ _ _ _ _ _ _ _ _ _ _ _ _ _ _ _ _ wr=>(kv= .int .i64 1/\jv= .int .i64 1)/\Ext w wr) (fun _ _ _ _ _ _ _ _ _ _ _ _ _ _ _ _ _ _ _ _ _ _ _ _ _ _ _ _=>0)
 case atStart=>exact ⟨⟨rfl,rfl⟩,Xt er e3⟩
 obtain ⟨⟨rfl,rfl⟩,er2⟩:=hrel
 have hzr:∀W,(zeroValue 28).run Tryz.prog W= .ok (.int .u64 0) W:=fun W=>by simp [go_sem]
 have hclr:=fun ty c=>Zcl wr g 1 1 c (by omega) cur' ty 195 28 (.int .u64 0) 1 Tryz.underlying195 (hzr wr) rfl (by simp [Value.cells,Value.oneCell']) (er2.at hgr) (by omega)
 obtain ⟨R,hR⟩:∃R:Array Value,R=(cur'.toList.take 1++(Builtin.zeroCells (Value.int .u64 0).cells 1).toList++cur'.toList.drop (1+1*1)).toArray:=⟨_,rfl⟩
 rw [<-hR] at hclr
 have HRR:=Lib.hid hR
 have HG:=Lib.hid (er2.at hgr)
 have HT:=Lib.hid h4
 clear hR h4 hgr hown hrow hzr
 go_wp2_with (at_builtin;refine J3 rfl rfl _ 195 rfl _ (.tuple #[]) _ rfl (hclr _ _) ?_)
 refine bodyPost_ret (results_tmp rfl _ _ _) rfl ?_
 have hrow:=setRow_heap wr g cur' R 28 (0,0) HG.out
 have kz:Keep [g] wr (wr.setRow g R):=⟨rfl,rfl,rfl,by simp [World.setRow],fun k _ hk=>setRow_other _ _ _ _ (by simpa using hk)⟩
 refine ⟨_,rfl,(Kx er2).trans kz,some ⟨g,0,none⟩,cap,rfl,by omega,h2,rfl,.inr ⟨g,rfl,hb,Zg hrow,fun k u hu=>Za hrow ?_⟩⟩
 have hk:k=0:=by have:=(List.getElem?_eq_some_iff.1 hu).1;simp at this;exact this
 subst hk
 have h5:=HT.out
 cases hc:cur'.toList with
 | nil=>rw [hc] at h5;simp at h5
 | cons x xs=>
   rw [hc] at h5
   simp at h5 hu
   rw [HRR.out,hc]
   simp [<-hu,h5.1]
theorem u64_info:(Tryz.prog.info? 28).map (fun i=>(i.zero,i.size,i.bytes))=some (some (.int .u64 0),1,8):=by kernel_rfl
theorem num1_any (v1 v2 v3 u1 u2 u3:Value) (nv nu:Int) (a b:Off) (hab:b.seq=a.seq) (w:World) (q1:∃A n c,v1= .slice A n c) (q2:∃A n c,v2= .slice A n c) (q3:∃A n c,v3= .slice A n c)
 (r1:∃A n c,u1= .slice A n c) (r2:∃A n c,u2= .slice A n c) (r3:∃A n c,u3= .slice A n c) (h3:Zn w 0 7 v3 [a].length (Zi [a])) (k3:Zn w 0 7 u3 [b].length (Zi [b])):
 Calls Tryz.prog 86 #[.agg #[v1,v2,v3,.int .u64 nv],.agg #[u1,u2,u3,.int .u64 nu]] w (Zfk 1 [a.seq].length ([a.seq].map (Value.int .u64)) w):=by
 obtain ⟨A1,n1,c1,rfl⟩:=q1
 obtain ⟨A2,n2,c2,rfl⟩:=q2
 obtain ⟨A3,n3,c3,rfl⟩:=q3
 obtain ⟨B1,m1,d1,rfl⟩:=r1
 obtain ⟨B2,m2,d2,rfl⟩:=r2
 obtain ⟨B3,m3,d3,rfl⟩:=r3
 obtain ⟨i0,hi,hz0,hz1,hz2⟩:=info_parts u64_info
 obtain ⟨W1,hW1,e1,s1,hs1⟩:=Y8 w #[.slice A1 n1 c1,.slice A2 n2 c2,.slice A3 n3 c3,.int .u64 nv] 47
 obtain ⟨W2,hW2,e2,s2,hs2⟩:=Y8 W1 #[.slice B1 m1 d1,.slice B2 m2 d2,.slice B3 m3 d3,.int .u64 nu] 47
 rw [hs1] at s2
 have x1:=Za (j:=2) (e2.at s1) rfl
 have x2:=Za (j:=2) s2 rfl
 have e02:=Xt e1 e2
 have h3':=h3.ext e02
 have k3':=k3.ext e02
 clear s1 s2 h3 k3
 go_enter Tryz.func86,Tryz.ntmps86
 obtain ⟨W3,hW3,e3,s3,hs3⟩:=Y8 W2 #[.slice A3 n3 c3,.slice B3 m3 d3] 45
 rw [show W2.heap.size=w.heap.size+1+1 by omega] at s3
 go_wp2_with (first | (rw [hW1]) | (rw [hW2]) | (rw [hW3]))
 refine (Zr1 (w.heap.size+1+1) _ _ [a] [b] W3 s3 (h3'.ext e3) (k3'.ext e3) (by simp) (by simp) (by simp)).mono ?_
 rintro e W4 ⟨v4,rfl,e4,hown4⟩
 obtain ⟨g,cap,rfl,hg1,hg2,hg3⟩:=Zf2 hown4 (by simp)
 have E4:=Xt e02 (Xt e3 e4)
 have hcl:=(Yc hown4).2
 have C4:=Lib.hid hcl
 rw [show ([a]++[b]).length=2 from rfl]
 clear x1 x2 h3' k3' s3 e1 e2 e02 hs1 hs2 hs3 hW1 hW2 hW3 e3 e4 hcl hown4
 go_wp2_with fail
 go_loopw [5,7,15,16,17,18,19,20,21,22,23,24] (fun ov _ iv _ _ _ _ _ _ _ _ _ wr=>∃k:Nat,k<=2/\iv= .int .i64 k/\Ext W4 wr/\wr.ownsRow W4.heap.size 28 1 ov k ((([a,b].take k).map Off.seq).map (Value.int .u64))) (fun _ _ iv _ _ _ _ _ _ _ _ _ _=>2-(intOf iv).toNat)
 case atStart=>exact ⟨0,Nat.zero_le _,rfl,Ext.refl _,World.ownsRow_nil _ _ _ _⟩
 obtain ⟨k,hk,rfl,er,hown⟩:=hrel
 obtain ⟨AO,capO,rfl⟩:=Z7 hown
 by_cases hk2:k<2
 ·have hld:=Zbn wr g k [a,b] hk2 (fun j u hu=>(Zf (er.block hg2)).trans (C4.out j u hu))
  have hz:=Zb wr (.cells Zw.cells.toArray 153)
  have ez:=Zc wr (.cells Zw.cells.toArray 153)
  have hj1:(0:Int)<=(k:Int):=by omega
  have hj2:(k:Int)<2:=by omega
  have hnx:(([a,b].take (k+1)).map Off.seq).map (Value.int .u64)=(([a,b].take k).map Off.seq).map (Value.int .u64)++[.int .u64 ([a,b][k]'hk2).seq]:=by
   rcases k with _ | _ | k
   ·rfl
   ·rfl
   omega
  generalize ([a,b][k]'hk2)=x at *
  generalize (([a,b].take k).map Off.seq).map (Value.int .u64)=acc at *
  have HNX:=Lib.hid hnx
  clear hnx
  go_wp2_with (first
   | (refine Zd rfl 153 _ _ _ rfl rfl hld ?_)
   | (refine Ze rfl rfl 153 _ _ rfl wr.heap.size _ rfl rfl 153 _ hz (by kernel_rfl) (by rfl) (by rfl) ?_
      intro w5 hb5 ho5 hs5
      have e5:Ext wr w5:=hb5 _ _ (Nat.le_refl _) ez
      have z0:=Za (j:=0) hs5 rfl
      have E5:=Xt er (Xt e5 (Zc w5 (.cells #[.int .u64 x.seq] 28)))
      have hown5:=Zo hown (Xt e5 (Zc w5 (.cells #[.int .u64 x.seq] 28))))
   | (at_builtin;refine wpList_append_own _ rfl _ _ 195 rfl W4.heap.size 28 i0 (.int .u64 0) 1 8 Tryz.underlying195 hi hz0 hz1 hz2 rfl (by decide) (.slice AO k capO) k _ rfl hown5 ⟨w5.heap.size,0,none⟩ 1 1 [.int .u64 x.seq] rfl rfl (Uv w5 [.int .u64 x.seq] _) (fun y hy=>by rw [List.mem_singleton.1 hy];rfl) (by unfold maxLen;omega) (by omega) E5.size ?_
      intro v' w9 hown9 hgrow9 hnil9
      have E9:Ext W4 w9:=(Y6 (S:=[]) (Kx E5) hgrow9 (fun q hq=>.inr (hown5.lt q hq).1)).ext))
  exact ⟨⟨k+1,by omega,by go_num,E9,by rw [HNX.out];exact hown9⟩,by simp [intOf];omega⟩
 have hk':k=2:=by omega
 subst hk'
 have hl2:(([a,b].take 2).map Off.seq).map (Value.int .u64)=[.int .u64 a.seq,.int .u64 a.seq]:=by simp [hab]
 rw [hl2] at hown
 obtain ⟨gs,cs,hvs,hs1,hs2,hs3⟩:=Zf2 hown (by omega)
 injection hvs with hv1 _ hv2
 subst hv1 hv2
 have c0:=(Yc hown).2 0 _ rfl
 have c1:=(Yc hown).2 1 _ rfl
 go_wp2_with fail
 refine (sort2_any gs capO a.seq wr c0 c1 hs2).mono ?_
 rintro e w5 ⟨rfl,e5⟩
 clear c0 c1
 go_wp2_with fail
 refine (Zni W4.heap.size gs capO a.seq w5 (Zo hown e5)).mono ?_
 rintro e w6 ⟨v6,rfl,k6,sl6⟩
 go_wp2_with fail
 go_ret
 have E6:Ext W4 w6:=(Keep.trans_fresh (S:=[]) (Kx (Xt er e5)) k6 (fun x hx=>by right;simp at hx;omega)).ext
 exact ⟨_,rfl,Xt E4 E6,sl6.low E4.size⟩
end Go.Proofs.YtipjchbdogmccaaGreat
