/- Places: fill by fill. Places: Place. -/
import Derived.Test.YtipjchbdogmccaaGreatPlaceP
import Derived.Test.YtipjchbdogmccaaGreatAgain2
set_option maxHeartbeats 6400000
set_option maxRecDepth 100000
namespace Go.Proofs.YtipjchbdogmccaaGreat
open Go.RowKit Go.Rg Go.BigFrame
def Yt (l:List Fl):List Value:=l.flatMap fun f=>[.int .u64 f.1,.int .u8 f.2.1,.int .u8 f.2.2.1,.int .i64 f.2.2.2.1,.int .i64 f.2.2.2.2]
theorem Zc1 (l k:List Fl):Yt (l++k)=Yt l++Yt k:=by unfold Yt;rw [List.flatMap_append]
theorem Zl7:(Tryz.prog.info? 250).map (fun i=>(i.zero,i.size,i.bytes))=some (some (.agg #[.int .u64 0,.int .u8 0,.int .u8 0,.int .i64 0,.int .i64 0]),5,32):=by kernel_rfl
theorem U2 {W:World} {c p m pb base:Nat} {g:Option Nat} {L:Led} {B:Bk} {o:Off} {av:Value} {n:Nat} {xs:List Value} (h:Coming W c p m pb g L B o av) (ho:W.ownsRow base 250 5 av n xs):
 c∉m::pb::g.toList/\c≠p/\(∀q,av.ownBlock=some q->q∉m::pb::g.toList/\q≠c/\q≠p):=by
 obtain ⟨v,hv,hg,hob⟩:=h.book.row
 obtain ⟨_,_,es,ck,hm,_⟩:=h.led.map
 have hp:=h.led.row
 have hc:=h.row
 have key:∀x,g=some x->∃cur,W.heap[x]? =some (.cells cur 153 (0,0)):=by
  intro x hx
  rcases hob.2 with ⟨rfl,_⟩ | ⟨b,cap,cur,rfl,_,hh,_⟩
  ·rw [<-hg] at hx;simp [Value.ownBlock] at hx
  rw [<-hg] at hx
  simp only [Value.ownBlock,Option.some.injEq] at hx
  subst hx
  exact ⟨cur,hh⟩
 have keyq:∀q,av.ownBlock=some q->∃cur,W.heap[q]? =some (.cells cur 250 (0,0)):=by
  intro q hq
  rcases ho.2 with ⟨rfl,_⟩ | ⟨b,cap,cur,rfl,_,hh,_⟩
  ·simp [Value.ownBlock] at hq
  simp only [Value.ownBlock,Option.some.injEq] at hq
  subst hq
  exact ⟨cur,hh⟩
 refine ⟨fun hx=> ?_,fun e=>by subst e;rw [hp] at hc;simp at hc,fun q hq=> ?_⟩
 ·rcases List.mem_cons.1 hx with rfl | hx
  ·rw [hm] at hc;simp at hc
  rcases List.mem_cons.1 hx with rfl | hx
  ·rw [hv] at hc;simp at hc
  obtain ⟨cur,hh⟩:=key c (by simpa using hx)
  rw [hh] at hc;simp at hc
 obtain ⟨cq,hq2⟩:=keyq q hq
 refine ⟨fun hx=> ?_,fun e=>by subst e;rw [hq2] at hc;simp at hc,fun e=>by subst e;rw [hq2] at hp;simp at hp⟩
 rcases List.mem_cons.1 hx with rfl | hx
 ·rw [hm] at hq2;simp at hq2
 rcases List.mem_cons.1 hx with rfl | hx
 ·rw [hv] at hq2;simp at hq2
 obtain ⟨cur,hh⟩:=key q (by simpa using hx)
 rw [hh] at hq2;simp at hq2
def RetGoes (base c p m pb:Nat) (o:Off) (r:Int×Led×Bk×Int×List Fl) (w:World) (e:Ending) (w':World):Prop:=
 e= .returned (.int .i64 r.1)/\Below base w w'/\∃g' av',Coming w' c p m pb g' r.2.1 r.2.2.1 { o with left:=r.2.2.2.1 } av'/\w'.ownsRow base 250 5 av' r.2.2.2.2.length (Yt r.2.2.2.2)/\(∀x,g'=some x->base<=x)
theorem Zaw {S:List Nat} {base:Nat} {a b c:World} (h:Below base a b) (k:Keep S b c) (hb:base<=b.heap.size) (hs:∀x∈S,base<=x):Below base a c:=
 h.trans ⟨k.os,k.tape,k.output,k.size,fun i hi=>k.block i (by omega) (fun hx=>by have:=hs i hx;omega)⟩
structure GI (base c p m pb:Nat) (o:Off) (w0:World) (r0:Int×Led×Bk×Int×List Fl) (g:Option Nat) (L:Led) (B:Bk) (left:Int) (all:List Fl) (av:Value) (W:World):Prop where
 cm:Coming W c p m pb g L B { o with left:=left } av
 own:W.ownsRow base 250 5 av all.length (Yt all)
 wf:WF L
 ok:OkB B
 sn:Jm B
 hl:left<=9223372036854775807
 ha:all.length<=64
 hg:∀x,g=some x->base<=x
 be:Below base w0 W
 on:Ye o (65-all.length) L B left all=r0
theorem GI.ext {base c p m pb:Nat} {o:Off} {w0 W W':World} {r0:Int×Led×Bk×Int×List Fl} {g:Option Nat} {L:Led} {B:Bk} {left:Int} {all:List Fl} {av:Value} (h:GI base c p m pb o w0 r0 g L B left all av W) (k:Ext W W') (hb:base<=c):
 GI base c p m pb o w0 r0 g L B left all av W':=
 ⟨h.cm.ext k,Zo h.own k,h.wf,h.ok,h.sn,h.hl,h.ha,h.hg,h.be.trans (Below.mono k (by have:=Zg h.cm.row;omega)),h.on⟩
theorem GI.done {base c p m pb:Nat} {o:Off} {w0 W:World} {r0:Int×Led×Bk×Int×List Fl} {g:Option Nat} {L:Led} {B:Bk} {left:Int} {all:List Fl} {av:Value} (h:GI base c p m pb o w0 r0 g L B left all av W) {e:Int}
 (hr:r0=(e,L,B,left,all)):RetGoes base c p m pb o r0 w0 (.returned (.int .i64 e)) W:=by
 subst hr
 exact ⟨rfl,h.be,g,av,h.cm,h.own,h.hg⟩
theorem Zag {S:List Nat} {w w':World} {base size n:Nat} {e:TypeId} {v:Value} {xs:List Value} (h:w.ownsRow base e size v n xs) (k:Keep S w w') (hS:∀q,v.ownBlock=some q->q∉S):w'.ownsRow base e size v n xs:=by
 refine ⟨h.1,?_⟩
 rcases h.2 with h4 | ⟨b,cap,cur,rfl,hb,hh,rest⟩
 ·exact .inl h4
 exact .inr ⟨b,cap,cur,rfl,hb,k.at hh (hS b rfl),rest⟩
theorem Zpj {base c p m pb:Nat} {g g4:Option Nat} {L dL:Led} {B dB:Bk} {o:Off} {av:Value} {n:Nat} {xs:List Value} {w0 w2 wA w4 w5 w6 w7:World} {eb:Nat} (h:Coming w2 c p m pb g L B o av) (ho:w2.ownsRow base 250 5 av n xs) (hbe:Below base w0 w2)
 (hbc:base<=c) (hbm:base<=m) (hbp:base<=pb) (hg:∀x,g=some x->base<=x) (hE:Ext w2 wA) (k4:Keep (m::pb::g.toList) wA w4) (hL:IsLed w4 p m dL) (hB:IsBook w4 pb g4 dB) (hx:Ext w4 w5) (k6:Keep [eb] w5 w6) (h7:Ext w6 w7)
 (heb:w2.heap.size<=eb) (heg:∀x,g4=some x->x≠eb):Coming w7 c p m pb g4 dL dB o av/\w7.ownsRow base 250 5 av n xs/\Below base w0 w7:=by
 obtain ⟨hcS,hcp,hq⟩:=U2 h ho
 have hlc:=Zg h.row
 have hlp:=h.led.ltp
 have hlm:=h.led.ltm
 have hlb:=h.book.ltp
 have hlg:=h.book.ltg
 have sA:=hE.size
 have s4:=k4.size
 have s5:=hx.size
 have s6:=k6.size
 have hr4:=k4.at (hE.at h.row) hcS
 have ho4:=Zag (Zo ho hE) k4 (fun q hq2=>(hq q hq2).1)
 have hqe:∀q,av.ownBlock=some q->q∉[eb]:=fun q hq2=>by have:=(ho.lt q hq2).2;simp;omega
 refine ⟨⟨h7.at (k6.at (hx.at hr4) (by simp;omega)),((hL.ext hx).keep k6 (by simp;omega) (by simp;omega)).ext h7,((hB.ext hx).keep k6 (by simp;omega) (fun x hx=>by have:=heg x hx;simp;exact this)).ext h7⟩,
  Zo (Zag (Zo ho4 hx) k6 hqe) h7,?_⟩
 have b1:Below base w0 wA:=hbe.trans (Below.mono hE (by omega))
 have b2:Below base w0 w4:=Zaw b1 k4 (by omega) (fun x hx=>by
  rcases List.mem_cons.1 hx with rfl | hx
  ·exact hbm
  rcases List.mem_cons.1 hx with rfl | hx
  ·exact hbp
  exact hg x (by simpa using hx))
 have b3:Below base w0 w5:=b2.trans (Below.mono hx (by omega))
 have b4:Below base w0 w6:=Zaw b3 k6 (by omega) (fun x hx=>by simp at hx;omega)
 exact b4.trans (Below.mono h7 (by omega))
def Zjb (w:World) (c:Nat):Nat:=match w.cell? ⟨c,9,none⟩ with
 | some (.slice _ n _)=>n
 | _=>0
theorem pgoes_any (base c p m pb:Nat) (g:Option Nat) (L:Led) (B:Bk) (o:Off) (left:Int) (all:List Fl) (av:Value) (w:World) (h:Coming w c p m pb g L B { o with left:=left } av) (hall:w.ownsRow base 250 5 av all.length (Yt all))
 (hwf:WF L) (hok:OkB B) (hsn:Jm B) (b1:o.num<=9223372036854775807) (b2:o.den<=9223372036854775807) (hl:left<=9223372036854775807) (ha:all.length<=64) (hbc:base<=c) (hbm:base<=m) (hbp:base<=pb) (hbg:∀x,g=some x->base<=x):
 Calls Tryz.prog 183 #[.pointer (some ⟨c,0,none⟩)] w (RetGoes base c p m pb o (Ye o (65-all.length) L B left all) w):=by
 obtain ⟨r0,hr0⟩:∃r0,r0=Ye o (65-all.length) L B left all:=⟨_,rfl⟩
 rw [<-hr0]
 have hG0:GI base c p m pb o w r0 g L B left all av w:=⟨h,hall,hwf,hok,hsn,hl,ha,hbg,Below.refl _ _,hr0.symm⟩
 have HG0:=Lib.hid hG0
 clear hr0 h hall hwf hok hsn hl ha hG0 hbg
 go_enter Tryz.func183,Tryz.ntmps183
 go_wp2_with fail
 go_loopw [2] (fun v wr=>v= .int .i64 0/\∃g L B left all av,GI base c p m pb o w r0 g L B left all av wr) (fun _ wr=>65-Zjb wr c)
 case atStart=>exact ⟨rfl,_,_,_,_,_,_,HG0.out⟩
 obtain ⟨rfl,g,L,B,left,all,av,hI⟩:=hrel
 have hrow:=hI.cm.row
 simp only at hrow
 have r6:=Za (j:=6) hrow rfl
 have HLEN:=Lib.hid (show Zjb wr c=all.length by
  obtain ⟨ao,acap,hav⟩:=Z7 hI.own
  unfold Zjb
  rw [Za (j:=9) hrow rfl,hav]
  rfl)
 have hnx:=next_any c p m pb g L B { o with left:=left } av wr hI.cm hI.wf hI.ok hI.sn.b b1 b2
 have hsp:=Zg3 L B { o with left:=left } (agR B { o with left:=left })
 by_cases hleft:left<=0
 ·have hl':decide (0<left)=false:=by simp;omega
  have hon:=hI.on
  have hfin:r0=(0,L,B,left,all):=by
   have h65:65-all.length=(64-all.length)+1:=by have:=hI.ha;omega
   rw [<-hon,h65]
   unfold Ye
   rw [if_pos hleft]
  have HF:=Lib.hid hfin
  have HI:=Lib.hid hI
  clear hfin hon hI hnx hsp
  go_wp2
  go_ret
  exact GI.done HI.out HF.out
 have hl':decide (0<left)=true:=by simp;omega
 have hsp2:(X7 L B { o with left:=left }).2=0\/(0<(X7 L B { o with left:=left }).2/\(X7 L B { o with left:=left }).2=Yl L B (X7 L B { o with left:=left }).1 o.owner o.owner 1099511627776 left):=hsp
 clear hsp
 have hon:=hI.on
 have h65:65-all.length=(64-all.length)+1:=by have:=hI.ha;omega
 rw [h65] at hon
 unfold Ye at hon
 rw [if_neg hleft] at hon
 obtain ⟨nx,hnxe⟩:∃nx,nx=X7 L B { o with left:=left }:=⟨_,rfl⟩
 rw [<-hnxe] at hon hsp2 hnx
 obtain ⟨seq,n⟩:=nx
 simp only at hon hsp2 hnx
 have HON:=Lib.hid hon
 have HSP:=Lib.hid hsp2
 have HI:=Lib.hid hI
 have hha:=hI.ha
 clear hnxe hon hsp2 hI
 go_wp2_with fail
 refine hnx.mono ?_
 rintro e w2 ⟨rfl,e2⟩
 have hI2:=HI.out.ext e2 hbc
 clear hnx HI hrow r6
 have hrow:=hI2.cm.row
 simp only at hrow
 have r0':=Za (j:=0) hrow rfl
 have r9:=Za (j:=9) hrow rfl
 obtain ⟨ao,acap,hav⟩:=Z7 hI2.own
 subst hav
 have HI:=Lib.hid hI2
 clear hI2
 by_cases hn:n=0
 ·have hn':(n==0)=true:=by simpa using hn
  have HF:=Lib.hid (show r0=(0,L,B,left,all) by have:=HON.out;rw [if_pos hn] at this;exact this.symm)
  clear HON HSP hn
  go_wp2
  go_ret
  exact GI.done HI.out HF.out
 have hn':(n==0)=false:=by simpa using hn
 by_cases h64:all.length=64
 ·have h64':((all.length:Int)==64)=true:=by rw [h64];rfl
  have HF:=Lib.hid (show r0=(13,L,B,left,all) by have:=HON.out;rw [if_neg hn,if_pos h64] at this;exact this.symm)
  clear HON HSP h64
  go_wp2
  go_ret
  exact GI.done HI.out HF.out
 have h64':((all.length:Int)==64)=false:=by rw [beq_eq_false_iff_ne];omega
 have hon:=HON.out
 rw [if_neg hn,if_neg h64] at hon
 have hmy:0<n/\n=Yl L B seq o.owner o.owner 1099511627776 left:=by
  rcases HSP.out with h | h
  ·exact absurd h hn
  exact h
 obtain ⟨given,hd1,hd2,hd3⟩:=Zbm (L:=L) (B:=B) (seq:=seq) (taker:=o.owner) (to:=o.owner) (want:=1099511627776) (most:=left) HI.out.ok (by omega)
 have hd4:=Zhv L B seq o.owner o.owner n
 have hnb:=(Zmw L B seq o.owner o.owner 1099511627776 left).2.2
 rw [<-hmy.2] at hd1 hd2 hnb
 rw [hd1] at hd4 hon
 simp only at hd4 hon
 have hdo:=fun wq hL hB=>do_any p m pb g L B seq o.owner o.owner n wq hL HI.out.wf hB HI.out.ok (by omega)
 have hwfd:=Zkx (B:=B) HI.out.wf seq o.owner o.owner n
 have hokd:=Zlk (L:=L) HI.out.ok seq o.owner o.owner n
 have hsnd:=Zhy (L:=L) HI.out.sn seq o.owner o.owner n
 obtain ⟨d,hdd⟩:∃d,d=doR L B seq o.owner o.owner n:=⟨_,rfl⟩
 rw [<-hdd] at hd1 hd2 hon hdo hwfd hokd hsnd
 obtain ⟨df,de,dL,dB⟩:=d
 simp only at hd1 hd2 hon hdo hwfd hokd hsnd
 subst hd1 hd2
 clear hdd HON HSP hmy
 have hap:=U2 HI.out.cm HI.out.own
 obtain ⟨hcS,hcp,hqS⟩:=hap
 have hL2:=HI.out.cm.led
 have hB2:=HI.out.cm.book
 have hown2:=HI.out.own
 have hbe2:=HI.out.be
 have hg2:=HI.out.hg
 have hlc:=Zg hrow
 go_wp2
 clear r0' r9
 refine RgK.Zh (m::pb::g.toList) Zl 22 [16,17,18,19,20,21] (by kernel_rfl) (by kernel_rfl) (by kernel_rfl) ?_
 intro w1 hw1
 have hrq:∀u:KeepOf (m::pb::g.toList) w1,u.to.heap[c]? =_:=fun u=>(hw1.trans u.h).at hrow hcS
 have d0:=fun u:KeepOf (m::pb::g.toList) w1=>Za (j:=0) (hrq u) rfl
 have d1:=fun u:KeepOf (m::pb::g.toList) w1=>Za (j:=1) (hrq u) rfl
 have d3:=fun u:KeepOf (m::pb::g.toList) w1=>Za (j:=3) (hrq u) rfl
 clear hrq
 simp only [Zk,Rg.hsB,Nat.reduceBEq,Nat.reduceAdd,↓reduceIte]
 repeat (go_big_quiet_step (fail))
 refine wpQuiet_nil ?_
 intro hx1
 clear d0 d1 d3
 refine RgK.Za0 16 20 _ _ (by kernel_rfl) (by decide) (by decide) (by rfl) (by rfl) rfl rfl ?_ ?_
 focus
  intro w3 h03 h3
  have E3:=Xt hx1 h3
  refine RgK.Vs 179 _ #[.agg #[.pointer (some ⟨p,0,none⟩),.pointer (some ⟨pb,0,none⟩)],.int .u64 seq,.int .u8 o.owner,.int .u8 o.owner,.int .i64 n] _ _ (by rfl) Tryz.func179 rfl (by kernel_rfl) (by kernel_rfl) ?_
  refine (hdo w3 (hL2.ext E3) (hB2.ext E3)).mono ?_
  rintro e w4 ⟨rfl,k4,hL4,g4,hB4,hg4⟩
  refine ⟨_,rfl,h03.trans k4,?_⟩
  refine RgK.Xf Zl 17 [20,21] 2 (by kernel_rfl) (by kernel_rfl) (h03.trans k4) ?_
  intro w1' hw1'
  simp only [Act.put,Zjv,Xj,List.getElem_toArray,List.getElem_cons_succ,List.getElem_cons_zero,List.setIfInBounds_toArray,List.set_cons_zero,List.set_cons_succ]
  simp only [Zk,Rg.hsB,Nat.reduceBEq,Nat.reduceAdd,↓reduceIte]
  repeat (go_big_quiet_step (fail))
  refine wpQuiet_nil ?_
  intro hx4
  refine RgK.Xb 20 _ (.cells #[.int .u64 0,.int .u8 0,.int .u8 0,.int .i64 0,.int .i64 0] 250) (fun p=>.pointer (some ⟨p,0,none⟩)) (by intro w;go_simp) rfl (by kernel_rfl) (by decide) rfl ?_
  intro eb w5 h05 h5 heb0 heb hebb
  refine RgK.Z3 21 _ 250 _ _ rfl rfl rfl (by kernel_rfl) (by decide) rfl eb #[.int .u64 seq,.int .u8 o.owner,.int .u8 o.owner,.int .i64 n,.int .i64 given] (by kernel_rfl) (by kernel_rfl) 250 _ (by kernel_rfl) (by rfl) (by rfl) hebb (Or.inr heb0) ?_
  intro w6 h06 k6 hs6
  refine RgK.Zj (by kernel_rfl) ?_
  intro w7 e7 e7'
  simp only [Act.put,Rg.puB]
  have s3:=E3.size
  have s4:=k4.size
  have sx:=hx4.size
  have hs7:=e7'.at hs6
  have heg:∀x,g4=some x->x≠eb:=fun x hx=>by have:=hB4.ltg x hx;omega
  obtain ⟨hcm7,hown7,hbe7⟩:=Zpj HI.out.cm hown2 hbe2 hbc hbm hbp hg2 E3 k4 hL4 hB4 (Xt hx4 h5) k6 e7' (by omega) heg
  have heb2:w2.heap.size<=eb:=by omega
  have hg7:∀x,g4=some x->base<=x:=fun x hx=>by
   rcases hg4 with hh | hh
   ·exact hg2 x (hh▸hx)
   have:=hh x hx;omega
  clear k4 hL4 hB4 hg4 h05 h5 heb0 heb hebb h06 k6 hs6 e7 e7' hw1' hx4 s3 s4 sx heg h03 h3 E3
 rotate_left
 focus
  intro w3 h03 h3
  refine RgK.Zcd (.pointer (some ⟨w3.heap.size,0,none⟩)) (.cells #[.int .u64 0,.int .u8 0,.int .u8 0,.int .i64 0,.int .i64 0] 250) (by go_simp) ?_
  have ea:=Zc w3 (.cells #[.int .u64 0,.int .u8 0,.int .u8 0,.int .i64 0,.int .i64 0] 250)
  have ha:=Zb w3 (.cells #[.int .u64 0,.int .u8 0,.int .u8 0,.int .i64 0,.int .i64 0] 250)
  have sa:=size_alloc w3 (.cells #[.int .u64 0,.int .u8 0,.int .u8 0,.int .i64 0,.int .i64 0] 250)
  refine ⟨h03.trans (Kx ea),?_⟩
  obtain ⟨eb,hebe⟩:∃eb,eb=w3.heap.size:=⟨_,rfl⟩
  have heb2:w2.heap.size<=eb:=by have:=(Xt hx1 h3).size;omega
  rw [<-hebe] at ha sa ⊢
  refine RgK.Zv 16 179 _ #[.agg #[.pointer (some ⟨p,0,none⟩),.pointer (some ⟨pb,0,none⟩)],.int .u64 seq,.int .u8 o.owner,.int .u8 o.owner,.int .i64 n] _ (by rfl) _ _ (by rfl) Tryz.func179 rfl (by kernel_rfl) (by kernel_rfl) rfl (by kernel_rfl) (by decide) ?_
  intro w3b h03b h3b
  have E3:=Xt hx1 (Xt h3 (Xt ea h3b))
  refine (hdo w3b (hL2.ext E3) (hB2.ext E3)).mono ?_
  rintro e w4 ⟨rfl,k4,hL4,g4,hB4,hg4⟩
  refine ⟨_,rfl,h03b.trans k4,?_⟩
  have hebS:eb∉m::pb::g.toList:=fun hx=>by
   have h1:=hL2.ltm
   have h2:=hB2.ltp
   rcases List.mem_cons.1 hx with rfl | hx
   ·omega
   rcases List.mem_cons.1 hx with rfl | hx
   ·omega
   have:=hB2.ltg eb (by simpa using hx);omega
  have hb4:=k4.at (h3b.at ha) hebS
  refine RgK.Vu (eb::m::pb::g.toList) Zl 17 [20,21] 1 (by kernel_rfl) (by kernel_rfl) (h03b.trans k4) (fun x hx=>by
   rcases List.mem_cons.1 hx with rfl | hx
   ·exact .inr heb2
   exact .inl hx) ?_
  intro w1' hw1'
  simp only [Act.put,Zjv,Xj,List.getElem_toArray,List.getElem_cons_succ,List.getElem_cons_zero,List.setIfInBounds_toArray,List.set_cons_zero,List.set_cons_succ]
  simp only [Zk,Rg.hsB,Nat.reduceBEq,Nat.reduceAdd,↓reduceIte]
  repeat (go_big_quiet_step (fail))
  refine wpQuiet_nil ?_
  intro hx4
  refine RgK.Z3 21 _ 250 _ _ rfl rfl rfl (by kernel_rfl) (by decide) rfl eb #[.int .u64 seq,.int .u8 o.owner,.int .u8 o.owner,.int .i64 n,.int .i64 given] (by kernel_rfl) (by kernel_rfl) 250 _ (by kernel_rfl) (by rfl) (by rfl) (hx4.at hb4) (Or.inl (by simp)) ?_
  intro w6 h06 k6 hs6
  refine RgK.Zj (by kernel_rfl) ?_
  intro w7 e7 e7'
  simp only [Rg.puB]
  have hs7:=e7'.at hs6
  have sb:=h3b.size
  have heg:∀x,g4=some x->x≠eb:=fun x hx=>by
   rcases hg4 with hh | hh
   ·have:=hB2.ltg x (hh▸hx);omega
   have:=hh x hx;omega
  obtain ⟨hcm7,hown7,hbe7⟩:=Zpj HI.out.cm hown2 hbe2 hbc hbm hbp hg2 E3 k4 hL4 hB4 hx4 k6 e7' heb2 heg
  have hg7:∀x,g4=some x->base<=x:=fun x hx=>by
   rcases hg4 with hh | hh
   ·exact hg2 x (hh▸hx)
   have:=hh x hx;have:=E3.size;omega
  clear k4 hL4 hB4 hg4 ea ha sa hebe hebS hb4 h06 k6 hs6 e7 e7' hw1' hx4 heg h03 h3 h03b h3b E3 sb
 all_goals
  have hl63:=HI.out.hl
  have hrow7:=hcm7.row
  simp only at hrow7
  obtain ⟨SL,hSL⟩:∃SL,(Value.slice ao all.length acap).ownBlock.toList=SL:=⟨_,rfl⟩
  obtain ⟨_,_,hq7⟩:=U2 hcm7 hown7
  have hmem:∀x,x∈SL->(Value.slice ao all.length acap).ownBlock=some x:=fun x hx=>by rw [<-hSL] at hx;simpa using hx
  have hcSL:c∉SL:=fun hx=>(hq7 c (hmem c hx)).2.1 rfl
  have hpSL:p∉SL:=fun hx=>(hq7 p (hmem p hx)).2.2 rfl
  have hmSL:m∉SL:=fun hx=>(hq7 m (hmem m hx)).1 (by simp)
  have hbSL:pb∉SL:=fun hx=>(hq7 pb (hmem pb hx)).1 (by simp)
  have hgSL:∀x,g4=some x->x∉SL:=fun x hx hx2=>(hq7 x (hmem x hx2)).1 (by simp [hx])
  have hebSL:eb∉SL:=fun hx=>by have:=(hown2.lt eb (hmem eb hx)).2;omega
  have hbSLb:∀x∈SL,base<=x:=fun x hx=>(hown7.lt x (hmem x hx)).1
  have hlc7:=Zg hrow7
  have hec:eb≠c:=by omega
  obtain ⟨hcS7,hcp7,_⟩:=U2 hcm7 hown7
  have hcp11:p≠c:=fun e=>hcp7 e.symm
  have hcm11:m≠c:=fun e=>hcS7 (by simp [e])
  have hcb11:pb≠c:=fun e=>hcS7 (by simp [e])
  have hcg11:∀x,g4=some x->x≠c:=fun x hx e=>hcS7 (by simp [hx,e])
  clear hcS7 hcp7
  clear hmem hq7 hcS hcp hqS hL2 hB2 hown2 hbe2 hg2 hlc hdo hrow
  go_wp2
  refine RgK.Zh SL Zl 8 [6,7] (by kernel_rfl) (by kernel_rfl) (by kernel_rfl) ?_
  intro w1 hw1
  have d9:=fun q:KeepOf SL w1=>Za (j:=9) ((hw1.trans q.h).at hrow7 hcSL) rfl
  have ld:∀w2,U9 SL w1 w2->(loadVar 250 ⟨eb,0,none⟩).run Tryz.prog w2= .ok (.agg #[.int .u64 seq,.int .u8 o.owner,.int .u8 o.owner,.int .i64 n,.int .i64 given]) w2:=by
   rintro _ ⟨q,rfl⟩
   exact run_loadVar_row q.to eb _ _ _ _ _ ((hw1.trans q.h).at hs7 hebSL) Tryz.underlying250 rfl (by kernel_rfl)
  simp only [Zk,Rg.hsB,Nat.reduceBEq,Nat.reduceAdd,↓reduceIte]
  repeat (first | go_big_quiet_step (fail) | (go_big_quiet_want;refine Z0 250 _ _ _ rfl rfl ld ?_;go_big_quiet_on;simp only [Act.put,Rg.puB]))
  refine wpQuiet_nil ?_
  intro hx1
  clear d9 ld
  refine RgK.Xb 6 _ (.cells #[.int .u64 seq,.int .u8 o.owner,.int .u8 o.owner,.int .i64 n,.int .i64 given] 250) (fun p=>.slice (some ⟨p,0,none⟩) 1 1) (by intro w;go_simp) rfl (by kernel_rfl) (by decide) rfl ?_
  intro b w8 h08 h8 hb0 hb8 hbb
  have hown8:=Zo (Zo hown7 hx1) h8
  have hrow8:=h8.at (hx1.at hrow7)
  have hs8:=h8.at (hx1.at hs7)
  have sx1:=hx1.size
  have s8:=h8.size
  obtain ⟨i0,hi,hz0,hz1,hz2⟩:=info_parts Zl7
  refine RgK.Zaj 7 _ _ _ _ rfl rfl (by kernel_rfl) (by decide) rfl base 250 i0 (.agg #[.int .u64 0,.int .u8 0,.int .u8 0,.int .i64 0,.int .i64 0]) 5 32 Tryz.underlying243 hi hz0 hz1 hz2 rfl (by decide) (.slice ao all.length acap) all.length (Yt all) (by kernel_rfl) hown8 (fun q hq=>by rw [<-hSL];simp [hq]) b 1 1 _ _ _ (by kernel_rfl) hbb rfl (by simp [Value.oneCell']) (by unfold maxLen;omega) (by omega) (by omega) ?_
  intro v' w9 h09 h89 hown9 hwh
  rw [hSL] at h89
  obtain ⟨A',cap',rfl⟩:=Z7 hown9
  have hrow9:=h89.at hrow8 hcSL
  have hs9:=h89.at hs8 hebSL
  refine RgK.Zj (by kernel_rfl) ?_
  intro w10 h010 h910
  simp only [Act.put,Rg.puB]
  have s89:=h89.size
  have s910:=h910.size
  have hrow10:=h910.at hrow9
  have hs10:=h910.at hs9
  have hown10:=Zo hown9 h910
  have hcm10:=(((hcm7.ext hx1).ext h8).keep h89 hcSL hpSL hmSL hbSL hgSL).ext h910
  have hbe10:Below base w w10:=(Zaw ((hbe7.trans (Below.mono hx1 (by omega))).trans (Below.mono h8 (by omega))) h89 (by omega) hbSLb).trans (Below.mono h910 (by omega))
  have hL10:=hcm10.led
  have hB10:=hcm10.book
  have hne10:=Y4 hown10 hrow10 (by decide)
  have c9:=Za hrow10 (j:=9) rfl
  have f9:=frozen_of_row w10 c 9 _ _ hrow10
  have k11:Keep [c] w10 (w10.setCell ⟨c,9,none⟩ (.slice A' (all.length+1) cap')):=(Keep.refl _ _).setCell (Or.inl (by simp)) _
  have hrow11:(w10.setCell ⟨c,9,none⟩ (.slice A' (all.length+1) cap')).heap[c]? =some (.cells #[.pointer (some ⟨p,0,none⟩),.pointer (some ⟨pb,0,none⟩),.int .u64 o.seq,.int .u8 o.owner,.int .u8 o.sell,.int .u8 o.buy,.int .i64 left,.int .i64 o.num,.int .i64 o.den,.slice A' (all.length+1) cap'] 297 (0,0)):=heap_setCell_same w10 c 9 _ _ (.slice A' (all.length+1) cap') hrow10
  have hs11:=k11.at hs10 (by simp;omega)
  have hown11:=ownsRow_setCell_other hown10 (a:=⟨c,9,none⟩) hne10 (.slice A' (all.length+1) cap')
  clear hcm7 hown7 hbe7 hs7 hrow7 hown8 hrow8 hs8 hrow9 hs9 hown9 hx1 h8 h89 h910 h09 h010 h08 hb0 hb8 hbb hwh hs10 hown10 hcm10 hw1
  go_wp2
  have hL11:=hL10.keep k11 (by have:=hL10.ltp;simp;intro e;subst e;exact hcp11 rfl) (by simp;intro e;subst e;exact hcm11 rfl)
  have hB11:=hB10.keep k11 (by simp;intro e;subst e;exact hcb11 rfl) (fun x hx=>by have:=hcg11 x hx;simp;exact this)
  have hbe11:Below base w (w10.setCell ⟨c,9,none⟩ (.slice A' (all.length+1) cap')):=Zaw hbe10 k11 (by omega) (fun x hx=>by simp at hx;omega)
  have s11:=k11.size
  generalize w10.setCell ⟨c,9,none⟩ (.slice A' (all.length+1) cap')=w11 at *
  clear k11 hrow10 c9 f9 hbe10 hL10 hB10 hne10
  refine Zh Zl 8 [] (by kernel_rfl) (by kernel_rfl) ?_
  intro w1 hw1
  have r6:=fun u:ExtOf w1=>Za (j:=6) ((Xt hw1 u.h).at hrow11) rfl
  have f4:=fun u:ExtOf w1=>Za (j:=4) ((Xt hw1 u.h).at hs11) rfl
  simp only [Zk,Rg.hsB,Nat.reduceAdd,↓reduceIte]
  repeat (go_big_quiet_step (fail))
  refine wpQuiet_nil ?_
  refine Zj (by kernel_rfl) ?_
  intro w12 e12 e12'
  simp only [Rg.puB]
  clear r6 f4
  have hrow12:=e12.at hrow11
  have hown12:=Zo hown11 e12
  have hL12:=hL11.ext e12
  have hB12:=hB11.ext e12
  have hbe12:=hbe11.trans (Below.mono e12 (by omega))
  have hne12:=Y4 hown12 hrow12 (by decide)
  have c6:=Za hrow12 (j:=6) rfl
  have f6:=frozen_of_row w12 c 6 _ _ hrow12
  have s12:=e12.size
  have k13:Keep [c] w12 (w12.setCell ⟨c,6,none⟩ (.int .i64 (left-given))):=(Keep.refl _ _).setCell (Or.inl (by simp)) _
  have hrow13:(w12.setCell ⟨c,6,none⟩ (.int .i64 (left-given))).heap[c]? =some (.cells #[.pointer (some ⟨p,0,none⟩),.pointer (some ⟨pb,0,none⟩),.int .u64 o.seq,.int .u8 o.owner,.int .u8 o.sell,.int .u8 o.buy,.int .i64 (left-given),.int .i64 o.num,.int .i64 o.den,.slice A' (all.length+1) cap'] 297 (0,0)):=heap_setCell_same w12 c 6 _ _ (.int .i64 (left-given)) hrow12
  have hown13:=ownsRow_setCell_other hown12 (a:=⟨c,6,none⟩) hne12 (.int .i64 (left-given))
  have hL13:=hL12.keep k13 (by simp;intro e;subst e;exact hcp11 rfl) (by simp;intro e;subst e;exact hcm11 rfl)
  have hB13:=hB12.keep k13 (by simp;intro e;subst e;exact hcb11 rfl) (fun x hx=>by have:=hcg11 x hx;simp;exact this)
  have hbe13:Below base w (w12.setCell ⟨c,6,none⟩ (.int .i64 (left-given))):=Zaw hbe12 k13 (by omega) (fun x hx=>by simp at hx;omega)
  have hlen13:Zjb (w12.setCell ⟨c,6,none⟩ (.int .i64 (left-given))) c=all.length+1:=by
   unfold Zjb
   rw [Za (j:=9) hrow13 rfl]
   rfl
  have HGI:=Lib.hid (show GI base c p m pb o w r0 g4 dL dB (left-given) (all++[(seq,o.owner,o.owner,n,given)]) (.slice A' (all.length+1) cap') (w12.setCell ⟨c,6,none⟩ (.int .i64 (left-given))) from
   { cm:=⟨hrow13,hL13,hB13⟩
     own:=by
      rw [List.length_append,Zc1]
      exact hown13
     wf:=hwfd
     ok:=hokd
     sn:=hsnd
     hl:=by omega
     ha:=by rw [List.length_append];simp;omega
     hg:=hg7
     be:=hbe13
     on:=by
      rw [<-hon,List.length_append]
      congr 1
      first | (simp;done) | (simp;omega) })
  have HM:=Lib.hid (show 65-Zjb (w12.setCell ⟨c,6,none⟩ (.int .i64 (left-given))) c<65-Zjb wr c by rw [hlen13,HLEN.out];omega)
  have hlg:left-given<=9223372036854775807:=by omega
  have hlg2: -9223372036854775808<=left-given:=by omega
  clear hrow13 hown13 hL13 hB13 hbe13 hlen13 hown12 hL12 hB12 hbe12 hne12 hrow12 k13 hown11 hL11 hB11 hbe11 hrow11 hs11 e12 hw1 hon hwfd hokd hsnd
  go_wp2
  exact ⟨⟨rfl,g4,dL,dB,left-given,_,_,HGI.out⟩,HM.out⟩
def Ul (L:Led) (B:Bk) (o:Off):Int×Int×Led×Bk×List Fl:=
 if Zmd o=false then (1,0,L,B,[])
 else if Yr L o.owner=false then (7,0,L,B,[])
 else if (Ye o 65 L B o.left []).1≠0 then ((Ye o 65 L B o.left []).1,0,L,B,[])
 else if 0<(Ye o 65 L B o.left []).2.2.2.1 then
  (if (Xh (Ye o 65 L B o.left []).2.2.1 o.owner o.sell o.buy (Ye o 65 L B o.left []).2.2.2.1 o.num o.den).2.1≠0 then ((Xh (Ye o 65 L B o.left []).2.2.1 o.owner o.sell o.buy (Ye o 65 L B o.left []).2.2.2.1 o.num o.den).2.1,0,L,B,[])
   else (0,(Xh (Ye o 65 L B o.left []).2.2.1 o.owner o.sell o.buy (Ye o 65 L B o.left []).2.2.2.1 o.num o.den).1,(Ye o 65 L B o.left []).2.1,(Xh (Ye o 65 L B o.left []).2.2.1 o.owner o.sell o.buy (Ye o 65 L B o.left []).2.2.2.1 o.num o.den).2.2,(Ye o 65 L B o.left []).2.2.2.2))
 else (0,0,(Ye o 65 L B o.left []).2.1,(Ye o 65 L B o.left []).2.2.1,(Ye o 65 L B o.left []).2.2.2.2)
def RetCome (r:Int×Int×Led×Bk×List Fl) (w:World) (e:Ending) (w':World):Prop:=
 ∃hv av,e= .returned (.tuple #[hv,av,.int .u64 r.2.1,.int .i64 r.1])/\Ext w w'/\(r.1≠0->hv= .agg #[.pointer none,.pointer none]/\av= .slice none 0 0)/\
  (r.1=0->∃p m pb g,hv= .agg #[.pointer (some ⟨p,0,none⟩),.pointer (some ⟨pb,0,none⟩)]/\IsLed w' p m r.2.2.1/\IsBook w' pb g r.2.2.2.1/\Zn w' w.heap.size 5 av r.2.2.2.2.length (Yt r.2.2.2.2))
def RetComeF (r:Int×Int×Led×Bk×List Fl) (w:World) (e:Ending) (w':World):Prop:=
 ∃hv av,e= .returned (.tuple #[hv,av,.int .u64 r.2.1,.int .i64 r.1])/\Ext w w'/\(r.1≠0->hv= .agg #[.pointer none,.pointer none]/\av= .slice none 0 0)/\
  (r.1=0->∃p m pb g,hv= .agg #[.pointer (some ⟨p,0,none⟩),.pointer (some ⟨pb,0,none⟩)]/\IsLed w' p m r.2.2.1/\IsBook w' pb g r.2.2.2.1/\Zn w' w.heap.size 5 av r.2.2.2.2.length (Yt r.2.2.2.2)/\w.heap.size<=p/\w.heap.size<=m/\w.heap.size<=pb/\∀x,g=some x->w.heap.size<=x)
theorem V7 (tmps:Array Value) (w:World) (B1:Nat) (x y v5 v6 v7:Value) (h4:tmps.getD 4 undef= .pointer (some ⟨B1,0,none⟩)) (h5:tmps.getD 5 undef=v5) (h6:tmps.getD 6 undef=v6) (h7:tmps.getD 7 undef=v7)
 (b1:w.heap[B1]? =some (.cells #[x,y] 103 (0,0))):(results Tryz.f148 tmps).run Tryz.prog w= .ok (.tuple #[.agg #[x,y],v5,v6,v7]) w:=by
 have hr:Tryz.f148.results=#[.cell 4 103,.tmp 5,.tmp 6,.tmp 7]:=rfl
 have l1:(loadVar 103 ⟨B1,0,none⟩).run Tryz.prog w= .ok (.agg #[x,y]) w:=run_loadVar_row w B1 _ _ _ _ _ b1 Tryz.underlying103 rfl (by kernel_rfl)
 simp only [Array.getD_eq_getD_getElem?] at h4 h5 h6 h7
 simp only [results,hr]
 simp [Result.andThen,h4,h5,h6,h7,asAddr,l1]
theorem clipL_any (base n:Nat) (v:Value) (xs:List Value) (w:World) (h:Zn w base 5 v n xs):Calls Tryz.prog 180 #[v] w (fun e w'=>∃v',e= .returned v'/\w'=w/\Zn w' base 5 v' n xs):=by
 obtain ⟨A,cap,rfl,h1,h2,h3,h4⟩:=h
 rcases h4 with rfl | ⟨g,rfl,hb,hlt,hc⟩
 ·cases A
  rotate_left
  focus rename_i a
  all_goals
   go_enter Tryz.func180,Tryz.ntmps180
   go_wp2
   go_ret
   exact ⟨_,rfl,rfl,_,_,rfl,Nat.le_refl _,by unfold maxLen;omega,h3,.inl rfl⟩
 have hn63:(n:Int)<=9223372036854775807:=by unfold maxLen at h2;omega
 go_enter Tryz.func180,Tryz.ntmps180
 go_wp2
 go_ret
 exact ⟨_,rfl,rfl,_,_,rfl,Nat.le_refl _,Nat.le_trans h1 h2,h3,.inr ⟨g,rfl,hb,hlt,hc⟩⟩
theorem come_anyF (p m pb:Nat) (g:Option Nat) (L:Led) (B:Bk) (o:Off) (w:World) (h:IsLed w p m L) (hB:IsBook w pb g B) (hwf:WF L) (hok:OkB B) (hsn:Jm B) (b1:o.num<=9223372036854775807) (b2:o.den<=9223372036854775807) (b3:o.left<=9223372036854775807):
 Calls Tryz.prog 148 #[.agg #[.pointer (some ⟨p,0,none⟩),.pointer (some ⟨pb,0,none⟩)],o.agg] w (RetComeF (Ul L B o) w):=by
 obtain ⟨r,hr⟩:∃r,r=Ul L B o:=⟨_,rfl⟩
 rw [<-hr]
 unfold Ul at hr
 have hcp:=fun w' (k:Ext w w')=>Zdm p m pb g L B w' (h.ext k) (hB.ext k)
 have hmy:=fun w'=>cmay_any o w' b1 b2
 obtain ⟨l,hl⟩:∃l:Option Addr,l=some ⟨p,0,none⟩:=⟨_,rfl⟩
 obtain ⟨b,hb⟩:∃b:Option Addr,b=some ⟨pb,0,none⟩:=⟨_,rfl⟩
 rw [<-hl,<-hb] at hcp ⊢
 clear hl hb h hB
 have HRR:=Lib.hid hr
 clear hr
 obtain ⟨o0,o1,o2,o3,o4,o5,o6⟩:=o
 simp only [Off.agg] at hmy b1 b2 b3 ⊢
 have e0:=Zc w (.cells #[.pointer l,.pointer b] 103)
 have s0:=size_alloc w (.cells #[.pointer l,.pointer b] 103)
 have h0:=Zb w (.cells #[.pointer l,.pointer b] 103)
 generalize hW1:w.alloc (.cells #[.pointer l,.pointer b] 103)=w1 at *
 have e1:=Zc w1 (.cells #[.int .u64 o0,.int .u8 o1,.int .u8 o2,.int .u8 o3,.int .i64 o4,.int .i64 o5,.int .i64 o6] 153)
 have s1:=size_alloc w1 (.cells #[.int .u64 o0,.int .u8 o1,.int .u8 o2,.int .u8 o3,.int .i64 o4,.int .i64 o5,.int .i64 o6] 153)
 have h1:=Zb w1 (.cells #[.int .u64 o0,.int .u8 o1,.int .u8 o2,.int .u8 o3,.int .i64 o4,.int .i64 o5,.int .i64 o6] 153)
 generalize hW2:w1.alloc (.cells #[.int .u64 o0,.int .u8 o1,.int .u8 o2,.int .u8 o3,.int .i64 o4,.int .i64 o5,.int .i64 o6] 153)=w2 at *
 have e2:=Zc w2 (.cells #[.pointer none,.pointer none] 103)
 have s2:=size_alloc w2 (.cells #[.pointer none,.pointer none] 103)
 have h2:=Zb w2 (.cells #[.pointer none,.pointer none] 103)
 rw [s0] at h1 s1
 rw [s1] at h2 s2
 have k0:=e2.at (e1.at h0)
 have k1:=e2.at h1
 have E2:=Xt e0 (Xt e1 e2)
 subst hW2 hW1
 clear h0 h1 e0 e1 e2
 go_enter Tryz.func148,Tryz.ntmps148
 go_wp2
 generalize hW3:(((w.alloc (.cells #[.pointer l,.pointer b] 103)).alloc (.cells #[.int .u64 o0,.int .u8 o1,.int .u8 o2,.int .u8 o3,.int .i64 o4,.int .i64 o5,.int .i64 o6] 153)).alloc (.cells #[.pointer none,.pointer none] 103))=w3 at *
 clear hW3 s0 s1
 refine Zh Zl 3 [1] (by kernel_rfl) (by kernel_rfl) ?_
 intro w1 hw1
 have q0:∀u:ExtOf w1,u.to.heap[w.heap.size]? =_:=fun u=>(Xt hw1 u.h).at k0
 have q1:∀u:ExtOf w1,u.to.heap[w.heap.size+1]? =_:=fun u=>(Xt hw1 u.h).at k1
 have d0:=fun u:ExtOf w1=>Za (j:=0) (q0 u) rfl
 have d1:=fun u:ExtOf w1=>Za (j:=1) (q0 u) rfl
 have f0:=fun u:ExtOf w1=>Za (j:=0) (q1 u) rfl
 have f1:=fun u:ExtOf w1=>Za (j:=1) (q1 u) rfl
 have f2:=fun u:ExtOf w1=>Za (j:=2) (q1 u) rfl
 have f3:=fun u:ExtOf w1=>Za (j:=3) (q1 u) rfl
 have f4:=fun u:ExtOf w1=>Za (j:=4) (q1 u) rfl
 have f5:=fun u:ExtOf w1=>Za (j:=5) (q1 u) rfl
 have f6:=fun u:ExtOf w1=>Za (j:=6) (q1 u) rfl
 clear q0 q1
 simp only [Zk,Rg.hsB,Nat.reduceBEq,Nat.reduceAdd,↓reduceIte]
 repeat (go_big_quiet_step (fail))
 refine wpQuiet_nil ?_
 clear d0 d1 f0 f1 f2 f3 f4 f5 f6
 refine Zv 1 53 _ #[.agg #[.pointer l,.pointer b]] _ (by rfl) _ _ (by rfl) Tryz.func53 rfl rfl (by kernel_rfl) (by rfl) (by kernel_rfl) (by decide) ?_
 intro w4 h04 h4
 have E4:=Xt E2 h04
 refine (hcp w4 E4).mono ?_
 rintro e w5 ⟨p,m,pb,g,rfl,e5,hL5,hB5,hp5,hm5,hpb5,hg5⟩
 refine ⟨_,rfl,Xt h04 e5,?_⟩
 refine Zj (by kernel_rfl) ?_
 intro w6 e6 e6'
 simp only [Act.put,Rg.puB]
 have s4:=E4.size
 have s04:=h04.size
 have kr:=e6.at h2
 have k16:=e6.at k1
 have E6:=Xt E2 e6
 have hL6:=hL5.ext e6'
 have hB6:=hB5.ext e6'
 have s6:=e6.size
 clear h04 h4 E4 e5 hL5 hB5 e6 e6' h2 k0 k1 hcp E2
 have hz:=Zb w6 (.cells #[.pointer (some ⟨p,0,none⟩),.pointer (some ⟨pb,0,none⟩),.int .u64 o0,.int .u8 o1,.int .u8 o2,.int .u8 o3,.int .i64 o4,.int .i64 o5,.int .i64 o6,.slice none 0 0] 297)
 have ez:=Zc w6 (.cells #[.pointer (some ⟨p,0,none⟩),.pointer (some ⟨pb,0,none⟩),.int .u64 o0,.int .u8 o1,.int .u8 o2,.int .u8 o3,.int .i64 o4,.int .i64 o5,.int .i64 o6,.slice none 0 0] 297)
 have kr:=ez.at kr
 have k1:=ez.at k16
 have EE:=Xt E6 ez
 have hL7:=hL6.ext ez
 have hB7:=hB6.ext ez
 have c0:=Za (j:=0) hz rfl
 have c1:=Za (j:=1) hz rfl
 have f0:=Za (j:=0) k1 rfl
 have f1:=Za (j:=1) k1 rfl
 have f2:=Za (j:=2) k1 rfl
 have f3:=Za (j:=3) k1 rfl
 have f4:=Za (j:=4) k1 rfl
 have f5:=Za (j:=5) k1 rfl
 have f6:=Za (j:=6) k1 rfl
 clear ez hL6 hB6 k16 E6
 go_wp2_with fail
 refine (hmy _).mono ?_
 rintro e w8 ⟨rfl,e8⟩
 have kr:=e8.at kr
 have k1:=e8.at k1
 have hz:=e8.at hz
 have EE:=Xt EE e8
 have hL8:=hL7.ext e8
 have hB8:=hB7.ext e8
 clear e8 hL7 hB7 c0 c1 f0 f1 f2 f3 f4 f5 f6 hmy
 have r0:=Za (j:=0) kr rfl
 have r1:=Za (j:=1) kr rfl
 cases q1:Zmd ⟨o0,o1,o2,o3,o4,o5,o6⟩ with
 | false=>
   have HR:=Lib.hid (show r=(1,0,L,B,[]) by rw [HRR.out,if_pos q1])
   have HZ:=Lib.hid (show ¬(1:Int)=0 by decide)
   go_wp2_with (refine Ze rfl rfl 103 _ _ rfl (w.heap.size+1+1) _ rfl rfl 103 _ kr (by kernel_rfl) (by rfl) (by rfl) ?_;intro wz hbz hoz hsz)
   refine bodyPost_ret (V7 _ _ _ _ _ _ _ _ rfl rfl rfl rfl hsz) rfl ?_
   exact ⟨.agg #[.pointer none,.pointer none],.slice none 0 0,by rw [HR.out];rfl,hbz _ _ (by omega) EE,fun _=>⟨rfl,rfl⟩,fun hz=>by rw [HR.out] at hz;exact absurd hz HZ.out⟩
 | true=>
   obtain ⟨c,hc⟩:∃c,w6.heap.size=c:=⟨_,rfl⟩
   rw [hc] at hz ⊢
   have hcc:w3.heap.size<=c:=by omega
   clear hc
   go_wp2
   refine Zh Zl 9 [] (by kernel_rfl) (by kernel_rfl) ?_
   intro w1 hw1
   have d0:=fun u:ExtOf w1=>Za (j:=0) ((Xt hw1 u.h).at hz) rfl
   have d1:=fun u:ExtOf w1=>Za (j:=1) ((Xt hw1 u.h).at k1) rfl
   have hLq:∀u:ExtOf w1,IsLed u.to p m L:=fun u=>hL8.ext (Xt hw1 u.h)
   simp only [Zk,Rg.hsB,Nat.reduceAdd,↓reduceIte]
   repeat (go_big_quiet_step ((go_at_call 175;exact Ret.cls (Za7 p m L o1 _ (hLq _)))))
   refine wpQuiet_nil ?_
   refine Zj (by kernel_rfl) ?_
   intro w9 e9 e9'
   simp only [Rg.puB]
   clear d0 d1 hLq r0 r1
   have kr:=e9.at kr
   have k1:=e9.at k1
   have hz:=e9.at hz
   have EE:=Xt EE e9
   have hL9:=hL8.ext e9
   have hB9:=hB8.ext e9
   clear e9 hL8 hB8
   have r0:=Za (j:=0) kr rfl
   have r1:=Za (j:=1) kr rfl
   cases q2:Yr L o1
   ·have HR:=Lib.hid (show r=(7,0,L,B,[]) by rw [HRR.out,if_neg (by rw [q1];simp),if_pos q2])
    have HZ:=Lib.hid (show ¬(7:Int)=0 by decide)
    go_wp2_with (refine Ze rfl rfl 103 _ _ rfl (w.heap.size+1+1) _ rfl rfl 103 _ kr (by kernel_rfl) (by rfl) (by rfl) ?_;intro wz hbz hoz hsz)
    refine bodyPost_ret (V7 _ _ _ _ _ _ _ _ rfl rfl rfl rfl hsz) rfl ?_
    exact ⟨.agg #[.pointer none,.pointer none],.slice none 0 0,by rw [HR.out];rfl,hbz _ _ (by omega) EE,fun _=>⟨rfl,rfl⟩,fun hz=>by rw [HR.out] at hz;exact absurd hz HZ.out⟩
   focus
    have hgo:=pgoes_any w3.heap.size c p m pb g L B ⟨o0,o1,o2,o3,o4,o5,o6⟩ o4 [] (.slice none 0 0) w9 ⟨hz,hL9,hB9⟩ (World.ownsRow_nil _ _ _ _) hwf hok hsn b1 b2 b3 (by simp) hcc (by omega) (by omega) (fun x hx=>by have:=hg5 x hx;omega)
    simp only [List.length_nil,Nat.sub_zero] at hgo
    have hr2:=HRR.out
    rw [if_neg (by rw [q1];simp),if_neg (by rw [q2];simp)] at hr2
    generalize Ye ⟨o0,o1,o2,o3,o4,o5,o6⟩ 65 L B o4 []=gr at *
    obtain ⟨ge,gL,gB,gl,ga⟩:=gr
    simp only at hr2
    have HR2:=Lib.hid hr2
    clear hr2 HRR
    go_wp2_with fail
    refine hgo.mono ?_
    rintro e w11 ⟨rfl,hb11,g',av',hcm,hown,hg'⟩
    have kr:=(hb11.block (w.heap.size+1+1) (by omega)).trans kr
    have k1:=(hb11.block (w.heap.size+1) (by omega)).trans k1
    have EE:Ext w w11:=Below.trans EE (Below.mono hb11 (by omega))
    simp only at hcm hown hg'
    have hrow:=hcm.row
    simp only at hrow
    have hlc11:=Zg hrow
    clear r0 r1 hz hL9 hB9 hgo hb11 hg5
    have r0:=Za (j:=0) kr rfl
    have r1:=Za (j:=1) kr rfl
    by_cases hge:ge=0
    focus
     subst hge
     have hr2:=HR2.out
     rw [if_neg (by simp)] at hr2
     have c6:=Za (j:=6) hrow rfl
     have hsl:=Zn.of_own hown
     have hL11:=hcm.led
     have hB11:=hcm.book
     obtain ⟨hcS,hcp2,hq2⟩:=U2 hcm hown
     by_cases hgl:0<gl
     focus
      have hgl':decide (0<gl)=true:=by simpa using hgl
      rw [if_pos hgl] at hr2
      have hpl:=fun wq hB=>Zle pb g' gB o1 o2 o3 gl o5 o6 wq hB b1 b2
      generalize Xh gB o1 o2 o3 gl o5 o6=pr at *
      obtain ⟨pq,pe,pB⟩:=pr
      simp only at hr2
      have HR3:=Lib.hid hr2
      clear hr2 HR2
      go_wp2
      clear r0 r1 c6
      refine RgK.Zh (pb::g'.toList) Zl 23 [18,19,20,21,22] (by kernel_rfl) (by kernel_rfl) (by kernel_rfl) ?_
      intro w1 hw1
      have hcS2:c∉pb::g'.toList:=fun hx=>hcS (by simp at hx ⊢;exact .inr hx)
      have hBS:w.heap.size+1∉pb::g'.toList:=fun hx=>by
       rcases List.mem_cons.1 hx with hx | hx
       ·omega
       have:=hg' (w.heap.size+1) (by simpa using hx);omega
      have hRS:w.heap.size+1+1∉pb::g'.toList:=fun hx=>by
       rcases List.mem_cons.1 hx with hx | hx
       ·omega
       have:=hg' (w.heap.size+1+1) (by simpa using hx);omega
      have d1:=fun u:KeepOf (pb::g'.toList) w1=>Za (j:=1) ((hw1.trans u.h).at hrow hcS2) rfl
      have d6:=fun u:KeepOf (pb::g'.toList) w1=>Za (j:=6) ((hw1.trans u.h).at hrow hcS2) rfl
      have f1:=fun u:KeepOf (pb::g'.toList) w1=>Za (j:=1) ((hw1.trans u.h).at k1 hBS) rfl
      have f2:=fun u:KeepOf (pb::g'.toList) w1=>Za (j:=2) ((hw1.trans u.h).at k1 hBS) rfl
      have f3:=fun u:KeepOf (pb::g'.toList) w1=>Za (j:=3) ((hw1.trans u.h).at k1 hBS) rfl
      have f5:=fun u:KeepOf (pb::g'.toList) w1=>Za (j:=5) ((hw1.trans u.h).at k1 hBS) rfl
      have f6:=fun u:KeepOf (pb::g'.toList) w1=>Za (j:=6) ((hw1.trans u.h).at k1 hBS) rfl
      simp only [Zk,Rg.hsB,Nat.reduceBEq,Nat.reduceAdd,↓reduceIte]
      repeat (go_big_quiet_step (fail))
      refine wpQuiet_nil ?_
      intro hx1
      clear d1 d6 f1 f2 f3 f5 f6
      refine RgK.Zv 18 184 _ #[.pointer (some ⟨pb,0,none⟩),.int .u8 o1,.int .u8 o2,.int .u8 o3,.int .i64 gl,.agg #[.int .i64 o5,.int .i64 o6]] _ (by rfl) _ _ (by rfl) Tryz.func184 rfl (by kernel_rfl) (by kernel_rfl) rfl (by kernel_rfl) (by decide) ?_
      intro wc h0c hxc
      refine (hpl wc (hB11.ext (Xt hx1 hxc))).mono ?_
      rintro e w12 ⟨rfl,g2,k12,hB12,hg12⟩
      refine ⟨_,rfl,h0c.trans k12,?_⟩
      refine RgK.Xf Zl 19 [] 0 (by kernel_rfl) (by kernel_rfl) (h0c.trans k12) ?_
      intro w1 hw1'
      simp only [Act.put,Rg.puC,Rg.puB]
      simp only [Zk,Rg.hsB,Nat.reduceAdd,↓reduceIte]
      repeat (go_big_quiet_step (fail))
      refine wpQuiet_nil ?_
      intro hxd
      refine RgK.Zj (by kernel_rfl) ?_
      intro w13 e13 e13'
      simp only [Rg.puB]
      have Ex:=Xt hx1 hxc
      have Ey:=Xt hxd e13'
      have kr:=Ey.at (k12.at (Ex.at kr) hRS)
      have hrow:=Ey.at (k12.at (Ex.at hrow) hcS2)
      obtain ⟨hpS,hmS⟩:=U3 hL11 hB11
      have hL13:=((hL11.ext Ex).keep k12 hpS hmS).ext Ey
      have hB13:=hB12.ext Ey
      have hown13:=Zo (Zag (Zo hown Ex) k12 (fun q hq hx=>(hq2 q hq).1 (by simp at hx ⊢;exact .inr hx))) Ey
      have hsl:=Zn.of_own hown13
      have EE:Ext w w13:=Xt (Keep.trans_fresh (S:=[]) (Kx (Xt EE Ex)) k12 (fun x hx=>by
       right
       rcases List.mem_cons.1 hx with rfl | hx
       ·omega
       have:=hg' x (by simpa using hx);omega)).ext Ey
      have s13:=Ey.size
      have s12:=k12.size
      have sx:=Ex.size
      have hL11:=hL13
      have hB11:=hB13
      have hown:=hown13
      have r0:=Za (j:=0) kr rfl
      have r1:=Za (j:=1) kr rfl
      have c6:=Za (j:=6) hrow rfl
      have hgR0:∀x,g2=some x->w.heap.size+1+1<x:=fun x hx=>by
       rcases hg12 with hh | hh
       ·have:=hg' x (hh▸hx);omega
       have:=hh x hx;omega
      have hlc13:=Zg hrow
      clear hL13 hB13 hown13 k12 hB12 hg12 e13 e13' hx1 hxc hxd hw1 h0c hpl hcm hpS hmS hcS2 hBS hRS hcS hcp2 hq2 Ex Ey hw1'
      by_cases hpe:pe=0
      focus
       subst hpe
       have hr3:=HR3.out
       rw [if_neg (by simp)] at hr3
       have HR:=Lib.hid hr3
       clear hr3 HR3
       go_wp2
      rotate_left
      ·have hpe':(pe==0)=false:=by simpa using hpe
       have HR:=Lib.hid (show r=(pe,0,L,B,[]) by rw [HR3.out,if_pos hpe])
       have HZ:=Lib.hid hpe
       clear hrow HR3
       go_wp2_with (refine Ze rfl rfl 103 _ _ rfl (w.heap.size+1+1) _ rfl rfl 103 _ kr (by kernel_rfl) (by rfl) (by rfl) ?_;intro wz hbz hoz hsz)
       refine bodyPost_ret (V7 _ _ _ _ _ _ _ _ rfl rfl rfl rfl hsz) rfl ?_
       exact ⟨.agg #[.pointer none,.pointer none],.slice none 0 0,by rw [HR.out];rfl,hbz _ _ (by omega) EE,fun _=>⟨rfl,rfl⟩,fun hz=>by rw [HR.out] at hz;exact absurd hz HZ.out⟩
     rotate_left
     focus
      have hgl':decide (0<gl)=false:=by simpa using hgl
      rw [if_neg hgl] at hr2
      have HR:=Lib.hid hr2
      clear hr2 HR2
      go_wp2
      have hlc13:=Zg hrow
      have hgR0:∀x,g'=some x->w.heap.size+1+1<x:=fun x hx=>by have:=hg' x hx;omega
    rotate_left 2
    ·have hge':(ge==0)=false:=by simpa using hge
     have HR:=Lib.hid (show r=(ge,0,L,B,[]) by rw [HR2.out,if_pos hge])
     have HZ:=Lib.hid hge
     clear hcm hown hrow HR2
     go_wp2_with (refine Ze rfl rfl 103 _ _ rfl (w.heap.size+1+1) _ rfl rfl 103 _ kr (by kernel_rfl) (by rfl) (by rfl) ?_;intro wz hbz hoz hsz)
     refine bodyPost_ret (V7 _ _ _ _ _ _ _ _ rfl rfl rfl rfl hsz) rfl ?_
     exact ⟨.agg #[.pointer none,.pointer none],.slice none 0 0,by rw [HR.out];rfl,hbz _ _ (by omega) EE,fun _=>⟨rfl,rfl⟩,fun hz=>by rw [HR.out] at hz;exact absurd hz HZ.out⟩
   all_goals
    clear r0 r1 c6
    have hgR:=hgR0
    refine RgK.Zh [w.heap.size+1+1] Zl 12 [8,10,11] (by kernel_rfl) (by kernel_rfl) (by kernel_rfl) ?_
    intro w1 hw1
    have hcR:c∉[w.heap.size+1+1]:=by simp;omega
    have d0:=fun u:KeepOf [w.heap.size+1+1] w1=>Za (j:=0) ((hw1.trans u.h).at hrow hcR) rfl
    have d1:=fun u:KeepOf [w.heap.size+1+1] w1=>Za (j:=1) ((hw1.trans u.h).at hrow hcR) rfl
    have d9:=fun u:KeepOf [w.heap.size+1+1] w1=>Za (j:=9) ((hw1.trans u.h).at hrow hcR) rfl
    simp only [Zk,Rg.hsB,Nat.reduceBEq,Nat.reduceAdd,↓reduceIte]
    repeat (go_big_quiet_step (fail))
    refine wpQuiet_nil ?_
    intro hx1
    clear d0 d1 d9
    refine RgK.Zv 8 180 _ #[av'] _ (by rfl) _ _ (by rfl) Tryz.func180 rfl (by kernel_rfl) (by kernel_rfl) rfl (by kernel_rfl) (by decide) ?_
    intro wc h0c hxc
    refine (clipL_any w3.heap.size _ av' _ wc (hsl.ext (Xt hx1 hxc))).mono ?_
    rintro e w' ⟨v',rfl,rfl,hsl2⟩
    refine ⟨_,rfl,h0c,?_⟩
    refine RgK.Z3 10 _ 103 _ _ rfl rfl rfl (by kernel_rfl) (by decide) rfl (w.heap.size+1+1) #[.pointer (some ⟨p,0,none⟩),.pointer (some ⟨pb,0,none⟩)] (by kernel_rfl) (by kernel_rfl) 103 _ (by kernel_rfl) (by rfl) (by rfl) ((Xt hx1 hxc).at kr) (Or.inl (by simp)) ?_
    intro wd h0d kd hsd
    refine RgK.Xf Zl 11 [] 0 (by kernel_rfl) (by kernel_rfl) h0d ?_
    intro w1 hw1
    simp only [Act.put,Rg.puC,Rg.puB]
    simp only [Zk,Rg.hsB,↓reduceIte]
    repeat (go_big_quiet_step (fail))
    refine wpQuiet_nil ?_
    intro hxd
    refine RgK.Zj (by kernel_rfl) ?_
    intro we ee ee'
    simp only [Rg.puB]
    go_wp2
    have hse:=ee'.at (hxd.at hsd)
    have hEr:Ext w _:=(Keep.trans_fresh (S:=[]) (Kx (Xt EE (Xt hx1 hxc))) kd (fun x hx=>by right;simp at hx;omega)).ext
    have Ez:=Xt hxd ee'
    have hEf:=Xt hEr Ez
    have hLf:=((hL11.ext (Xt hx1 hxc)).keep kd (by simp;omega) (by simp;omega)).ext Ez
    have hBf:=((hB11.ext (Xt hx1 hxc)).keep kd (by simp;omega) (fun x hx=>by have:=hgR x hx;simp;omega)).ext Ez
    obtain ⟨A2,cap2,q0,q1',q2',q3,q4⟩:=hsl2
    have hslf:Zn we w.heap.size 5 v' _ _:=⟨A2,cap2,q0,q1',q2',q3,by
     rcases q4 with q4 | ⟨gg,q4,q5,q6,q7⟩
     ·exact .inl q4
     refine .inr ⟨gg,q4,by omega,by have:=kd.size;have:=Ez.size;omega,fun j u hu=> ?_⟩
     exact (Zf (a:=⟨gg,j,none⟩) ((Ez.block (k:=gg) (by have:=kd.size;omega)).trans (kd.block gg q6 (by simp;omega)))).trans (q7 j u hu)⟩
    refine bodyPost_ret (V7 _ _ _ _ _ _ _ _ rfl rfl rfl rfl hse) rfl ?_
    exact ⟨_,v',by rw [HR.out];rfl,hEf,fun hz=>absurd (by rw [HR.out]) hz,fun _=>by rw [HR.out];exact ⟨p,m,pb,_,rfl,hLf,hBf,hslf,by omega,by omega,by omega,fun x hx=>by have:=hgR x hx;omega⟩⟩
end Go.Proofs.YtipjchbdogmccaaGreat
