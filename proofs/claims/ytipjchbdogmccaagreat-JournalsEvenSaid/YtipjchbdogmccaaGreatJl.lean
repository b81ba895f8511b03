/- Journals: the chapter's example; walked. Journals' law: how long entries get; a journal and a machine beside it; the guard; one command, one position; walked. -/
import Derived.Test.YtipjchbdogmccaaGreatJwD
set_option maxHeartbeats 12800000
set_option maxRecDepth 100000
namespace Go.Proofs.YtipjchbdogmccaaGreat
open Go.RowKit Go.Rg Go.BigFrame
theorem Zqo:∀(l:List Stp) (no i:Int) (L:Led) (B:Bk),(Zdh no l i L B).length<=153*l.length
 | [],_,_,_,_=>by simp [Zdh]
 | s::l,no,i,L,B=>by
   rw [Zdh,List.length_append,List.length_cons]
   have h1:=Zg1 no i s.kd L (Z0 s L B).2.2.1
   have h2:=Zqo l no (i+1) (Z0 s L B).2.2.1 (Z0 s L B).2.2.2
   omega
theorem jdo_len (l:List Stp) (J:Jn):(jdo l J).es.length<=J.es.length+1224:=by
 unfold jdo
 split
 ·simp only;omega
 rename_i hr
 simp only [List.length_append]
 have h1:=Zqo l (J.many+1) 0 J.L J.B
 have h2:l.length<=8:=by
  by_cases h:l.length<=8
  ·exact h
  rw [Zbf (.inr (by omega))] at hr
  simp at hr
 omega
theorem Zpq:∀(more:List (List Stp)) (J:Jn),(U4 more J).es.length<=J.es.length+1224*more.length
 | [],J=>by simp [U4]
 | l::more,J=>by
   have h1:=Zpq more (jdo l J)
   have h2:=jdo_len l J
   rw [List.length_cons]
   show (U4 more (jdo l J)).es.length<=_
   omega
theorem jk_ok {L:Led} {B:Bk} (hh:HsOk L B) (cs:List (List Stp)) (hn:cs.length<=60):JLo cs (U4 cs (Up L B))/\(U4 cs (Up L B)).es.length<=900000/\0<=(U4 cs (Up L B)).many/\(U4 cs (Up L B)).many<=60:=by
 have h1:=jlo_run cs [] (Up L B) (jlo_new hh)
 rw [List.nil_append] at h1
 have h2:=Zpq cs (Up L B)
 have h3:(Up L B).es.length=0:=rfl
 have h4:=h1.many
 exact ⟨h1,by omega,by omega,by omega⟩
theorem IsM.overJ {w w':World} {base jb q p m pb:Nat} {g:Option Nat} {ev:Value} {J:Jn} {q2 p2 m2 pb2:Nat} {g2:Option Nat} {L2:Led} {B2:Bk} (h2:IsM w q2 p2 m2 pb2 g2 L2 B2) (hJ:IsJ w base jb q p m pb g ev J)
 (f:FrA (fun x=>x=jb\/x=q\/ev.ownBlock=some x) w w') (hne:q2≠q):IsM w' q2 p2 m2 pb2 g2 L2 B2:=by
 refine h2.keepOff (S:=[jb]++([q]++ev.ownBlock.toList)) (f.kp fun x hx=> ?_) ((Zjr hJ.row).app ((offM_q hJ.mac).app (Zrt hJ.own))) ?_
 ·rcases hx with rfl | rfl | hx
  ·simp
  ·simp
  simp [hx]
 intro hm
 simp only [List.mem_append,List.mem_singleton,Option.mem_toList] at hm
 rcases hm with hm | hm | hm
 ·exact hJ.row.ne_q h2 hm.symm
 ·exact hne hm
 exact h2.ne_ev hJ.own hm
theorem jdo_cmd {base jb q p m pb:Nat} {g:Option Nat} {ev:Value} {J:Jn} {l:List Stp} {va:Value} {w0 w:World} (h:IsJ w base jb q p m pb g ev J) (k:Ext w0 w) (ha:Vv w0 10 va l.length (Vr l)) (hin:∀s∈l,s.In)
 (hj:w0.heap.size<=jb) (hq:w0.heap.size<=q) (hb0:w0.heap.size<=base) (hb:base<=w.heap.size) (hl:J.es.length<=900000) (hm0:0<=J.many) (hm1:J.many<=60) (hs:HsOk J.L J.B):
 Calls Tryz.prog 41 #[.pointer (some ⟨jb,0,none⟩),.agg #[va]] w (RetJ base jb q ev J l w):=by
 refine jdo_any base jb q p m pb g ev J l va w h (ha.ext k) (fun s hs=>Zpn s (hin s hs)) (fun hn b hvb=> ?_) hb hl hm0 (by omega) hs
 obtain ⟨A,cap,rfl,_,_,_,h4⟩:=ha
 rcases h4 with h4 | ⟨ga,off,rfl,hlt,_⟩
 ·exact absurd h4 hn
 simp only [Value.ownBlock,Option.some.injEq] at hvb
 subst hvb
 refine ⟨by omega,by omega,fun he=> ?_⟩
 have:=(h.own.lt ga he).1
 omega
theorem IsJ.off {w:World} {base jb q p m pb:Nat} {g:Option Nat} {ev:Value} {J:Jn} (h:IsJ w base jb q p m pb g ev J) {b:Nat} {cs:Array Value} {t:TypeId} {fr:Nat×Nat} (hb:w.heap[b]? =some (.cells cs t fr))
 (h1:99≠t) (h2:105≠t) (h3:84≠t):¬(b=jb\/b=q\/ev.ownBlock=some b):=by
 rintro (rfl | rfl | hv)
 ·have hr:=h.row
  unfold Xn at hr
  rw [hb] at hr
  simp only [Option.some.injEq,Obj.cells.injEq] at hr
  exact h1 hr.2.1.symm
 ·have hr:=h.mac.row
  rw [hb] at hr
  simp only [Option.some.injEq,Obj.cells.injEq] at hr
  exact h2 hr.2.1.symm
 exact Yc h.own hb h3 hv
theorem Zkg (v:Value) (l:List Cmd) (w:World) (h:Vv w 1 v l.length (l.flatMap Cmd.cells)) (hok:∀x∈l,Zdo w x):Calls Tryz.prog 14 #[v] w (fun e w'=>(∃b,e= .returned (.bool b)/\(b=false->l.length<=60))/\Ext w w'):=by
 obtain ⟨A,cap,rfl,h1,h2,h3,h4⟩:=h
 have hn63:(l.length:Int)<=9223372036854775807:=by unfold maxLen at h2;omega
 by_cases hg:(l.length:Int) > 60
 ·have hg':decide ((l.length:Int) > 60)=true:=by simpa using hg
  go_enter Tryz.func14,Tryz.ntmps14
  go_wp2
  go_ret
  exact ⟨⟨_,rfl,fun h=>by cases h⟩,Ext.refl _⟩
 have hg':decide ((l.length:Int) > 60)=false:=by simpa using hg
 have HG:=Lib.hid hg
 go_enter Tryz.func14,Tryz.ntmps14
 go_wp2
 go_loopw [3,4] (fun nv iv wr=>∃(z:Int) (k:Nat),k<=l.length/\nv= .int .i64 z/\iv= .int .i64 k/\Ext w wr) (fun _ iv _=>l.length-(intOf iv).toNat)
 case atStart=>exact ⟨0,0,Nat.zero_le _,rfl,rfl,Ext.refl _⟩
 obtain ⟨z,k,hk,rfl,rfl,er⟩:=hrel
 by_cases hkn:k<l.length
 ·rcases h4 with h4 | ⟨g,off,rfl,hlt,hcell⟩
  ·omega
  have hj1:(0:Int)<=(k:Int):=by omega
  have hj2:(k:Int)<(l.length:Int):=by omega
  have hc:wr.cell? ⟨g,off+k,none⟩=some (l[k]'hkn).1:=(Zd (er.block hlt)).trans (hcell k _ (Zbe l k hkn))
  obtain ⟨⟨B,cap',hv,_⟩,_⟩:=hok _ (List.getElem_mem hkn)
  rw [hv] at hc
  generalize (l[k]'hkn).2.length=n' at *
  clear hcell hok hv h3
  go_wp2
  exact ⟨⟨_,k+1,by omega,rfl,by go_num,er⟩,by simp [intOf];omega⟩
 have hk':k=l.length:=by omega
 subst hk'
 clear h4 h3 hok hg hg'
 go_wp2
 go_ret
 exact ⟨⟨_,rfl,fun _=>by have:=HG.out;omega⟩,er⟩
theorem Zdv (A:Option Addr) (n cap:Nat) (w:World):Calls Tryz.prog 67 #[.slice A n cap] w (Ret (.agg #[.slice A n cap]) w):=by
 have h0:=Zb w (.cells #[.slice none 0 0] 42)
 have e0:=Zc w (.cells #[.slice none 0 0] 42)
 go_enter Tryz.func67,Tryz.ntmps67
 go_wp2_with (refine Zg rfl rfl 42 _ _ rfl w.heap.size _ rfl rfl 42 _ h0 (by kernel_rfl) (by rfl) (by rfl) ?_
              intro w8 hb8 ho8 hs8)
 exact Xb w.heap.size 42 _ _ _ rfl rfl hs8 Tryz.underlying42 rfl (by kernel_rfl) rfl ⟨rfl,hb8 _ _ (Nat.le_refl _) e0⟩
theorem jkept_any (va vb:Value) (l more:List Cmd) (w:World) (ha:Vv w 1 va l.length (l.flatMap Cmd.cells)) (hla:∀x∈l,Zdo w x) (hb:Vv w 1 vb more.length (more.flatMap Cmd.cells)) (hlb:∀x∈more,Zdo w x) (hm:more.length<=60):
 Calls Tryz.prog 32 #[va,vb] w (fun e w'=>∃jb q p m pb g ev q2 p2 m2 pb2 g2 L B N,e= .returned (.tuple #[.pointer (some ⟨jb,0,none⟩),.pointer (some ⟨q2,0,none⟩)])/\Ext w w'/\Ran L B/\
  IsJ w' N jb q p m pb g ev (U4 (more.map Prod.snd) (Up L B))/\IsM w' q2 p2 m2 pb2 g2 L B/\w.heap.size<=q2/\q2<N/\N<=jb/\N<=q/\N<=w'.heap.size):=by
 obtain ⟨A,cap,rfl,q1,q2,q3,q4⟩:=ha
 obtain ⟨A',cap',rfl,r1,r2,r3,r4⟩:=hb
 have hn63:(l.length:Int)<=9223372036854775807:=by unfold maxLen at q2;omega
 have hm63:(more.length:Int)<=9223372036854775807:=by unfold maxLen at r2;omega
 have HLA:=Lib.hid hla
 have HLB:=Lib.hid hlb
 clear hla hlb q3 r3
 go_enter Tryz.func32,Tryz.ntmps32
 go_wp2_with fail
 refine (Zo6 _).mono ?_
 rintro e w3 ⟨q,p,m,pb,g,rfl,e3,hM3,hq3⟩
 go_wp2_with fail
 go_loopw [7] (fun iv wr=>∃k:Nat,k<=l.length/\iv= .int .i64 k/\∃p m pb g L B,IsM wr q p m pb g L B/\Ran L B/\Ext w wr) (fun iv _=>l.length-(intOf iv).toNat)
 case atStart=>exact ⟨0,Nat.zero_le _,rfl,p,m,pb,g,_,_,hM3,Ran.new,e3⟩
 clear hM3 e3
 obtain ⟨k,hk,rfl,p,m,pb,g,L,B,hM,hhs,er⟩:=hrel
 by_cases hkn:k<l.length
 ·rcases q4 with q4 | ⟨ga,off,rfl,hlt,hcell⟩
  ·omega
  have hj1:(0:Int)<=(k:Int):=by omega
  have hj2:(k:Int)<(l.length:Int):=by omega
  have hld:=Zpi ((Zd (er.block hlt)).trans (hcell k _ (Zbe l k hkn)))
  have hcx:=(HLA.out _ (List.getElem_mem hkn)).ext er
  generalize (l[k]'hkn)=x at *
  obtain ⟨vx,sx⟩:=x
  simp only at hld
  clear hcell r4
  go_wp2_with (refine Zf rfl 42 _ _ _ rfl rfl hld ?_)
  refine (Zd8 q p m pb g L B sx vx wr hM hcx.1 (fun s hs=>Zpn s (hcx.2 s hs))).mono ?_
  rintro e w5 ⟨v5,p',m',pb',g',rfl,f5,_,hM'⟩
  have er':=FrA.ext0 er f5 (fun x (hx:x=q)=>by omega)
  clear hld
  go_wp2
  exact ⟨⟨k+1,by omega,by go_num,p',m',pb',g',_,_,hM',hhs.step sx,er'⟩,by simp [intOf];omega⟩
 have hk':k=l.length:=by omega
 subst hk'
 clear q4 hkn
 have hjn:=Zps q p m pb g L B wr hM
 go_wp2_with fail
 refine hjn.mono ?_
 rintro e w7 ⟨jb,qj,pj,mj,pbj,gj,rfl,e7,hJ7,hjb,hqj⟩
 have hM7:=hM.ext e7
 have E7:=Xt er e7
 have hqw:=Ze hM.row
 have hsr:=er.size
 have hs7:=e7.size
 obtain ⟨N,hN⟩:∃N,wr.heap.size=N:=⟨_,rfl⟩
 rw [hN] at hJ7 hjb hqj hqw hsr hs7
 clear hjn hM er e7 hN
 go_wp2_with fail
 go_loopw [9] (fun iv wr=>∃k:Nat,k<=more.length/\iv= .int .i64 k/\∃qj pj mj pbj gj ev p m pb g,IsJ wr N jb qj pj mj pbj gj ev (U4 ((more.map Prod.snd).take k) (Up L B))/\IsM wr q p m pb g L B/\N<=qj/\N<=wr.heap.size/\Ext w wr) (fun iv _=>more.length-(intOf iv).toNat)
 case atStart=>exact ⟨0,Nat.zero_le _,rfl,qj,pj,mj,pbj,gj,_,p,m,pb,g,hJ7,hM7,hqj,hs7,E7⟩
 clear hJ7 hM7 E7 hqj hs7
 obtain ⟨k,hk,rfl,qj,pj,mj,pbj,gj,ev,p,m,pb,g,hJ,hM,hqj,hNr,er⟩:=hrel
 by_cases hkn:k<more.length
 ·rcases r4 with r4 | ⟨ga,off,rfl,hlt,hcell⟩
  ·omega
  have hj1:(0:Int)<=(k:Int):=by omega
  have hj2:(k:Int)<(more.length:Int):=by omega
  have hld:=Zpi ((Zd (er.block hlt)).trans (hcell k _ (Zbe more k hkn)))
  have hcx:=HLB.out _ (List.getElem_mem hkn)
  have hjt:=jrun_take (more.map Prod.snd) (Up L B) k (by rw [List.length_map];exact hkn)
  rw [List.getElem_map] at hjt
  have hjk:=jk_ok hhs.hs ((more.map Prod.snd).take k) (by rw [List.length_take,List.length_map];omega)
  generalize (more[k]'hkn)=x at *
  obtain ⟨vx,sx⟩:=x
  simp only at hld hjt
  generalize U4 ((more.map Prod.snd).take k) (Up L B)=Jk at *
  have hdo:=jdo_cmd hJ er hcx.1 hcx.2 (by omega) (by omega) (by omega) hNr hjk.2.1 hjk.2.2.1 hjk.2.2.2 hjk.1.hs
  have HJT:=Lib.hid hjt
  clear hcell hjk hjt
  go_wp2_with (refine Zf rfl 42 _ _ _ rfl rfl hld ?_)
  refine hdo.mono ?_
  rintro e w5 ⟨vg,q',p',m',pb',g',ev',rfl,f5,sg5,hJ',hq',_⟩
  have hM':=hM.overJ hJ f5 (by omega)
  have hs5:=f5.size
  have er':=FrA.ext0 er f5 (fun x hx=>by
   rcases hx with rfl | rfl | hx
   ·omega
   ·omega
   have:=(hJ.own.lt x hx).1
   omega)
  obtain ⟨G5,c5,rfl,_⟩:=sg5
  clear hld hdo hJ hM f5
  go_wp2
  exact ⟨⟨k+1,by omega,by go_num,q',p',m',pb',g',ev',p,m,pb,g,by rw [HJT.out];exact hJ',hM',by omega,by omega,er'⟩,by simp [intOf];omega⟩
 have hk':k=more.length:=by omega
 subst hk'
 rw [List.take_of_length_le (by rw [List.length_map];exact Nat.le_refl _)] at hJ
 clear r4 hkn
 go_wp2
 go_ret2
 exact ⟨jb,qj,pj,mj,pbj,gj,ev,q,p,m,pb,g,L,B,N,rfl,er,hhs,hJ,hM,by omega,hqw,hjb,hqj,hNr⟩
def ys3:Stp:=⟨2,2,1,5,0,9,0,0,0,0⟩
def yp (a b n:Int):Stp:=⟨3,a,b,5,0,n,0,0,0,0⟩
def yL:Led:=(Yd [xs1,xs2,ys3] Zca ⟨[],1⟩).2.1
def yJ1:Jn:=jdo [yp 1 2 4,yp 2 1 1] (Up yL ⟨[],1⟩)
def yJ2:Jn:=jdo [yp 1 2 99] yJ1
def yJ3:Jn:=jdo [yp 1 2 2] yJ2
theorem ya1:Yd [xs1,xs2,ys3] Zca ⟨[],1⟩=((0,0,[(0,0),(0,0),(0,0)]),yL,⟨[],1⟩):=by kernel_rfl
theorem ye1:(Yd [yp 1 2 4,yp 2 1 1] (Up yL ⟨[],1⟩).L (Up yL ⟨[],1⟩).B).1.1=0:=by kernel_rfl
theorem ye2:(Yd [yp 1 2 99] yJ1.L yJ1.B).1.1=11:=by kernel_rfl
theorem ye3:(Yd [yp 1 2 2] yJ2.L yJ2.B).1.1=0:=by kernel_rfl
theorem yac:Zam yJ3.es 2 5=[⟨1,0,3,2,5,4,4⟩,⟨1,1,3,2,5,-1,3⟩,⟨3,0,3,2,5,2,5⟩]:=by kernel_rfl
theorem yst0:stoF (Z1 yJ3.L0) yJ3.es 2 5 0=0:=by kernel_rfl
theorem yst2:stoF (Z1 yJ3.L0) yJ3.es 2 5 2=3:=by kernel_rfl
theorem yst9:stoF (Z1 yJ3.L0) yJ3.es 1 5 9= -5:=by kernel_rfl
theorem ytu:Zaq yJ3.es 5=7:=by kernel_rfl
theorem yhs:HsOk yL ⟨[],1⟩:=by
 have h:=Zke Zsh [xs1,xs2,ys3]
 rw [ya1] at h
 exact h
theorem yok (cs:List (List Stp)) (hn:cs.length<=60):JLo cs (U4 cs (Up yL ⟨[],1⟩))/\(U4 cs (Up yL ⟨[],1⟩)).es.length<=900000/\0<=(U4 cs (Up yL ⟨[],1⟩)).many/\(U4 cs (Up yL ⟨[],1⟩)).many<=60:=jk_ok yhs cs hn
theorem Zsd {base jb q p m pb:Nat} {g:Option Nat} {ev v:Value} {l:List Stp} {J J':Jn} {er:Int} (hJ:jdo l J=J') (he:(Yd l J.L J.B).1.1=er) (w0 w:World) (h:IsJ w base jb q p m pb g ev J) (_k:Ext w0 w)
 (hs:Zt w w0.heap.size 10 v l.length (Vr l)) (hin:∀s∈l,Zf4 s) (hj:jb<w0.heap.size) (hq:q<w0.heap.size) (hv:∀b,ev.ownBlock=some b->b<w0.heap.size) (hb:base<=w.heap.size)
 (hk:J.es.length<=900000/\0<=J.many/\J.many<=60) (hh:HsOk J.L J.B):
 Calls Tryz.prog 41 #[.pointer (some ⟨jb,0,none⟩),.agg #[v]] w (fun en w'=>∃i A n cap q' p' m' pb' g' ev',en= .returned (.agg #[.int .i64 er,.int .i64 i,.slice A n cap])/\FrA (fun x=>x=jb\/x=q\/ev.ownBlock=some x) w w'/\
  IsJ w' base jb q' p' m' pb' g' ev' J'/\(q'=q\/w.heap.size<=q')/\(ev'.ownBlock=ev.ownBlock\/∃x,ev'.ownBlock=some x/\w.heap.size<=x)):=by
 subst hJ
 subst he
 refine (jdo_any base jb q p m pb g ev J l v w h hs.arg hin (fun hn b hvb=> ?_) hb hk.1 hk.2.1 (by omega) hh).mono ?_
 ·obtain ⟨A,cap,rfl,_,_,_,h4⟩:=hs
  rcases h4 with h4 | ⟨ga,rfl,hlo,_⟩
  ·exact absurd h4 hn
  simp only [Value.ownBlock,Option.some.injEq] at hvb
  subst hvb
  refine ⟨by omega,by omega,fun he=> ?_⟩
  have:=hv ga he
  omega
 rintro en w' ⟨vg,q',p',m',pb',g',ev',rfl,f,sg,hJ',hq',hv'⟩
 obtain ⟨A,cap,rfl,_⟩:=sg
 exact ⟨_,A,_,cap,q',p',m',pb',g',ev',rfl,f,hJ',hq',hv'⟩
theorem Zrw (a b c d e f g:Int) (w:World):(binOp .neq 84 (.agg #[.int .i64 a,.int .i64 b,.int .u8 c,.int .u8 d,.int .u8 e,.int .i64 f,.int .i64 g]) (.agg #[.int .i64 a,.int .i64 b,.int .u8 c,.int .u8 d,.int .u8 e,.int .i64 f,.int .i64 g])).run Tryz.prog w= .ok (.bool false) w:=by
 have hS:Tryz.prog.underlying 84=some (.struct (Tryz.prog.fieldsOf 84)):=by kernel_rfl
 have hp:Tryz.prog.stoodInHeld 84=false:=by kernel_rfl
 have h:(Op.equalIn 10000 84 (.agg #[.int .i64 a,.int .i64 b,.int .u8 c,.int .u8 d,.int .u8 e,.int .i64 f,.int .i64 g]) (.agg #[.int .i64 a,.int .i64 b,.int .u8 c,.int .u8 d,.int .u8 e,.int .i64 f,.int .i64 g])).run Tryz.prog w= .ok true w:=by
  rw [show (10000:Nat)=9999+1 from rfl,run_equalIn_agg w 9999 84 _ _ hS hp]
  simp only [Program.fieldsOf,Tryz.underlying84]
  go_simp
 rw [run_neq_struct,h];rfl
theorem load_en (w:World) (g k:Nat) (l:List En) (hk:k<l.length) (h:∀j u,(Yf l)[j]? =some u->w.cell? ⟨g,j,none⟩=some u):
 (loadVar 84 ⟨g,k*7,none⟩).run Tryz.prog w= .ok (l[k]'hk).agg w:=
 Zr w g (k*7) 84 (l[k]'hk).cells _ (fun j u hu=>by
  have hj:j<7:=(List.getElem?_eq_some_iff.1 hu).1
  exact h _ _ ((X2 l k j hk hj).trans hu)) Tryz.underlying84 rfl (by kernel_rfl)
theorem ye_in:∀s∈[xs1,xs2,ys3,yp 1 2 4,yp 2 1 1,yp 1 2 99,yp 1 2 2],Zf4 s:=by
 intro s hs
 simp only [List.mem_cons,List.not_mem_nil,or_false] at hs
 rcases hs with rfl | rfl | rfl | rfl | rfl | rfl | rfl
 ·exact Zj6 _ rfl ⟨by decide,by decide,by decide,by decide⟩
 ·exact Zj6 _ rfl ⟨by decide,by decide,by decide,by decide⟩
 ·exact Zpm _ rfl ⟨by decide,by decide,by decide,by decide⟩
 rotate_left
 rotate_left
 rotate_left
 all_goals exact known_pay _ rfl ⟨by decide,by decide,by decide,by decide⟩
theorem Ze3 (w:World):Calls Tryz.prog 31 #[] w (Ret (.bool true) w):=by
 have HIN:=Lib.hid ye_in
 go_enter Tryz.func31,Tryz.ntmps31
 go_wp2_with fail
 refine (Zo6 w).mono ?_
 rintro e w1 ⟨q,p,m,pb,g,rfl,e1,hM1,hq⟩
 go_wp2_with (first
  | (refine J4 (len:=3) rfl (by kernel_rfl) (.cells (Vr [xs1,xs2,ys3]).toArray 30) (.slice (some ⟨w1.heap.size,0,none⟩) 3 3) _ rfl (by kernel_rfl) ?_
     intro w2 e2 h2))
 refine (Zdv _ _ _ _).mono ?_
 rintro e w3 ⟨rfl,e3⟩
 go_wp2_with fail
 refine (ap_at ya1 3 rfl q p m pb g _ w3 (hM1.ext (Xt e2 e3)) (Zcu (e3.at h2) rfl (by decide) (Nat.zero_le _)) (fun s hs=>HIN.out s (by simp only [List.mem_cons,List.not_mem_nil,or_false] at hs ⊢;rcases hs with rfl | rfl | rfl<;>simp))).mono ?_
 rintro e w4 ⟨A4,c4,p4,m4,pb4,g4,rfl,f4,hs4,hM4⟩
 have E4:Ext w w4:=FrA.ext0 (Xt e1 (Xt e2 e3)) f4 (fun x (hx:x=q)=>by omega)
 clear hM1 h2 hs4 e1 e2 e3 f4
 go_wp2_with fail
 refine (Zps q p4 m4 pb4 g4 _ _ w4 hM4).mono ?_
 rintro e w5 ⟨jb,q5,p5,m5,pb5,g5,rfl,e5,hJ5,hjb,hq5⟩
 have E5:=Xt E4 e5
 have s45:=e5.size
 have s4:=E4.size
 have l5:=hJ5.row.lt
 have lq5:=Ze hJ5.mac.row
 obtain ⟨N,hN⟩:∃N,w4.heap.size=N:=⟨_,rfl⟩
 rw [hN] at hJ5 hjb hq5 s45 s4
 clear hM4 hN e5 E4
 -- the first command
 go_wp2_with (first
  | (refine J4 (len:=2) rfl (by kernel_rfl) (.cells (Vr [yp 1 2 4,yp 2 1 1]).toArray 30) (.slice (some ⟨w5.heap.size,0,none⟩) 2 2) _ rfl (by kernel_rfl) ?_
     intro w6 e6 h6))
 refine (Zdv _ _ _ _).mono ?_
 rintro e w7 ⟨rfl,e7⟩
 go_wp2_with fail
 have e57:=Xt e6 e7
 have s57:=e57.size
 have k1:=yok [] (by simp)
 refine (Zsd (J:=Up yL ⟨[],1⟩) (J':=yJ1) rfl ye1 w5 w7 (hJ5.ext e57) e57 (Zcu (e7.at h6) rfl (by decide) (Nat.le_refl _)) (fun s hs=>HIN.out s (by simp only [List.mem_cons,List.not_mem_nil,or_false] at hs ⊢;rcases hs with rfl | rfl<;>simp)) l5 lq5 (fun b hb=>(hJ5.own.lt b hb).2) (by omega) k1.2 k1.1.hs).mono ?_
 rintro e w8 ⟨i8,A8,n8,c8,q8,p8,m8,pb8,g8,ev8,rfl,f8,hJ8,hq8,hv8⟩
 have s78:=f8.size
 have E8:Ext w w8:=FrA.ext0 (Xt E5 e57) f8 (fun x hx=>by
  rcases hx with rfl | rfl | hx
  ·omega
  ·omega
  simp [Value.ownBlock] at hx)
 clear h6 e6 e7 e57 hJ5 f8 k1 hv8
 go_wp2_with (first
  | (refine Zm rfl 38 rfl (.cells #[.int .i64 0,.int .i64 0,.slice none 0 0] 38) _ rfl (by go_simp) ?_;intro wn en hn)
  | (refine Zg rfl rfl 38 _ _ rfl w8.heap.size _ rfl rfl 38 _ hn (by kernel_rfl) (by rfl) (by rfl) ?_
     intro w9 hb9 ho9 r9)
  | (refine J4 (len:=1) rfl (by kernel_rfl) (.cells (Vr [yp 1 2 99]).toArray 30) (.slice (some ⟨w9.heap.size,0,none⟩) 1 1) _ rfl (by kernel_rfl) ?_
     intro w10 e10 h10))
 have e89:Ext w8 w9:=hb9 _ _ (Nat.le_refl _) en
 clear hb9 ho9 hn en
 refine (Zdv _ _ _ _).mono ?_
 rintro e w11 ⟨rfl,e11⟩
 go_wp2_with fail
 have e911:=Xt e10 e11
 have s89:=e89.size
 have s911:=e911.size
 have k2:=yok [[yp 1 2 4,yp 2 1 1]] (by simp)
 have hJ9:=hJ8.ext e89
 refine (Zsd (J:=yJ1) (J':=yJ2) rfl ye2 w9 w11 (hJ9.ext e911) e911 (Zcu (e11.at h10) rfl (by decide) (Nat.le_refl _)) (fun s hs=>HIN.out s (by rw [List.mem_singleton.1 hs];simp)) hJ9.row.lt (Ze hJ9.mac.row) (fun b hb=>(hJ9.own.lt b hb).2) (by omega) k2.2 k2.1.hs).mono ?_
 rintro e w12 ⟨i12,A12,n12,c12,q12,p12,m12,pb12,g12,ev12,rfl,f12,hJ12,hq12,hv12⟩
 have s1112:=f12.size
 have r12:=f12.at (e911.at r9) ((hJ9.ext e911).off (e911.at r9) (by decide) (by decide) (by decide))
 have E12:Ext w w12:=FrA.ext0 (Xt E8 (Xt e89 e911)) f12 (fun x hx=>by
  rcases hx with rfl | rfl | hx
  ·omega
  ·omega
  have:=(hJ8.own.lt x hx).1
  omega)
 clear h10 e10 e11 e911 hJ8 hJ9 f12 k2 hv12 r9 e89
 go_wp2_with (first
  | (refine Zm rfl 38 rfl (.cells #[.int .i64 0,.int .i64 0,.slice none 0 0] 38) _ rfl (by go_simp) ?_;intro wn en hn)
  | (refine Zg rfl rfl 38 _ _ rfl w12.heap.size _ rfl rfl 38 _ hn (by kernel_rfl) (by rfl) (by rfl) ?_
     intro w13 hb13 ho13 r13)
  | (refine J4 (len:=1) rfl (by kernel_rfl) (.cells (Vr [yp 1 2 2]).toArray 30) (.slice (some ⟨w13.heap.size,0,none⟩) 1 1) _ rfl (by kernel_rfl) ?_
     intro w14 e14 h14))
 have e1213:Ext w12 w13:=hb13 _ _ (Nat.le_refl _) en
 clear hb13 ho13 hn en
 refine (Zdv _ _ _ _).mono ?_
 rintro e w15 ⟨rfl,e15⟩
 go_wp2_with fail
 have e1315:=Xt e14 e15
 have s1213:=e1213.size
 have s1315:=e1315.size
 have k3:=yok [[yp 1 2 4,yp 2 1 1],[yp 1 2 99]] (by simp)
 have hJ13:=hJ12.ext e1213
 refine (Zsd (J:=yJ2) (J':=yJ3) rfl ye3 w13 w15 (hJ13.ext e1315) e1315 (Zcu (e15.at h14) rfl (by decide) (Nat.le_refl _)) (fun s hs=>HIN.out s (by rw [List.mem_singleton.1 hs];simp)) hJ13.row.lt (Ze hJ13.mac.row) (fun b hb=>(hJ13.own.lt b hb).2) (by omega) k3.2 k3.1.hs).mono ?_
 rintro e w16 ⟨i16,A16,n16,c16,q16,p16,m16,pb16,g16,ev16,rfl,f16,hJ16,hq16,hv16⟩
 have e1215:=Xt e1213 e1315
 have r16:=f16.at (e1215.at r12) ((hJ13.ext e1315).off (e1215.at r12) (by decide) (by decide) (by decide))
 have t16:=f16.at (e1315.at r13) ((hJ13.ext e1315).off (e1315.at r13) (by decide) (by decide) (by decide))
 have E16:Ext w w16:=FrA.ext0 (Xt E12 e1215) f16 (fun x hx=>by
  rcases hx with rfl | rfl | hx
  ·omega
  ·omega
  have:=(hJ12.own.lt x hx).1
  omega)
 clear h14 e14 e15 e1315 e1213 e1215 hJ12 hJ13 f16 k3 hv16 r12 r13
 go_wp2_with (first
  | (refine Zm rfl 38 rfl (.cells #[.int .i64 0,.int .i64 0,.slice none 0 0] 38) _ rfl (by go_simp) ?_;intro wn en hn)
  | (refine Zg rfl rfl 38 _ _ rfl w16.heap.size _ rfl rfl 38 _ hn (by kernel_rfl) (by rfl) (by rfl) ?_
     intro w17 hb17 ho17 r17))
 have e1617:Ext w16 w17:=hb17 _ _ (Nat.le_refl _) en
 have hJ17:=hJ16.ext e1617
 have hal:yJ3.es.length<=1000000:=by
  have:=(yok [[yp 1 2 4,yp 2 1 1],[yp 1 2 99],[yp 1 2 2]] (by simp)).2.1
  exact Nat.le_trans this (by decide)
 have r17a:=e1617.at r16
 have r17b:=e1617.at t16
 clear hb17 ho17 hn en r16 t16 hJ16
 refine (jacc_any w17 jb _ _ _ _ _ yJ3.es 2 5 hJ17.row hJ17.arg hal).mono ?_
 rintro e w18 ⟨v18,rfl,e18,sl18⟩
 rw [yac] at sl18
 obtain ⟨A18,c18,rfl,a1,a2,a3,a4⟩:=sl18
 rcases a4 with a4 | ⟨g18,rfl,a5,a6,a7⟩
 ·simp at a4
 have hJ18:=hJ17.ext e18
 have x1:w18.cell? ⟨w8.heap.size,0,none⟩=_:=Za (j:=0) (e18.at r17a) rfl
 have x2:w18.cell? ⟨w12.heap.size,0,none⟩=_:=Za (j:=0) (e18.at r17b) rfl
 have x3:w18.cell? ⟨w16.heap.size,0,none⟩=_:=Za (j:=0) (e18.at r17) rfl
 have hmn:yJ3.many=3:=rfl
 have hld:=fun W (k:Ext w18 W) (i:Nat) (hi:i<3)=>load_en W g18 i [⟨1,0,3,2,5,4,4⟩,⟨1,1,3,2,5,-1,3⟩,⟨3,0,3,2,5,2,5⟩] hi (fun j u hu=>(Zd (k.block a6)).trans (a7 j u hu))
 have E18:=Xt E16 (Xt e1617 e18)
 clear a7 a3 r17 r17a r17b
 go_wp2_with fail
 refine (jmany_any w18 jb _ _ _ _ _ hJ18.row).mono ?_
 rintro e w19 ⟨rfl,e19⟩
 rw [hmn]
 have ld0:=hld w19 e19 0 (by decide)
 have ld1:=hld w19 e19 1 (by decide)
 have ld2:=hld w19 e19 2 (by decide)
 have n0:=Zrw 1 0 3 2 5 4 4
 have n1:=Zrw 1 1 3 2 5 (-1) 3
 have n2:=Zrw 3 0 3 2 5 2 5
 simp only [Nat.zero_mul,Nat.one_mul,Nat.reduceMul,List.getElem_cons_zero,List.getElem_cons_succ,En.agg] at ld0 ld1 ld2
 have hJ19:=hJ18.ext e19
 clear hld hJ18 x1 x2 x3
 go_wp2_with (first
  | (refine Jp 84 _ _ _ (by kernel_rfl) rfl rfl ld0 ?_)
  | (refine Jp 84 _ _ _ (by kernel_rfl) rfl rfl ld1 ?_)
  | (refine Jp 84 _ _ _ (by kernel_rfl) rfl rfl ld2 ?_))
 have st0:=fun W (k:Ext w19 W)=>Ze2 W jb _ _ _ _ _ yJ3.es 2 5 0 (hJ19.ext k).row (hJ19.ext k).arg
 have st2:=fun W (k:Ext w19 W)=>Ze2 W jb _ _ _ _ _ yJ3.es 2 5 2 (hJ19.ext k).row (hJ19.ext k).arg
 have st9:=fun W (k:Ext w19 W)=>Ze2 W jb _ _ _ _ _ yJ3.es 1 5 9 (hJ19.ext k).row (hJ19.ext k).arg
 have stt:=fun W (k:Ext w19 W)=>Zmd W jb _ _ _ _ _ yJ3.es 5 (hJ19.ext k).row (hJ19.ext k).arg
 rw [yst0] at st0
 rw [yst2] at st2
 rw [yst9] at st9
 rw [ytu] at stt
 clear ld0 ld1 ld2 n0 n1 n2
 refine (st0 _ (Ext.refl _)).mono ?_
 rintro e w20 ⟨rfl,e20⟩
 go_wp2_with fail
 refine (st2 _ e20).mono ?_
 rintro e w21 ⟨rfl,e21⟩
 have e21:=Xt e20 e21
 go_wp2_with fail
 refine (st9 _ e21).mono ?_
 rintro e w22 ⟨rfl,e22⟩
 have e22:=Xt e21 e22
 go_wp2_with fail
 refine (stt _ e22).mono ?_
 rintro e w23 ⟨rfl,e23⟩
 go_wp2
 go_ret
 exact ⟨rfl,Xt E18 (Xt e19 (Xt e22 e23))⟩
end Go.Proofs.YtipjchbdogmccaaGreat
