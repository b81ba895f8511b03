/- JournalsAnswer: a journal answers each command as a machine beside it; walked. -/
import Derived.Test.YtipjchbdogmccaaGreatJl
namespace Go.RgK
open Go.RowKit Go.Rg
theorem Zd3 {S:List Nat} {P:Program} {ops:Array Oper} {md:Region.Mode} {n f:Nat} {L:Array Bool->Act->World->Prop} {listed:Array Bool} {a:Act} {w0 w:World} (i:Nat) (g:FuncId) (fn:Func) (vals:Array Value) (o:Oper) (ho:ops[i]? =some o) (args:Array Operand) (ts:Array TypeId)
 (hop:o.op= .call { callee:= .value (.func g),args:=args,argTypes:=ts }) (hf:P.funcs[g]? =some fn) (hb:fn.body.isNone=false) (hn:(fn.name== "runtime.NumGoroutine")=false) (hv:args.map a.eval=vals) (hw:Region.wanted o (yielded ops a.tmps)=true)
 (hr:Region.ready md ops listed=[i]) (hin:i<n)
 (h:∀w':World,Keep S w0 w'->Ext w w'->Calls P g vals w' (fun e w''=>∃v,e= .returned v/\Keep S w0 w''/\wpX S P md ops w0 n L f (listed.setIfInBounds i true) (a.put o.dst v) w'')):wpX S P md ops w0 n L (f+1) listed a w:=
 Ve i o hr hin ho hw fun w' h0 hw'=>Uk g fn vals args ts hop hf hb hn hv (h w' h0 hw')
theorem Zi4 {S:List Nat} {P:Program} {ops:Array Oper} {md:Region.Mode} {n f:Nat} {L:Array Bool->Act->World->Prop} {listed:Array Bool} {a:Act} {w0 w:World} (i:Nat) (o:Oper) (v:Value) (ho:ops[i]? =some o) (hw:Region.wanted o (yielded ops a.tmps)=true)
 (hr:Region.ready md ops listed=[i]) (hin:i<n) (hl:∀w',Ext w w'->(execOp a.eval o).run P w'= .ok (.value v) w')
 (h:∀w':World,Keep S w0 w'->Ext w w'->wpX S P md ops w0 n L f (listed.setIfInBounds i true) (a.put o.dst v) w'):wpX S P md ops w0 n L (f+1) listed a w:=
 Ve i o hr hin ho hw fun w' h0 hw'=>by
  unfold Xz
  rw [hl w' hw']
  exact ⟨h0,h w' h0 hw'⟩
end Go.RgK
namespace Go.Proofs.YtipjchbdogmccaaGreat
open Go.RowKit Go.Rg Go.BigFrame
theorem Zs3 (w:World) (size:Nat):Vn w size (.slice none 0 0) 0 []:=⟨none,0,rfl,Nat.le_refl _,Nat.zero_le _,by simp,.inl rfl⟩
structure AnI (w w0:World) (N jb q0 qm:Nat) (L:Led) (B:Bk) (ev0:Value) (Jk:Jn) (q p m pb:Nat) (g:Option Nat) (ev:Value) (qo:Nat) (po mo pbo:Nat) (go':Option Nat) (pm mm pbm:Nat) (gm:Option Nat) (W:World):Prop where
 hJ:IsJ W N jb q p m pb g ev Jk
 hO:IsM W qo po mo pbo go' Jk.L Jk.B
 hM:IsM W qm pm mm pbm gm L B
 eq_:q=q0\/w0.heap.size<=q
 ev_:ev.ownBlock=ev0.ownBlock\/∃x,ev.ownBlock=some x/\w0.heap.size<=x
 ne:q≠qo
 fr:FrA (fun x=>x=jb\/x=q0\/ev0.ownBlock=some x) w0 W
 be:Ext w W
set_option maxRecDepth 100000 in
set_option maxHeartbeats 25600000 in
theorem Zps (va vb:Value) (l more:List Cmd) (w:World) (ha:Vn w 1 va l.length (l.flatMap Cmd.cells)) (hla:∀x∈l,Zcb w x) (hb:Vn w 1 vb more.length (more.flatMap Cmd.cells)) (hlb:∀x∈more,Zcb w x):
 Calls Tryz.prog 8 #[va,vb] w (Ret (.bool true) w):=by
 have hgr:=Zco va l w ha hla
 have hgs:=fun W (k:Ext w W)=>Zco vb more W (hb.ext k) (fun x hx=>(hlb x hx).ext k)
 have hkp:=fun W (k:Ext w W)=>Zl8 va (.slice none 0 0) l [] W (ha.ext k) (fun x hx=>(hla x hx).ext k) (Zs3 W 1) (fun x hx=>by simp at hx) (by simp)
 obtain ⟨A,cap,rfl,q1,q2,q3,q4⟩:=ha
 obtain ⟨A',cap',rfl,r1,r2,r3,r4⟩:=hb
 have hm63:(more.length:Int)<=9223372036854775807:=by unfold maxLen at r2;omega
 have HLB:=Lib.hid hlb
 clear hla hlb q3 r3
 go_enter Tryz.func8,Tryz.ntmps8
 go_wp2_with fail
 refine hgr.mono ?_
 rintro e w1 ⟨⟨bg,rfl,_⟩,e1⟩
 clear hgr
 cases bg with
 | true=>
   go_wp2_with fail
   refine (Ur _).mono ?_
   rintro e wz ⟨rfl,ez⟩
   go_wp2
   go_ret
   exact ⟨rfl,Xt e1 ez⟩
 | false=>
   go_wp2_with fail
   refine (hgs w1 e1).mono ?_
   rintro e w2 ⟨⟨bh,rfl,hm⟩,e2⟩
   have E2:=Xt e1 e2
   clear hgs e1 e2
   cases bh with
   | true=>
     go_wp2_with fail
     refine (Ur _).mono ?_
     rintro e wz ⟨rfl,ez⟩
     go_wp2
     go_ret
     exact ⟨rfl,Xt E2 ez⟩
   | false=>
     have hm60:=hm rfl
     clear hm
     go_wp2_with fail
     refine (hkp w2 E2).mono ?_
     rintro e w3 ⟨jb,q0,p,m,pb,g,ev0,qm,pm,mm,pbm,gm,L,B,N,rfl,e3,hh,hJ3,hM3,b1,b2,b3,b4,b5⟩
     have hJ3:IsJ w3 N jb q0 p m pb g ev0 (Y0 L B):=hJ3
     have E3:=Xt E2 e3
     have s2:=E2.size
     have HH:=Lib.hid hh
     have hst:=Jr qm pm mm pbm gm L B w3 hM3
     clear hkp e3 E2 hh
     go_wp2_with fail
     refine hst.mono ?_
     rintro e w4 ⟨v4,rfl,e4,st4⟩
     have ST4:=Lib.hid st4
     obtain ⟨v1,v2,v3,rfl,t1,t2,t3⟩:=st4
     obtain ⟨A1,k1,rfl,_⟩:=t1
     obtain ⟨A2,k2,rfl,_⟩:=t2
     obtain ⟨A3,k3,rfl,_⟩:=t3
     have hM4:=hM3.ext e4
     have hJ4:=hJ3.ext e4
     have E4:=Xt E3 e4
     have s4:=e4.size
     have j3:=hJ3.row.lt
     have q3:=Zd hJ3.mac.row
     have v3l:∀b,ev0.ownBlock=some b->b<w3.heap.size:=fun b hb=>(hJ3.own.lt b hb).2
     clear hst hM3 hJ3 e4 E3
     go_wp2_with (first
      | (refine Zm rfl 47 rfl (.cells #[.slice none 0 0,.slice none 0 0,.slice none 0 0,.int .u64 0] 47) _ rfl (by go_simp) ?_
         intro w5 e5 h5)
      | (refine Zf rfl rfl 47 _ _ rfl w4.heap.size _ rfl rfl 47 _ h5 (by kernel_rfl) (by rfl) (by rfl) ?_
         intro w6 hb6 ho6 h6))
     have e46:Ext w4 w6:=hb6 _ _ (Nat.le_refl _) e5
     have hM6:=hM4.ext e46
     have hJ6:=hJ4.ext e46
     have ST6:=Lib.hid (ST4.out.ext e46)
     have E6:=Xt E4 e46
     have s6:=e46.size
     have l6:=Zd h6
     clear hb6 ho6 h5 e5 e46 hM4 hJ4 E4
     refine (Zg3 qm pm mm pbm gm L B w6 hM6).mono ?_
     rintro e w7 ⟨qo,po,mo,pbo,go',rfl,e7,hO7,hq7⟩
     have I7:AnI w w6 N jb q0 qm L B ev0 (Y0 L B) q0 p m pb g ev0 qo po mo pbo go' pm mm pbm gm w7:=
      ⟨hJ6.ext e7,hO7,hM6.ext e7,.inl rfl,.inl rfl,by omega,FrA.of_ext e7,Xt E6 e7⟩
     have HQ:=Lib.hid (show qm≠qo/\w6.heap.size<=qo by exact ⟨by have:=Zd hM6.row;omega,hq7⟩)
     clear hM6 hJ6 hO7 e7 E6 hq7
     go_wp2_with fail
     go_loopw [4,9,32,33,34,35,36,37,38,39,40,41,42,43,44,45,46,47,48,49,50,51,52,53,54,55,56,57,58,59,60] (fun _ iv _ _ _ _ _ _ _ _ _ _ _ _ _ _ _ _ _ _ _ _ _ _ _ _ _ _ _ _ _ wr=>∃k:Nat,k<=more.length/\iv= .int .i64 k/\∃q p m pb g ev po mo pbo go' pm mm pbm gm,AnI w w6 N jb q0 qm L B ev0 (Y6 ((more.map Prod.snd).take k) (Y0 L B)) q p m pb g ev qo po mo pbo go' pm mm pbm gm wr) (fun _ iv _ _ _ _ _ _ _ _ _ _ _ _ _ _ _ _ _ _ _ _ _ _ _ _ _ _ _ _ _ _=>more.length-(intOf iv).toNat)
     case atStart=>exact ⟨0,Nat.zero_le _,rfl,q0,p,m,pb,g,ev0,po,mo,pbo,go',pm,mm,pbm,gm,I7⟩
     clear I7
     obtain ⟨k,hk,rfl,q,p,m,pb,g,ev,po,mo,pbo,go',pm,mm,pbm,gm,I⟩:=hrel
     obtain ⟨hJ,hO,hM,heq,hev,hne,hfr,er⟩:=I
     have hsr:=hfr.size
     have hqN:N<=q:=by omega
     have hqmq:qm≠q:=by omega
     have hqmo:=HQ.out.1
     by_cases hkn:k<more.length
     ·rcases r4 with r4 | ⟨ga,off,rfl,hlt,hcell⟩
      ·omega
      have hj1:(0:Int)<=(k:Int):=by omega
      have hj2:(k:Int)<(more.length:Int):=by omega
      have hcl:=(Zh (er.block hlt)).trans (hcell k _ (Zae more k hkn))
      have hcx:=HLB.out _ (List.getElem_mem hkn)
      have hjt:=Zhb (more.map Prod.snd) (Y0 L B) k (by rw [List.length_map];exact hkn)
      rw [List.getElem_map] at hjt
      have hjk:=Zpr HH.out.hs ((more.map Prod.snd).take k) (by rw [List.length_take,List.length_map];omega)
      have hjk2:=(Zpr HH.out.hs ((more.map Prod.snd).take (k+1)) (by rw [List.length_take,List.length_map];omega)).1.many
      rw [List.length_take,List.length_map,Nat.min_eq_left (show k+1<=more.length by omega)] at hjk2
      rw [hjt] at hjk2
      generalize (more[k]'hkn)=x at *
      obtain ⟨vx,sx⟩:=x
      simp only at hcl hjt hjk2
      generalize Y6 ((more.map Prod.snd).take k) (Y0 L B)=Jk at *
      obtain ⟨J',hJ'⟩:∃J',jdo sx Jk=J':=⟨_,rfl⟩
      rw [hJ'] at hjt hjk2
      have hhs:=Jz sx Jk
      rw [hJ'] at hhs
      have HHS:=Lib.hid hhs
      have HJT:=Lib.hid hjt
      have HJN:=Lib.hid hJ'
      have HMK:=Lib.hid hjk2
      have HJK:=Lib.hid hjk
      obtain ⟨SS,hSS⟩:∃SS:List Nat,∀x,(x=jb\/x=q\/ev.ownBlock=some x\/x=qo)↔x∈SS:=⟨[jb,q,qo]++ev.ownBlock.toList,fun x=>by
       simp only [List.mem_append,List.mem_cons,List.not_mem_nil,or_false,Option.mem_toList]
       constructor
       ·rintro (h | h | h | h)<;>simp [h]
       rintro ((h | h | h) | h)<;>simp [h]⟩
      have hgaS:ga∉SS:=fun hx=>by
       rcases (hSS ga).2 hx with h | h | h | h
       ·omega
       ·omega
       ·have:=(hJ.own.lt ga h).1
        omega
       have:=HQ.out.2
       omega
      have hws:=er.size
      have HSS:=Lib.hid hSS
      clear hcell hjk hjt hJ' hhs hjk2 hSS
      go_wp2_with fail
      refine RgK.Zg SS Zl 27 [5,11,12,13,14,15,16,17,18,19,20,21,22,23,24,25,26] (by kernel_rfl) (by kernel_rfl) (by kernel_rfl) ?_
      intro w1 hw1
      have ldc:∀wq,U0 SS w1 wq->(loadVar 42 ⟨ga,off+k,none⟩).run Tryz.prog wq= .ok (.agg #[vx]) wq:=by
       rintro _ ⟨u,rfl⟩
       exact Zf2 ((Zh ((hw1.trans u.h).block ga (show ga<wr.heap.size by omega) hgaS)).trans hcl)
      simp only [Zj,Rg.hsB,Nat.reduceBEq,Nat.reduceAdd,↓reduceIte]
      repeat (first | go_big_quiet_step (fail) | (go_big_quiet_want;(refine Z5 42 _ _ _ rfl rfl ldc ?_);go_big_quiet_on;simp only [Act.put,Rg.puB]))
      refine wpQuiet_nil ?_
      intro hx1
      clear ldc
      refine RgK.Z0 5 41 _ #[.pointer (some ⟨jb,0,none⟩),.agg #[vx]] _ (by rfl) _ _ (by rfl) Tryz.func41 rfl rfl (by kernel_rfl) (by rfl) (by kernel_rfl) (by decide) ?_
      intro wa h0a ha
      have Ea:=Xt hx1 ha
      have hJa:=hJ.ext Ea
      have hOa:=hO.ext Ea
      have hMa:=hM.ext Ea
      have Fa:=hfr.trans (FrA.of_ext Ea)
      have Xa:=Xt er Ea
      refine (jdo_cmd hJa Xa hcx.1 hcx.2 (by omega) (by omega) (by omega) (by have:=Ea.size;omega) HJK.out.2.1 HJK.out.2.2.1 HJK.out.2.2.2 HJK.out.1.hs).mono ?_
      rintro e wb ⟨vb',q',p',m',pb',g',ev',rfl,fb,sb,hJb,hqb,hvb⟩
      rw [HJN.out] at hJb
      have h0b:=h0a.trans (fb.kp (S:=SS) (fun x hx=>(HSS.out x).1 (by rcases hx with h | h | h<;>simp [h])))
      refine ⟨_,rfl,h0b,?_⟩
      have hOb:=hOa.overJ hJa fb (by omega)
      have hMb:=hMa.overJ hJa fb (by omega)
      have ta:=Ea.size
      have tb:=fb.size
      have Xb:=FrA.ext0 Xa fb (fun x hx=>by
       rcases hx with rfl | rfl | hx
       ·omega
       ·omega
       have:=(hJa.own.lt x hx).1
       omega)
      have Fb:FrA (fun x=>x=jb\/x=q0\/ev0.ownBlock=some x) w6 wb:=by
       refine Zu Fa (fb.kp (S:=SS.filter (fun x=>x≠qo)) (fun x hx=> ?_)) (fun x hx=> ?_)
       ·refine List.mem_filter.2 ⟨(HSS.out x).1 (by rcases hx with h | h | h<;>simp [h]),?_⟩
        have:x≠qo:=by
         rintro rfl
         rcases hx with h | h | h
         ·exact hJa.row.ne_q hOa h.symm
         ·exact hne h.symm
         exact hOa.ne_ev hJa.own h
        simpa using this
       have h2:=List.mem_filter.1 hx
       have h3:x≠qo:=by simpa using h2.2
       rcases (HSS.out x).2 h2.1 with h | h | h | h
       ·exact .inl (.inl h)
       ·rcases heq with heq | heq
        ·exact .inl (.inr (.inl (h.trans heq)))
        exact .inr (by omega)
       ·rcases hev with hev | ⟨y,hev,hy⟩
        ·exact .inl (.inr (.inr (hev▸h)))
        rw [hev] at h
        simp only [Option.some.injEq] at h
        exact .inr (by omega)
       exact absurd h h3
      refine RgK.Z0 11 17 _ #[.pointer (some ⟨qo,0,none⟩),.agg #[vx]] _ (by rfl) _ _ (by rfl) Tryz.func17 rfl rfl (by kernel_rfl) (by rfl) (by kernel_rfl) (by decide) ?_
      intro wc h0c hc
      have hOc:=hOb.ext hc
      have hMc:=hMb.ext hc
      have hJc:=hJb.ext hc
      have Xc:=Xt Xb hc
      have tc:=hc.size
      refine (Zar qo po mo pbo go' Jk.L Jk.B sx vx wc hOc (hcx.ext Xc).1 (fun s hs=>Zf5 s (hcx.2 s hs))).mono ?_
      rintro e wd ⟨vd,po',mo',pbo',go2,rfl,fd,sd,hOd⟩
      have h0d:=h0c.trans (fd.kp (S:=SS) (fun x (hx:x=qo)=>(HSS.out x).1 (by simp [hx])))
      refine ⟨_,rfl,h0d,?_⟩
      rw [<-HHS.out.1,<-HHS.out.2.1] at hOd
      have qlt:=Zd hOa.row
      have hqo':qo≠q':=by rcases hqb with h | h<;>omega
      have hJd:=hJc.overM hOc fd hqo'
      have hMd:=hMc.fraq hOc.row fd hqmo
      have sbd:=(sb.ext hc).fra2 fd (fun x (hx:x=qo)=>by omega)
      have Xd:=FrA.ext0 Xc fd (fun x (hx:x=qo)=>by have:=HQ.out.2;omega)
      have Fd:=Zu (Fb.trans (FrA.of_ext hc)) (fd.kp (S:=[qo]) (fun x (hx:x=qo)=>by simp [hx])) (fun x hx=>.inr (by have:=HQ.out.2;simp at hx;omega))
      have td:=fd.size
      have hq6:q'=q0\/w6.heap.size<=q':=by
       rcases hqb with h | h
       ·rw [h];exact heq
       exact .inr (by omega)
      have hv6:ev'.ownBlock=ev0.ownBlock\/∃x,ev'.ownBlock=some x/\w6.heap.size<=x:=by
       rcases hvb with h | ⟨y,h,hy⟩
       ·rw [h];exact hev
       exact .inr ⟨y,h,by omega⟩
      clear h0a ha hx1 h0b h0c hc hw1 fb fd hJ hO hM hJa hOa hMa hOb hMb hJb hOc hMc hJc sb Ea Fa Fb Xa Xb Xc hqb hvb hev heq ta tb tc td
      refine RgK.Z0 12 40 _ #[.agg #[.int .i64 (Z4 sx Jk.L Jk.B).1.1,.int .i64 (Z4 sx Jk.L Jk.B).1.2.1,vb'],.agg #[.int .i64 (Z4 sx Jk.L Jk.B).1.1,.int .i64 (Z4 sx Jk.L Jk.B).1.2.1,vd]] _ (by rfl) _ _ (by rfl) Tryz.func40 rfl rfl (by kernel_rfl) (by rfl) (by kernel_rfl) (by decide) ?_
      intro we h0e he
      refine (Zgx wa.heap.size wc.heap.size vb' vd _ _ _ we (sbd.ext he) (sd.ext he)).mono ?_
      rintro e wf ⟨rfl,ef⟩
      have h0f:=h0e.trans (Kx ef)
      refine ⟨_,rfl,h0f,?_⟩
      have Edf:=Xt he ef
      clear sbd sd h0e he ef h0d
      refine RgK.Zi4 13 _ (.bool false) rfl (by kernel_rfl) (by kernel_rfl) (by decide) (fun w' _=>by kernel_rfl) ?_
      intro wf2 h0f2 ef2
      have Edf:=Xt Edf ef2
      refine RgK.Zd4 Zl 14 [16,19,20,21,22,23,24,25,26] (by kernel_rfl) (by kernel_rfl) h0f2 ?_
      intro w1 hw1
      simp only [Act.put,Rg.puC,Rg.puB]
      simp only [Zj,Rg.hsB,Nat.reduceBEq,Nat.reduceAdd,↓reduceIte]
      repeat (go_big_quiet_step ((fail)))
      refine wpQuiet_nil ?_
      intro hx2
      have Ed1:=Xt Edf hx2
      clear hx2 hw1 Edf h0f h0f2 ef2
      refine RgK.Zd3 16 42 _ #[.pointer (some ⟨jb,0,none⟩)] _ (by rfl) _ _ (by rfl) Tryz.func42 rfl rfl (by kernel_rfl) (by rfl) (by kernel_rfl) (by decide) ?_
      intro wg h0g hg
      have Edg:=Xt Ed1 hg
      have hmn:=Zl7 wg jb _ _ _ _ _ (hJd.ext Edg).row
      rw [HMK.out] at hmn
      refine hmn.mono ?_
      rintro e wh ⟨rfl,eh⟩
      have h0h:=h0g.trans (Kx eh)
      refine ⟨_,rfl,h0h,?_⟩
      have Edh:=Xt Edg eh
      clear hmn h0g hg eh Edg Ed1
      refine RgK.Zi4 19 _ (.bool false) rfl (by kernel_rfl) (by kernel_rfl) (by decide) (fun w' _=>by go_simp) ?_
      intro wh2 h0h2 eh2
      refine RgK.Zi4 20 _ (.bool false) rfl (by kernel_rfl) (by kernel_rfl) (by decide) (fun w' _=>by kernel_rfl) ?_
      intro wh3 h0h3 eh3
      have Edh:=Xt Edh (Xt eh2 eh3)
      refine RgK.Zd4 Zl 21 [23,25,26] (by kernel_rfl) (by kernel_rfl) h0h3 ?_
      intro w1 hw1
      simp only [Act.put,Rg.puC,Rg.puB]
      simp only [Zj,Rg.hsB,Nat.reduceBEq,Nat.reduceAdd,↓reduceIte]
      repeat (go_big_quiet_step ((fail)))
      refine wpQuiet_nil ?_
      intro hx3
      have Ed3:=Xt Edh hx3
      clear hx3 hw1 Edh h0h h0h2 h0h3 eh2 eh3
      refine RgK.Zd3 23 38 _ #[.pointer (some ⟨jb,0,none⟩)] _ (by rfl) _ _ (by rfl) Tryz.func38 rfl rfl (by kernel_rfl) (by rfl) (by kernel_rfl) (by decide) ?_
      intro wi h0i hi
      refine (Zkc N jb q' p' m' pb' g' ev' J' wi (hJd.ext (Xt Ed3 hi))).mono ?_
      rintro e wj ⟨vj,rfl,ej,stj⟩
      have h0j:=h0i.trans (Kx ej)
      refine ⟨_,rfl,h0j,?_⟩
      have Edj:=Xt (Xt Ed3 hi) ej
      clear h0i hi ej Ed3
      refine RgK.Zd3 25 18 _ #[.pointer (some ⟨qo,0,none⟩)] _ (by rfl) _ _ (by rfl) Tryz.func18 rfl rfl (by kernel_rfl) (by rfl) (by kernel_rfl) (by decide) ?_
      intro wk h0k hk2
      refine (Jr qo po' mo' pbo' go2 J'.L J'.B wk (hOd.ext (Xt Edj hk2))).mono ?_
      rintro e wl ⟨vl,rfl,el,stl⟩
      have h0l:=h0k.trans (Kx el)
      refine ⟨_,rfl,h0l,?_⟩
      have stj':=stj.ext (Xt hk2 el)
      have Edl:=Xt (Xt Edj hk2) el
      clear h0k hk2 el Edj stj h0j
      refine RgK.Zd3 26 20 _ #[vj,vl] _ (by rfl) _ _ (by rfl) Tryz.func20 rfl rfl (by kernel_rfl) (by rfl) (by kernel_rfl) (by decide) ?_
      intro wm h0m hm
      refine (Zj4 _ _ vj vl J'.L J'.B wm (stj'.ext hm) (stl.ext hm)).mono ?_
      rintro e wn ⟨rfl,en⟩
      refine ⟨_,rfl,h0m.trans (Kx en),?_⟩
      have Edn:=Xt (Xt Edl hm) en
      refine RgK.Zi (by kernel_rfl) ?_
      intro wo eo eo'
      simp only [Act.put,Rg.puB]
      have Edo:=Xt Edn eo'
      clear h0m hm en eo eo' Edn Edl stj' stl h0l
      go_wp2_with fail
      refine ⟨⟨k+1,by omega,by go_num,q',p',m',pb',g',ev',po',mo',pbo',go2,pm,mm,pbm,gm,?_⟩,by simp [intOf];omega⟩
      rw [HJT.out]
      exact ⟨hJd.ext Edo,hOd.ext Edo,hMd.ext Edo,hq6,hv6,fun h=>hqo' h.symm,Fd.trans (FrA.of_ext Edo),Xt Xd Edo⟩
     have hk':k=more.length:=by omega
     subst hk'
     have h6r:=hfr.at h6 (fun hx=>by
      rcases hx with h | h | h
      ·omega
      ·omega
      have:=v3l _ h
      omega)
     have STr:=Lib.hid (ST6.out.fra2 hfr (fun x hx=>by
      rcases hx with h | h | h
      ·left;omega
      ·left;omega
      have:=v3l _ h
      left;omega))
     clear r4 hkn hJ hO
     go_wp2_with fail
     refine Yo Zl [1,3,4,5,6,7] (by kernel_rfl) (by kernel_rfl) ?_
     intro w1 hw1
     have ldw:∀wq,Cls w1 wq->(loadVar 47 ⟨w4.heap.size,0,none⟩).run Tryz.prog wq= .ok (.agg #[.slice A1 (Zw L).length k1,.slice A2 (Yk L.lines).length k2,.slice A3 B.offs.length k3,.int .u64 B.next]) wq:=by
      rintro _ ⟨u,rfl⟩
      exact run_loadVar_row u.to w4.heap.size _ _ _ _ _ ((Xt hw1 u.h).at h6r) Tryz.underlying47 rfl (by kernel_rfl)
     simp only [Zj,Rg.hsB,Nat.reduceBEq,Nat.reduceAdd,↓reduceIte]
     repeat (first | go_big_quiet_step (fail) | (go_big_quiet_want;(refine Z5 47 _ _ _ rfl rfl ldw ?_);go_big_quiet_on;simp only [Act.put,Rg.puB]))
     refine wpQuiet_nil ?_
     clear ldw
     refine Z0 1 18 _ #[.pointer (some ⟨qm,0,none⟩)] _ (by rfl) _ _ (by rfl) Tryz.func18 rfl rfl (by kernel_rfl) (by rfl) (by kernel_rfl) (by decide) ?_
     intro w20 h020 h20
     refine (Jr qm _ _ _ _ _ _ w20 (hM.ext h020)).mono ?_
     rintro e w21 ⟨v21,rfl,e21,st21⟩
     have h021:=Xt h020 e21
     refine ⟨_,rfl,h021,?_⟩
     have hlk:=fun W (hW:Ext w21 W)=>Zj4 _ _ v21 _ L B W (st21.ext hW) (STr.out.ext (Xt h021 hW))
     refine Zer Zl 3 [] 0 (by kernel_rfl) h021 ?_
     intro w1 hw1
     simp only [Act.put,Rg.puC,Rg.puB]
     have hlku:=fun u:ExtOf w1=>hlk u.to (Xt hw1 u.h)
     have hlv:=fun u:ExtOf w1=>Ur u.to
     clear hlk
     simp only [Zj,Rg.hsB,Nat.reduceAdd,↓reduceIte]
     repeat (go_big_quiet_step ((first | (go_at_call 20;exact Ret.cls (hlku _)) | (go_at_call 31;exact Ret.cls (hlv _)))))
     refine wpQuiet_nil ?_
     refine Vr (by kernel_rfl) ?_
     intro w22 e22 e22'
     try simp only [Act.put,Rg.puC,Rg.puB]
     clear hlku hlv hw1
     go_wp2_with fail
     go_ret
     exact ⟨rfl,Xt er (Xt h021 e22)⟩
end Go.Proofs.YtipjchbdogmccaaGreat
