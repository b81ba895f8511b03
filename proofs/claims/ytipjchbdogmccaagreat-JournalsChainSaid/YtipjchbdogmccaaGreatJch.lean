/- JournalsChain: an account's entries are a chain; walked. Journals, plain: an account's chain, place by place; how far sums and positions go. -/
import Derived.Test.YtipjchbdogmccaaGreatJl
namespace Go.Proofs.YtipjchbdogmccaaGreat
open Go.RowKit
def chG:Int->List En->Nat->Int
 | a,_,0=>a
 | a,[],_+1=>a
 | _,e::l,k+1=>chG e.sm l k
theorem chG_zero (a:Int) (l:List En):chG a l 0=a:=by cases l<;>rfl
theorem Ch.at:∀{l:List En} {a b:Int},Ch l a b->∀(k:Nat) (hk:k<l.length),(l[k]'hk).sm=chG a l k+(l[k]'hk).n/\chG a l (k+1)=(l[k]'hk).sm
 | [],_,_,_,k,hk=>absurd hk (by simp)
 | e::l,a,b,h,0,_=>by
   refine ⟨h.1,?_⟩
   show chG e.sm l 0=e.sm
   cases l<;>rfl
 | e::l,a,b,h,k+1,hk=>by
   have h2:=Ch.at h.2 k (by simpa using hk)
   exact h2
theorem Ch.fin:∀{l:List En} {a b:Int},Ch l a b->chG a l l.length=b
 | [],_,_,h=>h
 | _e::l,_a,_b,h=>Ch.fin (l:=l) h.2
def SmB (e:En):Prop:=-140737488355328<=e.sm/\e.sm<=140737488355328
theorem cmdE_bd:∀(l:List Stp) (no i:Int) (L:Led) (B:Bk),HsOk L B->∀e∈Zb7 no l i L B,SmB e
 | [],_,_,_,_,_,e,he=>by simp [Zb7] at he
 | s::l,no,i,L,B,h,e,he=>by
   rw [Zb7] at he
   rcases List.mem_append.1 he with he | he
   ·have h1:=(Zmj he).2.2.2.2.2.1
    have h2:=Zm6 (h.step s).ok.wf e.pa e.cu
    unfold SmB
    omega
   exact cmdE_bd l no (i+1) _ _ (h.step s) e he
theorem jrun_bd:∀(cs:List (List Stp)) (J:Jn),HsOk J.L J.B->(∀e∈J.es,SmB e)->∀e∈(Y6 cs J).es,SmB e
 | [],_,_,h=>h
 | l::cs,J,hh,h=>by
   have h1:=Jz l J
   refine jrun_bd cs (jdo l J) ?_ ?_
   ·rw [h1.1,h1.2.1]
    exact Zf9 hh l
   unfold jdo
   split
   ·exact h
   intro e he
   rcases List.mem_append.1 he with he | he
   ·exact h e he
   exact cmdE_bd l _ _ _ _ hh e he
theorem Zkz {es:List En} {p c:Int} {e:En} (h:e∈Vk es p c):e∈es/\e.pa=p/\e.cu=c:=by
 have h1:=List.mem_filter.1 h
 have h2:=h1.2
 simp only [Bool.and_eq_true,beq_iff_eq] at h2
 exact ⟨h1.1,h2⟩
theorem accR_le (es:List En) (p c:Int):(Vk es p c).length<=es.length:=List.length_filter_le _ _
open Go.RowKit Go.Rg Go.BigFrame
structure ChI (w w0:World) (N jb q p m pb:Nat) (g:Option Nat) (ev:Value) (J:Jn) (qm pm mm pbm:Nat) (gm:Option Nat) (L:Led) (B:Bk) (W:World):Prop where
 hJ:IsJ W N jb q p m pb g ev J
 hM:IsM W qm pm mm pbm gm L B
 fr:FrA (fun x=>x=qm) w0 W
 be:Ext w W
theorem ChI.step {w w0 W W':World} {N jb q p m pb:Nat} {g:Option Nat} {ev:Value} {J:Jn} {qm pm mm pbm:Nat} {gm:Option Nat} {L:Led} {B:Bk} (h:ChI w w0 N jb q p m pb g ev J qm pm mm pbm gm L B W) {pm' mm' pbm':Nat} {gm':Option Nat} {L':Led} {B':Bk}
 (f:FrA (fun x=>x=qm) W W') (hM:IsM W' qm pm' mm' pbm' gm' L' B') (hne:qm≠q) (hq:w.heap.size<=qm):ChI w w0 N jb q p m pb g ev J qm pm' mm' pbm' gm' L' B' W':=
 ⟨h.hJ.overM h.hM f hne,hM,h.fr.trans f,FrA.ext0 h.be f (fun x (hx:x=qm)=>by omega)⟩
theorem ChI.ext {w w0 W W':World} {N jb q p m pb:Nat} {g:Option Nat} {ev:Value} {J:Jn} {qm pm mm pbm:Nat} {gm:Option Nat} {L:Led} {B:Bk} (h:ChI w w0 N jb q p m pb g ev J qm pm mm pbm gm L B W) (k:Ext W W'):ChI w w0 N jb q p m pb g ev J qm pm mm pbm gm L B W':=
 ⟨h.hJ.ext k,h.hM.ext k,h.fr.trans (FrA.of_ext k),Xt h.be k⟩
set_option maxRecDepth 100000 in
set_option maxHeartbeats 25600000 in
theorem Zr9 (va vb:Value) (xp xc xa:Int) (l more:List Cmd) (w:World) (ha:Vn w 1 va l.length (l.flatMap Cmd.cells)) (hla:∀x∈l,Zcb w x) (hb:Vn w 1 vb more.length (more.flatMap Cmd.cells)) (hlb:∀x∈more,Zcb w x)
 (hp0:0<=xp) (hp1:xp<=255) (hc0:0<=xc) (hc1:xc<=255) (_hx0: -9223372036854775808<=xa) (_hx1:xa<=9223372036854775807):
 Calls Tryz.prog 7 #[va,vb,.agg #[.int .u8 xp,.int .u8 xc,.int .i64 xa]] w (Ret (.bool true) w):=by
 have hgr:=fun W (k:Ext w W)=>Zco va l W (ha.ext k) (fun x hx=>(hla x hx).ext k)
 have hgs:=fun W (k:Ext w W)=>Zco vb more W (hb.ext k) (fun x hx=>(hlb x hx).ext k)
 have hkp:=fun W (k:Ext w W) (hm)=>Zl8 va vb l more W (ha.ext k) (fun x hx=>(hla x hx).ext k) (hb.ext k) (fun x hx=>(hlb x hx).ext k) hm
 obtain ⟨A,cap,rfl,q1,q2,q3,q4⟩:=ha
 obtain ⟨A',cap',rfl,r1,r2,r3,r4⟩:=hb
 have hm63:(more.length:Int)<=9223372036854775807:=by unfold maxLen at r2;omega
 have HLB:=Lib.hid hlb
 have h0:=Zb w (.cells #[.int .u8 xp,.int .u8 xc,.int .i64 xa] 88)
 have e0:=Zc w (.cells #[.int .u8 xp,.int .u8 xc,.int .i64 xa] 88)
 clear hla hlb q3 r3 q4
 go_enter Tryz.func7,Tryz.ntmps7
 go_wp2_with fail
 refine (hgr _ e0).mono ?_
 rintro e w1 ⟨⟨bg,rfl,_⟩,e1⟩
 have h1:=e1.at h0
 have E1:=Xt e0 e1
 clear hgr h0 e0 e1
 cases bg
 focus
  go_wp2_with fail
  refine (hgs w1 E1).mono ?_
  rintro e w2 ⟨⟨bh,rfl,hm⟩,e2⟩
  have E2:=Xt E1 e2
  have h2:=e2.at h1
  clear hgs E1 e2 h1
  cases bh
  focus
   have hm60:=hm rfl
   clear hm
   go_wp2_with fail
   refine (hkp w2 E2 hm60).mono ?_
   rintro e w3 ⟨jb,q,p,m,pb,g,ev,qm,pm,mm,pbm,gm,L,B,N,rfl,e3,hh,hJ3,hM3,b1,b2,b3,b4,b5⟩
   have h3:=e3.at h2
   have s2:=E2.size
   have I3:ChI w w3 N jb q p m pb g ev (Y6 (more.map Prod.snd) (Y0 L B)) qm pm mm pbm gm L B w3:=⟨hJ3,hM3,FrA.of_ext (Ext.refl _),Xt E2 e3⟩
   have x0:w3.cell? ⟨w.heap.size,0,none⟩=_:=Za (j:=0) h3 rfl
   have x1:w3.cell? ⟨w.heap.size,1,none⟩=_:=Za (j:=1) h3 rfl
   have x2:w3.cell? ⟨w.heap.size,2,none⟩=_:=Za (j:=2) h3 rfl
   have HH:=Lib.hid hh
   have hqq:qm≠q:=by omega
   have hqw:w.heap.size<=qm:=by omega
   have HB:=Lib.hid (show qm<N/\N<=jb/\N<=q/\N<=w3.heap.size from ⟨b2,b3,b4,b5⟩)
   have hjk:=Zpr hh.hs (more.map Prod.snd) (by rw [List.length_map];exact hm60)
   have hbd:=jrun_bd (more.map Prod.snd) (Y0 L B) hh.hs (fun e he=>by simp [Y0] at he)
   have hmn63:(more.length:Int)<=60:=by omega
   clear hkp e3 E2 hJ3 hM3 h2 h3 b1 b2 b3 b4 b5 s2 hh
   go_wp2_with fail
   obtain ⟨PA,hPA⟩:∃PA,1+xp%16=PA:=⟨_,rfl⟩
   obtain ⟨CU,hCU⟩:∃CU,1+xc%8=CU:=⟨_,rfl⟩
   obtain ⟨at0,hat,hAT⟩:∃at0:Nat,at0<=more.length/\wrap64 ((IntKind.u64.wrap xa).tmod ((more.length:Int)+1))=(at0:Int):=by
    have h0:0<=IntKind.u64.wrap xa:=Int.emod_nonneg _ (by decide)
    generalize IntKind.u64.wrap xa=y at h0
    have h1:=Int.emod_nonneg y (show ((more.length:Int)+1)≠0 by omega)
    have h2:=Int.emod_lt_of_pos y (show 0<((more.length:Int)+1) by omega)
    have h3:wrap64 (y%((more.length:Int)+1))=y%((more.length:Int)+1):=by unfold wrap64;omega
    rw [Int.tmod_eq_emod_of_nonneg h0,h3]
    exact ⟨(y%((more.length:Int)+1)).toNat,by omega,by omega⟩
   rw [hPA,hCU,hAT]
   have hacc:Zaj PA CU=true:=by unfold Zaj;rw [decide_eq_true_eq];omega
   have hat1:(at0:Int)<=9223372036854775807:=by omega
   clear hPA hCU hAT
   clear x0 x1 x2
   have hlow:=fun u hu=>stood_low HH.out.hs (more.map Prod.snd) (u:=u) hacc hu
   have hhigh:=fun u hu=>Zq2 HH.out.hs (more.map Prod.snd) (u:=u) hacc hu
   have hsat:=stood_at HH.out.hs (more.map Prod.snd) at0 (by rw [List.length_map];exact hat) hacc
   have hch:=Znx hacc (more.map Prod.snd) (J:=Y0 L B) (show Ch [] _ _ from rfl)
   rw [Jy] at hch
   have hch:Ch (Vk (Y6 (more.map Prod.snd) (Y0 L B)).es PA CU) (Ya L PA CU) (Ya (Y6 (more.map Prod.snd) (Y0 L B)).L PA CU):=hch
   unfold Ze9 at hlow hhigh hsat
   generalize hJe:Y6 (more.map Prod.snd) (Y0 L B)=J at *
   have HJe:=Lib.hid hJe
   clear hJe
   have hEm:∀e∈Vk J.es PA CU,e.pa=PA/\e.cu=CU/\SmB e:=fun e he=>⟨(Zkz he).2.1,(Zkz he).2.2,hbd e (Zkz he).1⟩
   have hEl:(Vk J.es PA CU).length<=900000:=Nat.le_trans (accR_le _ _ _) hjk.2.1
   have hlen:=hjk.2.1
   clear hbd hjk
   refine (Zpt w3 jb _ _ _ _ _ J.es PA CU I3.hJ.row I3.hJ.arg (by omega)).mono ?_
   rintro e w4 ⟨v4,rfl,e4,sl4⟩
   have I4:ChI w w4 N jb q p m pb g ev J qm pm mm pbm gm L B w4:=⟨I3.hJ.ext e4,I3.hM.ext e4,FrA.of_ext (Ext.refl _),Xt I3.be e4⟩
   have s34:=e4.size
   obtain ⟨A4,c4,rfl,k1,k2,k3,k4⟩:=sl4
   obtain ⟨E,hE⟩:∃E,Vk J.es PA CU=E:=⟨_,rfl⟩
   obtain ⟨z0,hz0⟩:∃z0,Ya L PA CU=z0:=⟨_,rfl⟩
   obtain ⟨zE,hzE⟩:∃zE,Ya J.L PA CU=zE:=⟨_,rfl⟩
   rw [hE] at hch hEm hEl k1 k3 k4 ⊢
   rw [hz0,hzE] at hch
   have HLOW:=Lib.hid (fun u hu=>(hlow u hu).trans hz0)
   have HHIGH:=Lib.hid (fun u hu=>(hhigh u hu).trans hzE)
   have HSAT:=Lib.hid hsat
   have HZ0:=Lib.hid hz0
   have HZE:=Lib.hid hzE
   have hEn63:(E.length:Int)<=9223372036854775807:=by omega
   clear e4 I3 k3 hE hlow hhigh hsat hz0 hzE
   go_wp2_with fail
   have hsd:=Zcd qm pm mm pbm gm L B PA CU w4 I4.hM
   rw [HZ0.out] at hsd
   refine hsd.mono ?_
   rintro e w5 ⟨pm5,mm5,pbm5,gm5,rfl,f5,hM5⟩
   have I5:=I4.step f5 hM5 hqq hqw
   clear hsd f5 hM5 I4
   go_wp2_with fail
   have hso:=fun W (hj:IsJ W N jb q p m pb g ev J) (u:Int)=>Zcm W jb _ _ _ _ _ J.es PA CU u hj.row hj.arg
   have hs1:=hso w5 I5.hJ (-1)
   rw [HLOW.out (-1) (by omega)] at hs1
   refine hs1.mono ?_
   rintro e w6 ⟨rfl,e6⟩
   have I6:=I5.ext e6
   clear hs1 e6 I5
   go_wp2_with fail
   have hs2:=hso w6 I6.hJ 0
   rw [HLOW.out 0 (by omega)] at hs2
   refine hs2.mono ?_
   rintro e w7 ⟨rfl,e7⟩
   have I7:=I6.ext e7
   clear hs2 e7 I6
   have HSO:=Lib.hid hso
   have HEM:=Lib.hid hEm
   have HCH:=Lib.hid hch
   clear hso hEm hch
   go_wp2_with fail
   go_loopw [6,13,14] (fun _ nv iv wr=>∃k:Nat,k<=E.length/\iv= .int .i64 k/\nv= .int .i64 (chG z0 E k)/\Ext w7 wr) (fun _ _ iv _=>E.length-(intOf iv).toNat)
   case atStart=>exact ⟨0,Nat.zero_le _,rfl,by rw [chG_zero],Ext.refl _⟩
   obtain ⟨k,hk,rfl,rfl,er⟩:=hrel
   by_cases hkn:k<E.length
   ·rcases k4 with k4 | ⟨g4,rfl,hb4,hlt4,hc4⟩
    ·omega
    have hj1:(0:Int)<=(k:Int):=by omega
    have hj2:(k:Int)<(E.length:Int):=by omega
    have hfr:=I7.fr.trans (FrA.of_ext er)
    have hcl:∀(j:Nat) (hj:j<7) u,(E[k]'hkn).cells[j]? =some u->wr.cell? ⟨g4,k*7+j,none⟩=some u:=fun j hj u hu=>(Zh (a:=⟨g4,k*7+j,none⟩) (hfr.block g4 hlt4 (fun (h:g4=qm)=>by have:=HB.out;omega))).trans (hc4 _ _ ((Zcp E k j hkn hj).trans hu))
    have hC:=HCH.out.at k hkn
    have hm:=HEM.out _ (List.getElem_mem hkn)
    generalize (E[k]'hkn)=x at *
    obtain ⟨no,st,kd,pa,cu,nn,sm⟩:=x
    obtain ⟨rfl,rfl,hsb⟩:=hm
    unfold SmB at hsb
    simp only at hC hsb
    have d3:=hcl 3 (by omega) _ rfl
    have d4:=hcl 4 (by omega) _ rfl
    have d5:=hcl 5 (by omega) _ rfl
    have d6:=hcl 6 (by omega) _ rfl
    obtain ⟨zk,hzk⟩:∃zk,chG z0 E k=zk:=⟨_,rfl⟩
    rw [hzk] at hC ⊢
    have bs1: -9223372036854775808<=zk+nn:=by omega
    have bs2:zk+nn<=9223372036854775807:=by omega
    have f1:(sm !=zk+nn)=false:=by rw [hC.1];simp
    have HC:=Lib.hid hC
    clear hcl hfr hC hsb hzk
    go_wp2_with fail
    exact ⟨⟨k+1,by omega,by go_num,by rw [HC.out.2,HC.out.1],er⟩,by simp [intOf];omega⟩
   focus
    have hk':k=E.length:=by omega
    subst hk'
    have I8:=I7.ext er
    rw [HCH.out.fin]
    clear k4 I7 er hkn
    go_wp2_with fail
    go_loopw [15] (fun iv wr=>∃k:Nat,k<=at0/\iv= .int .i64 k/\∃pm mm pbm gm,ChI w w4 N jb q p m pb g ev J qm pm mm pbm gm (Y6 ((more.map Prod.snd).take k) (Y0 L B)).L (Y6 ((more.map Prod.snd).take k) (Y0 L B)).B wr) (fun iv _=>at0-(intOf iv).toNat)
    case atStart=>exact ⟨0,Nat.zero_le _,rfl,pm5,mm5,pbm5,gm5,I8⟩
    clear I8
    obtain ⟨k,hk,rfl,pmk,mmk,pbmk,gmk,I⟩:=hrel
    by_cases hkn:k<at0
    focus
     rcases r4 with r4 | ⟨ga,off,rfl,hlt,hcell⟩
     ·omega
     focus
      have hkm:k<more.length:=by omega
      have hj1:(0:Int)<=(k:Int):=by omega
      have hj2:(k:Int)<(at0:Int):=by omega
    rotate_left
    focus
     have hk':k=at0:=by omega
     subst hk'
     have hj3:(k:Int)<=(more.length:Int):=by omega
     go_wp2_with fail
     have hs3:=HSO.out wr I.hJ (k:Int)
     rw [HSAT.out] at hs3
     refine hs3.mono ?_
     rintro e w9 ⟨rfl,e9⟩
     have I9:=I.ext e9
     clear hs3 e9 I
     go_wp2_with fail
     refine (Zcd qm _ _ _ _ _ _ PA CU w9 I9.hM).mono ?_
     rintro e w10 ⟨pm10,mm10,pbm10,gm10,rfl,f10,hM10⟩
     have I10:=I9.step f10 hM10 hqq hqw
     generalize Ya (Y6 ((more.map Prod.snd).take k) (Y0 L B)).L PA CU=zz at *
     clear f10 hM10 I9
     go_wp2_with fail
     go_loopw [16] (fun iv wr=>∃k2:Nat,k2<=more.length/\iv= .int .i64 k2/\∃pm mm pbm gm,ChI w w4 N jb q p m pb g ev J qm pm mm pbm gm (Y6 ((more.map Prod.snd).take k2) (Y0 L B)).L (Y6 ((more.map Prod.snd).take k2) (Y0 L B)).B wr) (fun iv _=>more.length-(intOf iv).toNat)
     case atStart=>exact ⟨k,hat,rfl,pm10,mm10,pbm10,gm10,I10⟩
     clear I10 hkn
     obtain ⟨k,hk,rfl,pmk,mmk,pbmk,gmk,I⟩:=hrel
     by_cases hkm:k<more.length
     focus
      rcases r4 with r4 | ⟨ga,off,rfl,hlt,hcell⟩
      ·omega
      focus have hj1:(0:Int)<=(k:Int):=by omega
     rotate_left
     ·have hk':k=more.length:=by omega
      subst hk'
      rw [List.take_of_length_le (by rw [List.length_map];exact Nat.le_refl _),HJe.out] at I
      clear r4 hkm
      go_wp2_with fail
      have hsd:=Zcd qm _ _ _ _ _ _ PA CU wr I.hM
      rw [HZE.out] at hsd
      refine hsd.mono ?_
      rintro e w11 ⟨pm11,mm11,pbm11,gm11,rfl,f11,hM11⟩
      have I11:=I.step f11 hM11 hqq hqw
      clear hsd f11 hM11 I
      go_wp2_with fail
      have hs4:=HSO.out w11 I11.hJ ((more.length:Int)+9)
      rw [HHIGH.out ((more.length:Int)+9) (by rw [List.length_map];omega)] at hs4
      refine hs4.mono ?_
      rintro e w12 ⟨rfl,e12⟩
      have I12:=I11.ext e12
      clear hs4 e12 I11
      go_wp2_with fail
      refine (Jr qm _ _ _ _ _ _ w12 I12.hM).mono ?_
      rintro e w13 ⟨v13,rfl,e13,st13⟩
      have I13:=I12.ext e13
      go_wp2_with fail
      refine (Zkc N jb q p m pb g ev J w13 I13.hJ).mono ?_
      rintro e w14 ⟨v14,rfl,e14,st14⟩
      go_wp2_with fail
      refine (Zj4 _ _ v13 v14 J.L J.B w14 (st13.ext e14) st14).mono ?_
      rintro e w15 ⟨rfl,e15⟩
      go_wp2_with fail
      refine (Ur _).mono ?_
      rintro e wz ⟨rfl,ez⟩
      go_wp2
      go_ret
      exact ⟨rfl,Xt I13.be (Xt e14 (Xt e15 ez))⟩
  rotate_left 2
  ·go_wp2_with fail
   refine (Ur _).mono ?_
   rintro e wz ⟨rfl,ez⟩
   go_wp2
   go_ret
   exact ⟨rfl,Xt E2 ez⟩
 rotate_left 2
 ·go_wp2_with fail
  refine (Ur _).mono ?_
  rintro e wz ⟨rfl,ez⟩
  go_wp2
  go_ret
  exact ⟨rfl,Xt E1 ez⟩
 all_goals
  have hj3:(k:Int)<(more.length:Int):=by omega
  have hld:=Zf2 ((Zh (I.be.block hlt)).trans (hcell k _ (Zae more k hkm)))
  have hcx:=(HLB.out _ (List.getElem_mem hkm)).ext I.be
  have hjt:=Zhb (more.map Prod.snd) (Y0 L B) k (by rw [List.length_map];exact hkm)
  rw [List.getElem_map] at hjt
  generalize (more[k]'hkm)=x at *
  obtain ⟨vx,sx⟩:=x
  simp only at hld hjt
  have hjh:=Jz sx (Y6 ((more.map Prod.snd).take k) (Y0 L B))
  rw [<-hjt] at hjh
  have HNX:=Lib.hid (show _/\_ from ⟨hjh.1,hjh.2.1⟩)
  generalize Y6 ((more.map Prod.snd).take k) (Y0 L B)=Jk at *
  clear hcell hjt hjh
  go_wp2_with (refine Ze rfl 42 _ _ _ rfl rfl hld ?_)
  refine (Zar qm pmk mmk pbmk gmk Jk.L Jk.B sx vx wr I.hM hcx.1 (fun s hs=>Zf5 s (hcx.2 s hs))).mono ?_
  rintro e w20 ⟨v20,pm',mm',pbm',gm',rfl,f20,_,hM'⟩
  have I':=I.step f20 hM' hqq hqw
  clear hld
  go_wp2
  exact ⟨⟨k+1,by omega,by go_num,pm',mm',pbm',gm',by rw [HNX.out.1,HNX.out.2];exact I'⟩,by simp [intOf];omega⟩
end Go.Proofs.YtipjchbdogmccaaGreat
