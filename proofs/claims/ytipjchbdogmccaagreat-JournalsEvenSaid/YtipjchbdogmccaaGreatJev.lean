/- JournalsEven: entries stand in order, and come to 0 step by step; walked. Journals, plain: an account's chain, place by place; how far sums and positions go. -/
import Derived.Test.YtipjchbdogmccaaGreatJl

namespace Go.Proofs.YtipjchbdogmccaaGreat
open Go.RowKit
def chG:Int->List En->Nat->Int
 | a,_,0=>a
 | a,[],_+1=>a
 | _,e::l,k+1=>chG e.sm l k
theorem Ch.fin:∀{l:List En} {a b:Int},Ch l a b->chG a l l.length=b
 | [],_,_,h=>h
 | _e::l,_a,_b,h=>Ch.fin (l:=l) h.2
def Zg9 (es:List En) (k:Nat):List Value:=(List.range 9).map fun (c:Nat)=>.int .i64 (Zag (es.take k) (c:Int))
def Zhb (es:List En) (k:Nat):List Value:=(List.range 9).map fun (c:Nat)=>.int .i64 (Zaq (es.take k) (c:Int))
theorem Zbn (es:List En) (k c:Nat) (hc:c<9):(Zg9 es k)[c]? =some (.int .i64 (Zag (es.take k) (c:Int))):=by
 unfold Zg9
 rw [List.getElem?_map,List.getElem?_range hc]
 rfl
theorem Zjh (es:List En) (k c:Nat) (hc:c<9):(Zhb es k)[c]? =some (.int .i64 (Zaq (es.take k) (c:Int))):=by
 unfold Zhb
 rw [List.getElem?_map,List.getElem?_range hc]
 rfl
theorem Zpc (f g:Nat->Value) (c:Nat) (v:Value) (hc:c<9) (h:∀d,d≠c->g d=f d) (hv:g c=v):((List.range 9).map f).set c v=(List.range 9).map g:=by
 apply List.ext_getElem?
 intro i
 by_cases hi:i<9
 ·rw [List.getElem?_set,List.getElem?_map,List.getElem?_map,List.getElem?_range hi]
  by_cases he:c=i
  ·subst he
   rw [if_pos rfl]
   simp [hc,hv]
  rw [if_neg he]
  simp [h i (fun e=>he e.symm)]
 rw [List.getElem?_eq_none (by simp;omega),List.getElem?_eq_none (by simp;omega)]
theorem Zga (es:List En) (k:Nat) (hk:k<es.length) (c:Int):Zag (es.take (k+1)) c=Zag (es.take k) c+(if (es[k]'hk).cu=c then (es[k]'hk).n else 0):=by
 rw [List.take_succ_eq_append_getElem hk,Za6]
 congr 1
 unfold Zag
 simp [Yl,cuT]
theorem Zi0 (es:List En) (k:Nat) (hk:k<es.length) (c:Int):Zaq (es.take (k+1)) c=Zlj c (Zaq (es.take k) c) (es[k]'hk):=by
 unfold Zaq
 rw [List.take_succ_eq_append_getElem hk,List.foldl_append]
 rfl
theorem Zq7 (es:List En) (k:Nat) (hk:k<es.length) (c:Nat) (hc:c<9) (he:(es[k]'hk).cu=(c:Int)):(Zg9 es k).set c (.int .i64 (Zag (es.take k) (c:Int)+(es[k]'hk).n))=Zg9 es (k+1):=by
 refine Zpc _ _ c _ hc (fun d hd=> ?_) ?_
 ·simp only [Zga es k hk,he]
  rw [if_neg (by omega)]
  simp
 simp only [Zga es k hk,he]
 simp
theorem Zri (es:List En) (k:Nat) (hk:k<es.length) (c:Nat) (hc:c<9) (he:(es[k]'hk).cu=(c:Int)):(Zhb es k).set c (.int .i64 (wrap64 (Zaq (es.take k) (c:Int)+max 0 (es[k]'hk).n)))=Zhb es (k+1):=by
 refine Zpc _ _ c _ hc (fun d hd=> ?_) ?_
 ·simp only [Zi0 es k hk]
  unfold Zlj
  rw [if_neg (by omega)]
 simp only [Zi0 es k hk]
 unfold Zlj
 rw [if_pos he]
theorem up_next {es:List En} (h:es.Pairwise Zsv) (k:Nat) (hk:k+1<es.length):Zsv (es[k]'(by omega)) (es[k+1]'hk):=List.pairwise_iff_getElem.1 h k (k+1) (by omega) hk (by omega)
end Go.Proofs.YtipjchbdogmccaaGreat

namespace Go.Proofs.YtipjchbdogmccaaGreat
open Go.RowKit Go.Rg Go.BigFrame
theorem Zq6 (es:List En):Zg9 es 0=[.int .i64 0,.int .i64 0,.int .i64 0,.int .i64 0,.int .i64 0,.int .i64 0,.int .i64 0,.int .i64 0,.int .i64 0]:=by
 unfold Zg9
 simp only [List.take_zero]
 rfl
theorem Zrh (es:List En):Zhb es 0=[.int .i64 0,.int .i64 0,.int .i64 0,.int .i64 0,.int .i64 0,.int .i64 0,.int .i64 0,.int .i64 0,.int .i64 0]:=by
 unfold Zhb
 simp only [List.take_zero]
 rfl
structure EvI (w7:World) (b8 b9:Nat) (es:List En) (k:Nat) (W:World):Prop where
 s:W.heap[b8]? =some (.cells (Zg9 es k).toArray 82 (0,0))
 r:W.heap[b9]? =some (.cells (Zhb es k).toArray 82 (0,0))
 fr:Ext w7 W
theorem EvI.ext {w7 W W':World} {b8 b9:Nat} {es:List En} {k:Nat} (h:EvI w7 b8 b9 es k W) (e:Ext W W'):EvI w7 b8 b9 es k W':=⟨e.at h.s,e.at h.r,Xt h.fr e⟩
theorem arr_set {W:World} {b c:Nat} {l:List Value} {t:TypeId} (h:W.heap[b]? =some (.cells l.toArray t (0,0))) (v:Value):(W.setCell ⟨b,c,none⟩ v).heap[b]? =some (.cells (l.set c v).toArray t (0,0)):=by
 have h1:=heap_setCell_same W b c _ _ v h
 rw [List.setIfInBounds_toArray] at h1
 exact h1
theorem en_at {more:List Cmd} {e:En} (h:EnOk (more.map Prod.snd) e):∃(kk ii:Nat) (hk:kk<more.length) (hi:ii<(more[kk]'hk).2.length),e.no=(kk:Int)+1/\e.st=(ii:Int)/\(((more[kk]'hk).2)[ii]'hi).kd=e.kd:=by
 obtain ⟨kk,ii,l,s,h1,h2,h3,h4,h5⟩:=h.at_
 rw [List.getElem?_map,Option.map_eq_some_iff] at h3
 obtain ⟨c,h3,rfl⟩:=h3
 obtain ⟨hk,rfl⟩:=List.getElem?_eq_some_iff.1 h3
 obtain ⟨hi,rfl⟩:=List.getElem?_eq_some_iff.1 h4
 exact ⟨kk,ii,hk,hi,by omega,h2,h5⟩
set_option maxRecDepth 100000 in
set_option maxHeartbeats 51200000 in
theorem jeven_any (va vb:Value) (l more:List Cmd) (w:World) (ha:Vv w 1 va l.length (l.flatMap Cmd.cells)) (hla:∀x∈l,Zdo w x) (hb:Vv w 1 vb more.length (more.flatMap Cmd.cells)) (hlb:∀x∈more,Zdo w x):
 Calls Tryz.prog 6 #[va,vb] w (Ret (.bool true) w):=by
 have hgr:=Zkg va l w ha hla
 have hgs:=fun W (k:Ext w W)=>Zkg vb more W (hb.ext k) (fun x hx=>(hlb x hx).ext k)
 have hkp:=fun W (k:Ext w W) (hm)=>jkept_any va vb l more W (ha.ext k) (fun x hx=>(hla x hx).ext k) (hb.ext k) (fun x hx=>(hlb x hx).ext k) hm
 obtain ⟨A,cap,rfl,q1,q2,q3,q4⟩:=ha
 obtain ⟨A',cap',rfl,r1,r2,r3,r4⟩:=hb
 have hm63:(more.length:Int)<=9223372036854775807:=by unfold maxLen at r2;omega
 have HLB:=Lib.hid hlb
 clear hla hlb q3 r3 q4
 go_enter Tryz.func6,Tryz.ntmps6
 go_wp2_with fail
 refine hgr.mono ?_
 rintro e w1 ⟨⟨bg,rfl,_⟩,e1⟩
 clear hgr
 cases bg with
 | true=>
   go_wp2_with fail
   refine (Ze3 _).mono ?_
   rintro e wz ⟨rfl,ez⟩
   go_wp2
   go_ret
   exact ⟨rfl,Xt e1 ez⟩
 | false=>
   go_wp2_with fail
   refine (hgs w1 e1).mono ?_
   rintro e w2 ⟨⟨bh,rfl,hm⟩,e2⟩
   have E2:=Xt e1 e2
   clear hgs e1 e2
   cases bh with
   | true=>
     go_wp2_with fail
     refine (Ze3 _).mono ?_
     rintro e wz ⟨rfl,ez⟩
     go_wp2
     go_ret
     exact ⟨rfl,Xt E2 ez⟩
   | false=>
     have hm60:=hm rfl
     clear hm
     go_wp2_with fail
     refine (hkp w2 E2 hm60).mono ?_
     rintro e w3 ⟨jb,q,p,m,pb,g,ev,qm,pm,mm,pbm,gm,L,B,N,rfl,e3,hh,hJ3,_,_,_,_,_,_⟩
     have E3:=Xt E2 e3
     have hev:=jok_run (more.map Prod.snd) [] (Up L B) (jok_new (ran_keys hh))
     rw [List.nil_append] at hev
     have hjk:=jk_ok hh.hs (more.map Prod.snd) (by rw [List.length_map];exact hm60)
     generalize U4 (more.map Prod.snd) (Up L B)=J at *
     have hlen:=hjk.2.1
     have HEV:=Lib.hid hev.es
     clear hkp e3 E2 hh hjk hev
     go_wp2_with fail
     refine (jall_any w3 jb _ _ _ _ _ J.es hJ3.row hJ3.arg (by omega)).mono ?_
     rintro e w4 ⟨v4,rfl,e4,sl4⟩
     have hJ4:=hJ3.ext e4
     have E4:=Xt E3 e4
     obtain ⟨A4,c4,rfl,k1,k2,k3,k4⟩:=sl4
     have htn:=fun W (k:Ext w4 W) (c:Int)=>Zmd W jb _ _ _ _ _ J.es c (hJ4.ext k).row (hJ4.ext k).arg
     generalize J.es=es at *
     have HTN:=Lib.hid htn
     have hn63:(es.length:Int)<=9223372036854775807:=by omega
     clear hJ3 hJ4 e4 E3 htn k3
     go_wp2_with (first
      | (refine Zm rfl 82 rfl (.cells (Zg9 es 0).toArray 82) (some 8) rfl (by rw [Zq6];go_simp) ?_
         intro w5 e5 h5)
      | (refine Zm rfl 82 rfl (.cells (Zhb es 0).toArray 82) (some 9) rfl (by rw [Zrh];go_simp) ?_
         intro w6 e6 h6))
     have s45:=e5.size
     have l5:=Ze h5
     have I6:EvI w4 w4.heap.size w5.heap.size es 0 w6:=⟨e6.at h5,h6,Xt e5 e6⟩
     obtain ⟨b8,hb8⟩:∃b8,w4.heap.size=b8:=⟨_,rfl⟩
     obtain ⟨b9,hb9⟩:∃b9,w5.heap.size=b9:=⟨_,rfl⟩
     have HB:=Lib.hid (show w4.heap.size<=b8/\b8<b9 by omega)
     rw [hb8,hb9] at I6 ⊢
     clear h5 h6 e5 e6 s45 l5 hb8 hb9
     go_loopw [4,10,11,12,39,40,41,42,43,44,45,46,47,48,49,50,51,52,53,54,55,56,57,58,59,60,61,62,63,64,65,66,67,68,69,70,71,72,73,74,75,76,77,78,79,80,81,82,83,84,85,86,87,88,89,90,91,92,93,94,95,96,97,98,99,100,101,102,103,104,105,106,107,108,109,110,111,112,113,114,115,116,117,118,119,120,121,122,123,124,125,126,127,128,129,130,131,132,133,134,135,136,137,138,139,140,141,142,143,144,145,146,147,148,149,150,151,152,153,154,155,156,157,158,159,160,161,162,163,164,165,166,167,168,169,170,171,172,173,174,175,176,177,178,187,188,189,190,191,192,193,194,195,196,197,198,199,200,201,202,203,204,205,206,207,208,209,210,211,212,213,214,215,216,217,218,219,220,221,222,223,224,225,226,227,228,229,230,231,232,233,234,235,236,237,238,239,240,241,242,243,244,245,246,247,248,249,250,251,252,253,254,255,256,257,258,259,260,261,262,263,264] (fun _ iv _ _ _ _ _ _ _ _ _ _ _ _ _ _ _ _ _ _ _ _ _ _ _ _ _ _ _ _ _ _ _ _ _ _ _ _ _ _ _ _ _ _ _ _ _ _ _ _ _ _ _ _ _ _ _ _ _ _ _ _ _ _ _ _ _ _ _ _ _ _ _ _ _ _ _ _ _ _ _ _ _ _ _ _ _ _ _ _ _ _ _ _ _ _ _ _ _ _ _ _ _ _ _ _ _ _ _ _ _ _ _ _ _ _ _ _ _ _ _ _ _ _ _ _ _ _ _ _ _ _ _ _ _ _ _ _ _ _ _ _ _ _ _ _ _ _ _ _ _ _ _ _ _ _ _ _ _ _ _ _ _ _ _ _ _ _ _ _ _ _ _ _ _ _ _ _ _ _ _ _ _ _ _ _ _ _ _ _ _ _ _ _ _ _ _ _ _ _ _ _ _ _ _ _ _ _ _ _ _ _ _ _ _ _ _ _ _ _ _ _ wr=>∃k:Nat,k<=es.length/\iv= .int .i64 k/\EvI w4 b8 b9 es k wr) (fun _ iv _ _ _ _ _ _ _ _ _ _ _ _ _ _ _ _ _ _ _ _ _ _ _ _ _ _ _ _ _ _ _ _ _ _ _ _ _ _ _ _ _ _ _ _ _ _ _ _ _ _ _ _ _ _ _ _ _ _ _ _ _ _ _ _ _ _ _ _ _ _ _ _ _ _ _ _ _ _ _ _ _ _ _ _ _ _ _ _ _ _ _ _ _ _ _ _ _ _ _ _ _ _ _ _ _ _ _ _ _ _ _ _ _ _ _ _ _ _ _ _ _ _ _ _ _ _ _ _ _ _ _ _ _ _ _ _ _ _ _ _ _ _ _ _ _ _ _ _ _ _ _ _ _ _ _ _ _ _ _ _ _ _ _ _ _ _ _ _ _ _ _ _ _ _ _ _ _ _ _ _ _ _ _ _ _ _ _ _ _ _ _ _ _ _ _ _ _ _ _ _ _ _ _ _ _ _ _ _ _ _ _ _ _ _ _ _ _ _ _ _ _=>es.length-(intOf iv).toNat)
     case atStart=>exact ⟨0,Nat.zero_le _,rfl,I6⟩
     case round=>
      clear I6
      obtain ⟨k,hk,rfl,I⟩:=hrel
      by_cases hkn:k<es.length
      ·as_aux_lemma=>
        rcases k4 with k4 | ⟨g4,rfl,hb4,hlt4,hc4⟩
        ·omega
        have hj1:(0:Int)<=(k:Int):=by omega
        have hj2:(k:Int)<(es.length:Int):=by omega
        have hok:=HEV.out.ok _ (List.getElem_mem hkn)
        have hld:=load_en wr g4 k es hkn (fun j u hu=>(Zd (I.fr.block hlt4)).trans (hc4 j u hu))
        have hsn:=Zq7 es k hkn
        have hrn:=Zri es k hkn
        have hsm:=Zga es k hkn
        have hbk:=HEV.out.ev.bd k
        have hbk1:=HEV.out.ev.bd (k+1)
        obtain ⟨kk,ii,hkk,hii,hno,hst,hkd⟩:=en_at hok
        have hcm:=HLB.out _ (List.getElem_mem hkk)
        rcases r4 with r4 | ⟨ga,off,rfl,hlt,hcell⟩
        ·omega
        have hmc:=(hcell kk _ (Zbe more kk hkk))
        -- the entry ahead
        have hpv:∀k',k=k'+1->∃(hp:k'<es.length),Zsv (es[k']'hp) (es[k]'hkn)/\(((es[k']'hp).no≠(es[k]'hkn).no\/(es[k']'hp).st≠(es[k]'hkn).st)->∀c,Zag (es.take k) c=0):=fun k' hk'=>by
         subst hk'
         exact ⟨by omega,up_next HEV.out.up k' hkn,fun hne c=>HEV.out.ev.cut (k'+1) (by omega) hkn (by simpa using hne) c⟩
        generalize hxe:(es[k]'hkn)=x at *
        clear hxe
        generalize (more[kk]'hkk)=y at *
        obtain ⟨vy,sy⟩:=y
        obtain ⟨⟨C,ccap,hv,d1,d2,d3,d4⟩,_⟩:=hcm
        simp only at hv hii hkd d1 d2 d3 d4 hmc
        subst hv
        rcases d4 with d4 | ⟨gs,offs,rfl,hlts,hcs⟩
        ·omega
        have hkc:=hcs (ii*10+0) (.int .u8 x.kd) (by rw [Zi8 sy ii 0 hii (by omega),<-hkd];rfl)
        have hsy63:(sy.length:Int)<=9223372036854775807:=by unfold maxLen at d2;omega
        obtain ⟨no,st,kd,pa,cu,nn,sm⟩:=x
        have hn0:=hok.n0
        have hpa:=hok.pa
        have hcu:=hok.cu
        have hkd3:=hok.kd
        simp only at hno hst hkc hn0 hpa hcu hkd3 hld hsn hrn hsm hpv
        obtain ⟨cn,rfl⟩:∃cn:Nat,cu=(cn:Int):=⟨cu.toNat,by omega⟩
        have hc9:cn<9:=by omega
        have hsn:=hsn cn hc9 rfl
        have hrn:=hrn cn hc9 rfl
        have hsm:=hsm (cn:Int)
        rw [if_pos rfl] at hsm
        have hbk:=hbk (cn:Int)
        have hbk1:=hbk1 (cn:Int)
        rw [hsm] at hbk1
        obtain ⟨zs,hzs⟩:∃zs,Zag (es.take k) (cn:Int)=zs:=⟨_,rfl⟩
        obtain ⟨zr,hzr⟩:∃zr,Zaq (es.take k) (cn:Int)=zr:=⟨_,rfl⟩
        rw [hzs] at hsn hbk hbk1
        rw [hzr] at hrn
        have HZS:=Lib.hid hzs
        have HZR:=Lib.hid hzr
        have HSN:=Lib.hid hsn
        have HRN:=Lib.hid hrn
        have HPV:=Lib.hid hpv
        have bs1: -9223372036854775808<=zs+nn:=by omega
        have bs2:zs+nn<=9223372036854775807:=by omega
        have hin1:(0:Int)<=no-1:=by omega
        have hin2:no-1<(more.length:Int):=by omega
        have hin3: -9223372036854775808<=no-1:=by omega
        have hin4:no-1<=9223372036854775807:=by omega
        have hnk:(no-1).toNat=kk:=by omega
        have hsk:st.toNat=ii:=by omega
        have hnk2:no.toNat-1=kk:=by omega
        have hmc2:=hmc
        rw [<-hnk] at hmc
        rw [<-hnk2] at hmc2
        rw [Nat.add_zero,<-hsk] at hkc
        have hi1:(0:Int)<=st:=by omega
        have hi2:st<(sy.length:Int):=by omega
        have f0:(nn==0)=false:=by simpa using hn0
        have f1:decide (pa<1)=false:=by simp;omega
        have f2:decide (pa > 16)=false:=by simp;omega
        have f3:decide ((cn:Int)<1)=false:=by simp;omega
        have f4:decide ((cn:Int) > 8)=false:=by simp;omega
        have f5:decide (no<1)=false:=by simp;omega
        have f6:decide (no > (more.length:Int))=false:=by simp;omega
        have f7:decide (st<0)=false:=by simp;omega
        have f8:decide (st>=(sy.length:Int))=false:=by simp;omega
        have hc1:(0:Int)<=(cn:Int):=by omega
        have hc2:(cn:Int)<9:=by omega
        have Er:=Xt E4 I.fr
        simp only [En.agg] at hld
        clear hok hsm hzs hzr hsn hrn hpv hcell hcs hnk hnk2 hsk hno hst hkd hii hkk hn0 hpa hcu hbk hbk1 d1 d2 d3
        go_wp2_with (first
         | (refine Zf rfl 84 _ _ _ rfl rfl hld ?_)
         | (refine Zm rfl 84 rfl (.cells #[.int .i64 0,.int .i64 0,.int .u8 0,.int .u8 0,.int .u8 0,.int .i64 0,.int .i64 0] 84) _ rfl (by go_simp) ?_
            intro wz ez hz)
         | (refine Zg rfl rfl 84 _ _ rfl wr.heap.size _ rfl rfl 84 _ hz (by kernel_rfl) (by rfl) (by rfl) ?_
            intro wa hba hoa hxa
            have era:Ext wr wa:=hba _ _ (Nat.le_refl _) ez))
        have Ia:=I.ext era
        have Er:=Xt Er era
        have HBN:=Lib.hid (show (w4.heap.size<=b8/\w4.heap.size<=b9)/\wr.heap.size≠b8/\b8≠b9 by
         have h1:=HB.out
         have h2:=Ze I.s
         omega)
        clear hba hoa hz ez hld I era
        generalize wr.heap.size=bx at *
        generalize hki:(k:Int)=ik at *
        have HKI:=Lib.hid hki
        clear hki
        rename_i K1 h1 K0 h0
        -- what is behind the question of an entry alone
        have key13:∀(a1:Act) (W1:World),a1={ tmps:=#[.slice A l.length cap,.slice (some ⟨ga,off,none⟩) more.length cap',undef,undef,a1.tmps.getD 4 undef,.pointer (some ⟨jb,0,none⟩),.pointer (some ⟨qm,0,none⟩),.slice (some ⟨g4,0,none⟩) es.length c4,.pointer (some ⟨b8,0,none⟩),.pointer (some ⟨b9,0,none⟩),.int .i64 ik,.pointer (some ⟨bx,0,none⟩),a1.tmps.getD 12 undef,undef,.slice A l.length cap,.bool false,.bool false,.slice (some ⟨ga,off,none⟩) more.length cap',.bool false,.bool false,undef,.tuple #[.pointer (some ⟨jb,0,none⟩),.pointer (some ⟨qm,0,none⟩)],.slice A l.length cap,.slice (some ⟨ga,off,none⟩) more.length cap',.tuple #[.pointer (some ⟨jb,0,none⟩),.pointer (some ⟨qm,0,none⟩)],.pointer (some ⟨jb,0,none⟩),.pointer (some ⟨qm,0,none⟩),.pointer (some ⟨jb,0,none⟩),.slice (some ⟨g4,0,none⟩) es.length c4,a1.tmps.getD 29 undef,a1.tmps.getD 30 undef,a1.tmps.getD 31 undef,a1.tmps.getD 32 undef,a1.tmps.getD 33 undef,a1.tmps.getD 34 undef,a1.tmps.getD 35 undef,a1.tmps.getD 36 undef,a1.tmps.getD 37 undef,a1.tmps.getD 38 undef,a1.tmps.getD 39 undef,a1.tmps.getD 40 undef,a1.tmps.getD 41 undef,a1.tmps.getD 42 undef,a1.tmps.getD 43 undef,a1.tmps.getD 44 undef,a1.tmps.getD 45 undef,a1.tmps.getD 46 undef,a1.tmps.getD 47 undef,a1.tmps.getD 48 undef,a1.tmps.getD 49 undef,a1.tmps.getD 50 undef,a1.tmps.getD 51 undef,a1.tmps.getD 52 undef,a1.tmps.getD 53 undef,a1.tmps.getD 54 undef,a1.tmps.getD 55 undef,a1.tmps.getD 56 undef,a1.tmps.getD 57 undef,a1.tmps.getD 58 undef,a1.tmps.getD 59 undef,a1.tmps.getD 60 undef,a1.tmps.getD 61 undef,a1.tmps.getD 62 undef,a1.tmps.getD 63 undef,a1.tmps.getD 64 undef,a1.tmps.getD 65 undef,a1.tmps.getD 66 undef,a1.tmps.getD 67 undef,a1.tmps.getD 68 undef,a1.tmps.getD 69 undef,a1.tmps.getD 70 undef,a1.tmps.getD 71 undef,a1.tmps.getD 72 undef,a1.tmps.getD 73 undef,a1.tmps.getD 74 undef,a1.tmps.getD 75 undef,a1.tmps.getD 76 undef,a1.tmps.getD 77 undef,a1.tmps.getD 78 undef,a1.tmps.getD 79 undef,a1.tmps.getD 80 undef,a1.tmps.getD 81 undef,a1.tmps.getD 82 undef,a1.tmps.getD 83 undef,a1.tmps.getD 84 undef,a1.tmps.getD 85 undef,a1.tmps.getD 86 undef,a1.tmps.getD 87 undef,a1.tmps.getD 88 undef,a1.tmps.getD 89 undef,a1.tmps.getD 90 undef,a1.tmps.getD 91 undef,a1.tmps.getD 92 undef,a1.tmps.getD 93 undef,a1.tmps.getD 94 undef,a1.tmps.getD 95 undef,a1.tmps.getD 96 undef,a1.tmps.getD 97 undef,a1.tmps.getD 98 undef,a1.tmps.getD 99 undef,a1.tmps.getD 100 undef,a1.tmps.getD 101 undef,a1.tmps.getD 102 undef,a1.tmps.getD 103 undef,a1.tmps.getD 104 undef,a1.tmps.getD 105 undef,a1.tmps.getD 106 undef,a1.tmps.getD 107 undef,a1.tmps.getD 108 undef,a1.tmps.getD 109 undef,a1.tmps.getD 110 undef,a1.tmps.getD 111 undef,a1.tmps.getD 112 undef,a1.tmps.getD 113 undef,a1.tmps.getD 114 undef,a1.tmps.getD 115 undef,a1.tmps.getD 116 undef,a1.tmps.getD 117 undef,a1.tmps.getD 118 undef,a1.tmps.getD 119 undef,a1.tmps.getD 120 undef,a1.tmps.getD 121 undef,a1.tmps.getD 122 undef,a1.tmps.getD 123 undef,a1.tmps.getD 124 undef,a1.tmps.getD 125 undef,a1.tmps.getD 126 undef,a1.tmps.getD 127 undef,a1.tmps.getD 128 undef,a1.tmps.getD 129 undef,a1.tmps.getD 130 undef,a1.tmps.getD 131 undef,a1.tmps.getD 132 undef,a1.tmps.getD 133 undef,a1.tmps.getD 134 undef,a1.tmps.getD 135 undef,a1.tmps.getD 136 undef,a1.tmps.getD 137 undef,a1.tmps.getD 138 undef,a1.tmps.getD 139 undef,a1.tmps.getD 140 undef,a1.tmps.getD 141 undef,a1.tmps.getD 142 undef,a1.tmps.getD 143 undef,a1.tmps.getD 144 undef,a1.tmps.getD 145 undef,a1.tmps.getD 146 undef,a1.tmps.getD 147 undef,a1.tmps.getD 148 undef,a1.tmps.getD 149 undef,a1.tmps.getD 150 undef,a1.tmps.getD 151 undef,a1.tmps.getD 152 undef,a1.tmps.getD 153 undef,a1.tmps.getD 154 undef,a1.tmps.getD 155 undef,a1.tmps.getD 156 undef,a1.tmps.getD 157 undef,a1.tmps.getD 158 undef,a1.tmps.getD 159 undef,a1.tmps.getD 160 undef,a1.tmps.getD 161 undef,a1.tmps.getD 162 undef,a1.tmps.getD 163 undef,a1.tmps.getD 164 undef,a1.tmps.getD 165 undef,a1.tmps.getD 166 undef,a1.tmps.getD 167 undef,a1.tmps.getD 168 undef,a1.tmps.getD 169 undef,a1.tmps.getD 170 undef,a1.tmps.getD 171 undef,a1.tmps.getD 172 undef,a1.tmps.getD 173 undef,a1.tmps.getD 174 undef,a1.tmps.getD 175 undef,a1.tmps.getD 176 undef,a1.tmps.getD 177 undef,a1.tmps.getD 178 undef,a1.tmps.getD 179 undef,a1.tmps.getD 180 undef,a1.tmps.getD 181 undef,a1.tmps.getD 182 undef,a1.tmps.getD 183 undef,a1.tmps.getD 184 undef,a1.tmps.getD 185 undef,a1.tmps.getD 186 undef,a1.tmps.getD 187 undef,a1.tmps.getD 188 undef,a1.tmps.getD 189 undef,a1.tmps.getD 190 undef,a1.tmps.getD 191 undef,a1.tmps.getD 192 undef,a1.tmps.getD 193 undef,a1.tmps.getD 194 undef,a1.tmps.getD 195 undef,a1.tmps.getD 196 undef,a1.tmps.getD 197 undef,a1.tmps.getD 198 undef,a1.tmps.getD 199 undef,a1.tmps.getD 200 undef,a1.tmps.getD 201 undef,a1.tmps.getD 202 undef,a1.tmps.getD 203 undef,a1.tmps.getD 204 undef,a1.tmps.getD 205 undef,a1.tmps.getD 206 undef,a1.tmps.getD 207 undef,a1.tmps.getD 208 undef,a1.tmps.getD 209 undef,a1.tmps.getD 210 undef,a1.tmps.getD 211 undef,a1.tmps.getD 212 undef,a1.tmps.getD 213 undef,a1.tmps.getD 214 undef,a1.tmps.getD 215 undef,a1.tmps.getD 216 undef,a1.tmps.getD 217 undef,a1.tmps.getD 218 undef,a1.tmps.getD 219 undef,a1.tmps.getD 220 undef,a1.tmps.getD 221 undef,a1.tmps.getD 222 undef,a1.tmps.getD 223 undef,a1.tmps.getD 224 undef,a1.tmps.getD 225 undef,a1.tmps.getD 226 undef,a1.tmps.getD 227 undef,a1.tmps.getD 228 undef,a1.tmps.getD 229 undef,a1.tmps.getD 230 undef,a1.tmps.getD 231 undef,a1.tmps.getD 232 undef,a1.tmps.getD 233 undef,a1.tmps.getD 234 undef,a1.tmps.getD 235 undef,a1.tmps.getD 236 undef,a1.tmps.getD 237 undef,a1.tmps.getD 238 undef,a1.tmps.getD 239 undef,a1.tmps.getD 240 undef,a1.tmps.getD 241 undef,a1.tmps.getD 242 undef,a1.tmps.getD 243 undef,a1.tmps.getD 244 undef,a1.tmps.getD 245 undef,a1.tmps.getD 246 undef,a1.tmps.getD 247 undef,a1.tmps.getD 248 undef,a1.tmps.getD 249 undef,a1.tmps.getD 250 undef,a1.tmps.getD 251 undef,a1.tmps.getD 252 undef,a1.tmps.getD 253 undef,a1.tmps.getD 254 undef,a1.tmps.getD 255 undef,a1.tmps.getD 256 undef,a1.tmps.getD 257 undef,a1.tmps.getD 258 undef,a1.tmps.getD 259 undef,a1.tmps.getD 260 undef,a1.tmps.getD 261 undef,a1.tmps.getD 262 undef,a1.tmps.getD 263 undef,a1.tmps.getD 264 undef,undef,undef,undef,undef,undef,undef,undef,undef,undef,undef,undef,undef,undef,undef,undef,undef,undef,undef,undef,undef,undef,undef,undef],defers:=[] }->Ext wa W1->K1 a1 W1:=by as_aux_lemma=>
         rintro a1 W1 hact eo
         obtain ⟨V,hV⟩:∃V:Nat->Value,∀i,a1.tmps.getD i undef=V i:=⟨_,fun _=>rfl⟩
         simp only [hV] at hact
         clear hV
         subst hact
         refine h1 _ _ ?_
         have Ia:=Ia.ext eo
         have hxa:=eo.at hxa
         have E1x:=Ia.fr
         clear h1 h0 eo Er f0 f1 f2 f3 f4 f5 f6 f7 f8 hmc hmc2 hkc hkd3 hin1 hin2 hin3 hin4 hi1 hi2
         go_wp2_with fail
         rename_i K2 h2 K3 h3
         -- what is behind the question of steps
         have key21:∀(a2:Act) (W2:World),a2={ tmps:=#[.slice A l.length cap,.slice (some ⟨ga,off,none⟩) more.length cap',undef,undef,a2.tmps.getD 4 undef,.pointer (some ⟨jb,0,none⟩),.pointer (some ⟨qm,0,none⟩),.slice (some ⟨g4,0,none⟩) es.length c4,.pointer (some ⟨b8,0,none⟩),.pointer (some ⟨b9,0,none⟩),.int .i64 ik,.pointer (some ⟨bx,0,none⟩),a2.tmps.getD 12 undef,undef,.slice A l.length cap,.bool false,.bool false,.slice (some ⟨ga,off,none⟩) more.length cap',.bool false,.bool false,undef,.tuple #[.pointer (some ⟨jb,0,none⟩),.pointer (some ⟨qm,0,none⟩)],.slice A l.length cap,.slice (some ⟨ga,off,none⟩) more.length cap',.tuple #[.pointer (some ⟨jb,0,none⟩),.pointer (some ⟨qm,0,none⟩)],.pointer (some ⟨jb,0,none⟩),.pointer (some ⟨qm,0,none⟩),.pointer (some ⟨jb,0,none⟩),.slice (some ⟨g4,0,none⟩) es.length c4,a2.tmps.getD 29 undef,a2.tmps.getD 30 undef,a2.tmps.getD 31 undef,a2.tmps.getD 32 undef,a2.tmps.getD 33 undef,a2.tmps.getD 34 undef,a2.tmps.getD 35 undef,a2.tmps.getD 36 undef,a2.tmps.getD 37 undef,a2.tmps.getD 38 undef,a2.tmps.getD 39 undef,a2.tmps.getD 40 undef,a2.tmps.getD 41 undef,a2.tmps.getD 42 undef,a2.tmps.getD 43 undef,a2.tmps.getD 44 undef,a2.tmps.getD 45 undef,a2.tmps.getD 46 undef,a2.tmps.getD 47 undef,a2.tmps.getD 48 undef,a2.tmps.getD 49 undef,a2.tmps.getD 50 undef,a2.tmps.getD 51 undef,a2.tmps.getD 52 undef,a2.tmps.getD 53 undef,a2.tmps.getD 54 undef,a2.tmps.getD 55 undef,a2.tmps.getD 56 undef,a2.tmps.getD 57 undef,a2.tmps.getD 58 undef,a2.tmps.getD 59 undef,a2.tmps.getD 60 undef,a2.tmps.getD 61 undef,a2.tmps.getD 62 undef,a2.tmps.getD 63 undef,a2.tmps.getD 64 undef,a2.tmps.getD 65 undef,a2.tmps.getD 66 undef,a2.tmps.getD 67 undef,a2.tmps.getD 68 undef,a2.tmps.getD 69 undef,a2.tmps.getD 70 undef,a2.tmps.getD 71 undef,a2.tmps.getD 72 undef,a2.tmps.getD 73 undef,a2.tmps.getD 74 undef,a2.tmps.getD 75 undef,a2.tmps.getD 76 undef,a2.tmps.getD 77 undef,a2.tmps.getD 78 undef,a2.tmps.getD 79 undef,a2.tmps.getD 80 undef,a2.tmps.getD 81 undef,a2.tmps.getD 82 undef,a2.tmps.getD 83 undef,a2.tmps.getD 84 undef,a2.tmps.getD 85 undef,a2.tmps.getD 86 undef,a2.tmps.getD 87 undef,a2.tmps.getD 88 undef,a2.tmps.getD 89 undef,a2.tmps.getD 90 undef,a2.tmps.getD 91 undef,a2.tmps.getD 92 undef,a2.tmps.getD 93 undef,a2.tmps.getD 94 undef,a2.tmps.getD 95 undef,a2.tmps.getD 96 undef,a2.tmps.getD 97 undef,a2.tmps.getD 98 undef,a2.tmps.getD 99 undef,a2.tmps.getD 100 undef,a2.tmps.getD 101 undef,a2.tmps.getD 102 undef,a2.tmps.getD 103 undef,a2.tmps.getD 104 undef,a2.tmps.getD 105 undef,a2.tmps.getD 106 undef,a2.tmps.getD 107 undef,a2.tmps.getD 108 undef,a2.tmps.getD 109 undef,a2.tmps.getD 110 undef,a2.tmps.getD 111 undef,a2.tmps.getD 112 undef,a2.tmps.getD 113 undef,a2.tmps.getD 114 undef,a2.tmps.getD 115 undef,a2.tmps.getD 116 undef,a2.tmps.getD 117 undef,a2.tmps.getD 118 undef,a2.tmps.getD 119 undef,a2.tmps.getD 120 undef,a2.tmps.getD 121 undef,a2.tmps.getD 122 undef,a2.tmps.getD 123 undef,a2.tmps.getD 124 undef,a2.tmps.getD 125 undef,a2.tmps.getD 126 undef,a2.tmps.getD 127 undef,a2.tmps.getD 128 undef,a2.tmps.getD 129 undef,a2.tmps.getD 130 undef,a2.tmps.getD 131 undef,a2.tmps.getD 132 undef,a2.tmps.getD 133 undef,a2.tmps.getD 134 undef,a2.tmps.getD 135 undef,a2.tmps.getD 136 undef,a2.tmps.getD 137 undef,a2.tmps.getD 138 undef,a2.tmps.getD 139 undef,a2.tmps.getD 140 undef,a2.tmps.getD 141 undef,a2.tmps.getD 142 undef,a2.tmps.getD 143 undef,a2.tmps.getD 144 undef,a2.tmps.getD 145 undef,a2.tmps.getD 146 undef,a2.tmps.getD 147 undef,a2.tmps.getD 148 undef,a2.tmps.getD 149 undef,a2.tmps.getD 150 undef,a2.tmps.getD 151 undef,a2.tmps.getD 152 undef,a2.tmps.getD 153 undef,a2.tmps.getD 154 undef,a2.tmps.getD 155 undef,a2.tmps.getD 156 undef,a2.tmps.getD 157 undef,a2.tmps.getD 158 undef,a2.tmps.getD 159 undef,a2.tmps.getD 160 undef,a2.tmps.getD 161 undef,a2.tmps.getD 162 undef,a2.tmps.getD 163 undef,a2.tmps.getD 164 undef,a2.tmps.getD 165 undef,a2.tmps.getD 166 undef,a2.tmps.getD 167 undef,a2.tmps.getD 168 undef,a2.tmps.getD 169 undef,a2.tmps.getD 170 undef,a2.tmps.getD 171 undef,a2.tmps.getD 172 undef,a2.tmps.getD 173 undef,a2.tmps.getD 174 undef,a2.tmps.getD 175 undef,a2.tmps.getD 176 undef,a2.tmps.getD 177 undef,a2.tmps.getD 178 undef,a2.tmps.getD 179 undef,a2.tmps.getD 180 undef,a2.tmps.getD 181 undef,a2.tmps.getD 182 undef,a2.tmps.getD 183 undef,a2.tmps.getD 184 undef,a2.tmps.getD 185 undef,a2.tmps.getD 186 undef,a2.tmps.getD 187 undef,a2.tmps.getD 188 undef,a2.tmps.getD 189 undef,a2.tmps.getD 190 undef,a2.tmps.getD 191 undef,a2.tmps.getD 192 undef,a2.tmps.getD 193 undef,a2.tmps.getD 194 undef,a2.tmps.getD 195 undef,a2.tmps.getD 196 undef,a2.tmps.getD 197 undef,a2.tmps.getD 198 undef,a2.tmps.getD 199 undef,a2.tmps.getD 200 undef,a2.tmps.getD 201 undef,a2.tmps.getD 202 undef,a2.tmps.getD 203 undef,a2.tmps.getD 204 undef,a2.tmps.getD 205 undef,a2.tmps.getD 206 undef,a2.tmps.getD 207 undef,a2.tmps.getD 208 undef,a2.tmps.getD 209 undef,a2.tmps.getD 210 undef,a2.tmps.getD 211 undef,a2.tmps.getD 212 undef,a2.tmps.getD 213 undef,a2.tmps.getD 214 undef,a2.tmps.getD 215 undef,a2.tmps.getD 216 undef,a2.tmps.getD 217 undef,a2.tmps.getD 218 undef,a2.tmps.getD 219 undef,a2.tmps.getD 220 undef,a2.tmps.getD 221 undef,a2.tmps.getD 222 undef,a2.tmps.getD 223 undef,a2.tmps.getD 224 undef,a2.tmps.getD 225 undef,a2.tmps.getD 226 undef,a2.tmps.getD 227 undef,a2.tmps.getD 228 undef,a2.tmps.getD 229 undef,a2.tmps.getD 230 undef,a2.tmps.getD 231 undef,a2.tmps.getD 232 undef,a2.tmps.getD 233 undef,a2.tmps.getD 234 undef,a2.tmps.getD 235 undef,a2.tmps.getD 236 undef,a2.tmps.getD 237 undef,a2.tmps.getD 238 undef,a2.tmps.getD 239 undef,a2.tmps.getD 240 undef,a2.tmps.getD 241 undef,a2.tmps.getD 242 undef,a2.tmps.getD 243 undef,a2.tmps.getD 244 undef,a2.tmps.getD 245 undef,a2.tmps.getD 246 undef,a2.tmps.getD 247 undef,a2.tmps.getD 248 undef,a2.tmps.getD 249 undef,a2.tmps.getD 250 undef,a2.tmps.getD 251 undef,a2.tmps.getD 252 undef,a2.tmps.getD 253 undef,a2.tmps.getD 254 undef,a2.tmps.getD 255 undef,a2.tmps.getD 256 undef,a2.tmps.getD 257 undef,a2.tmps.getD 258 undef,a2.tmps.getD 259 undef,a2.tmps.getD 260 undef,a2.tmps.getD 261 undef,a2.tmps.getD 262 undef,a2.tmps.getD 263 undef,a2.tmps.getD 264 undef,undef,undef,undef,undef,undef,undef,undef,undef,undef,undef,undef,undef,undef,undef,undef,undef,undef,undef,undef,undef,undef,undef,undef],defers:=[] }->Ext W1 W2->K2 a2 W2:=by as_aux_lemma=>
          rintro a2 W2 hact eo
          obtain ⟨V,hV⟩:∃V:Nat->Value,∀i,a2.tmps.getD i undef=V i:=⟨_,fun _=>rfl⟩
          simp only [hV] at hact
          clear hV
          subst hact
          refine h2 _ _ ?_
          have Ia:=Ia.ext eo
          have hxa:=eo.at hxa
          have E1x:=Ia.fr
          clear h2 h3 eo
          go_wp2_with fail
          rename_i K4 h4 K5 h5
          have key23:∀(a3:Act) (W3:World),a3={ tmps:=#[.slice A l.length cap,.slice (some ⟨ga,off,none⟩) more.length cap',undef,undef,a3.tmps.getD 4 undef,.pointer (some ⟨jb,0,none⟩),.pointer (some ⟨qm,0,none⟩),.slice (some ⟨g4,0,none⟩) es.length c4,.pointer (some ⟨b8,0,none⟩),.pointer (some ⟨b9,0,none⟩),.int .i64 ik,.pointer (some ⟨bx,0,none⟩),a3.tmps.getD 12 undef,undef,.slice A l.length cap,.bool false,.bool false,.slice (some ⟨ga,off,none⟩) more.length cap',.bool false,.bool false,undef,.tuple #[.pointer (some ⟨jb,0,none⟩),.pointer (some ⟨qm,0,none⟩)],.slice A l.length cap,.slice (some ⟨ga,off,none⟩) more.length cap',.tuple #[.pointer (some ⟨jb,0,none⟩),.pointer (some ⟨qm,0,none⟩)],.pointer (some ⟨jb,0,none⟩),.pointer (some ⟨qm,0,none⟩),.pointer (some ⟨jb,0,none⟩),.slice (some ⟨g4,0,none⟩) es.length c4,a3.tmps.getD 29 undef,a3.tmps.getD 30 undef,a3.tmps.getD 31 undef,a3.tmps.getD 32 undef,a3.tmps.getD 33 undef,a3.tmps.getD 34 undef,a3.tmps.getD 35 undef,a3.tmps.getD 36 undef,a3.tmps.getD 37 undef,a3.tmps.getD 38 undef,a3.tmps.getD 39 undef,a3.tmps.getD 40 undef,a3.tmps.getD 41 undef,a3.tmps.getD 42 undef,a3.tmps.getD 43 undef,a3.tmps.getD 44 undef,a3.tmps.getD 45 undef,a3.tmps.getD 46 undef,a3.tmps.getD 47 undef,a3.tmps.getD 48 undef,a3.tmps.getD 49 undef,a3.tmps.getD 50 undef,a3.tmps.getD 51 undef,a3.tmps.getD 52 undef,a3.tmps.getD 53 undef,a3.tmps.getD 54 undef,a3.tmps.getD 55 undef,a3.tmps.getD 56 undef,a3.tmps.getD 57 undef,a3.tmps.getD 58 undef,a3.tmps.getD 59 undef,a3.tmps.getD 60 undef,a3.tmps.getD 61 undef,a3.tmps.getD 62 undef,a3.tmps.getD 63 undef,a3.tmps.getD 64 undef,a3.tmps.getD 65 undef,a3.tmps.getD 66 undef,a3.tmps.getD 67 undef,a3.tmps.getD 68 undef,a3.tmps.getD 69 undef,a3.tmps.getD 70 undef,a3.tmps.getD 71 undef,a3.tmps.getD 72 undef,a3.tmps.getD 73 undef,a3.tmps.getD 74 undef,a3.tmps.getD 75 undef,a3.tmps.getD 76 undef,a3.tmps.getD 77 undef,a3.tmps.getD 78 undef,a3.tmps.getD 79 undef,a3.tmps.getD 80 undef,a3.tmps.getD 81 undef,a3.tmps.getD 82 undef,a3.tmps.getD 83 undef,a3.tmps.getD 84 undef,a3.tmps.getD 85 undef,a3.tmps.getD 86 undef,a3.tmps.getD 87 undef,a3.tmps.getD 88 undef,a3.tmps.getD 89 undef,a3.tmps.getD 90 undef,a3.tmps.getD 91 undef,a3.tmps.getD 92 undef,a3.tmps.getD 93 undef,a3.tmps.getD 94 undef,a3.tmps.getD 95 undef,a3.tmps.getD 96 undef,a3.tmps.getD 97 undef,a3.tmps.getD 98 undef,a3.tmps.getD 99 undef,a3.tmps.getD 100 undef,a3.tmps.getD 101 undef,a3.tmps.getD 102 undef,a3.tmps.getD 103 undef,a3.tmps.getD 104 undef,a3.tmps.getD 105 undef,a3.tmps.getD 106 undef,a3.tmps.getD 107 undef,a3.tmps.getD 108 undef,a3.tmps.getD 109 undef,a3.tmps.getD 110 undef,a3.tmps.getD 111 undef,a3.tmps.getD 112 undef,a3.tmps.getD 113 undef,a3.tmps.getD 114 undef,a3.tmps.getD 115 undef,a3.tmps.getD 116 undef,a3.tmps.getD 117 undef,a3.tmps.getD 118 undef,a3.tmps.getD 119 undef,a3.tmps.getD 120 undef,a3.tmps.getD 121 undef,a3.tmps.getD 122 undef,a3.tmps.getD 123 undef,a3.tmps.getD 124 undef,a3.tmps.getD 125 undef,a3.tmps.getD 126 undef,a3.tmps.getD 127 undef,a3.tmps.getD 128 undef,a3.tmps.getD 129 undef,a3.tmps.getD 130 undef,a3.tmps.getD 131 undef,a3.tmps.getD 132 undef,a3.tmps.getD 133 undef,a3.tmps.getD 134 undef,a3.tmps.getD 135 undef,a3.tmps.getD 136 undef,a3.tmps.getD 137 undef,a3.tmps.getD 138 undef,a3.tmps.getD 139 undef,a3.tmps.getD 140 undef,a3.tmps.getD 141 undef,a3.tmps.getD 142 undef,a3.tmps.getD 143 undef,a3.tmps.getD 144 undef,a3.tmps.getD 145 undef,a3.tmps.getD 146 undef,a3.tmps.getD 147 undef,a3.tmps.getD 148 undef,a3.tmps.getD 149 undef,a3.tmps.getD 150 undef,a3.tmps.getD 151 undef,a3.tmps.getD 152 undef,a3.tmps.getD 153 undef,a3.tmps.getD 154 undef,a3.tmps.getD 155 undef,a3.tmps.getD 156 undef,a3.tmps.getD 157 undef,a3.tmps.getD 158 undef,a3.tmps.getD 159 undef,a3.tmps.getD 160 undef,a3.tmps.getD 161 undef,a3.tmps.getD 162 undef,a3.tmps.getD 163 undef,a3.tmps.getD 164 undef,a3.tmps.getD 165 undef,a3.tmps.getD 166 undef,a3.tmps.getD 167 undef,a3.tmps.getD 168 undef,a3.tmps.getD 169 undef,a3.tmps.getD 170 undef,a3.tmps.getD 171 undef,a3.tmps.getD 172 undef,a3.tmps.getD 173 undef,a3.tmps.getD 174 undef,a3.tmps.getD 175 undef,a3.tmps.getD 176 undef,a3.tmps.getD 177 undef,a3.tmps.getD 178 undef,a3.tmps.getD 179 undef,a3.tmps.getD 180 undef,a3.tmps.getD 181 undef,a3.tmps.getD 182 undef,a3.tmps.getD 183 undef,a3.tmps.getD 184 undef,a3.tmps.getD 185 undef,a3.tmps.getD 186 undef,a3.tmps.getD 187 undef,a3.tmps.getD 188 undef,a3.tmps.getD 189 undef,a3.tmps.getD 190 undef,a3.tmps.getD 191 undef,a3.tmps.getD 192 undef,a3.tmps.getD 193 undef,a3.tmps.getD 194 undef,a3.tmps.getD 195 undef,a3.tmps.getD 196 undef,a3.tmps.getD 197 undef,a3.tmps.getD 198 undef,a3.tmps.getD 199 undef,a3.tmps.getD 200 undef,a3.tmps.getD 201 undef,a3.tmps.getD 202 undef,a3.tmps.getD 203 undef,a3.tmps.getD 204 undef,a3.tmps.getD 205 undef,a3.tmps.getD 206 undef,a3.tmps.getD 207 undef,a3.tmps.getD 208 undef,a3.tmps.getD 209 undef,a3.tmps.getD 210 undef,a3.tmps.getD 211 undef,a3.tmps.getD 212 undef,a3.tmps.getD 213 undef,a3.tmps.getD 214 undef,a3.tmps.getD 215 undef,a3.tmps.getD 216 undef,a3.tmps.getD 217 undef,a3.tmps.getD 218 undef,a3.tmps.getD 219 undef,a3.tmps.getD 220 undef,a3.tmps.getD 221 undef,a3.tmps.getD 222 undef,a3.tmps.getD 223 undef,a3.tmps.getD 224 undef,a3.tmps.getD 225 undef,a3.tmps.getD 226 undef,a3.tmps.getD 227 undef,a3.tmps.getD 228 undef,a3.tmps.getD 229 undef,a3.tmps.getD 230 undef,a3.tmps.getD 231 undef,a3.tmps.getD 232 undef,a3.tmps.getD 233 undef,a3.tmps.getD 234 undef,a3.tmps.getD 235 undef,a3.tmps.getD 236 undef,a3.tmps.getD 237 undef,a3.tmps.getD 238 undef,a3.tmps.getD 239 undef,a3.tmps.getD 240 undef,a3.tmps.getD 241 undef,a3.tmps.getD 242 undef,a3.tmps.getD 243 undef,a3.tmps.getD 244 undef,a3.tmps.getD 245 undef,a3.tmps.getD 246 undef,a3.tmps.getD 247 undef,a3.tmps.getD 248 undef,a3.tmps.getD 249 undef,a3.tmps.getD 250 undef,a3.tmps.getD 251 undef,a3.tmps.getD 252 undef,a3.tmps.getD 253 undef,a3.tmps.getD 254 undef,a3.tmps.getD 255 undef,a3.tmps.getD 256 undef,a3.tmps.getD 257 undef,a3.tmps.getD 258 undef,a3.tmps.getD 259 undef,a3.tmps.getD 260 undef,a3.tmps.getD 261 undef,a3.tmps.getD 262 undef,a3.tmps.getD 263 undef,a3.tmps.getD 264 undef,undef,undef,undef,undef,undef,undef,undef,undef,undef,undef,undef,undef,undef,undef,undef,undef,undef,undef,undef,undef,undef,undef,undef],defers:=[] }->Ext W2 W3->K4 a3 W3:=by as_aux_lemma=>
           rintro a3 W3 hact eo
           obtain ⟨V,hV⟩:∃V:Nat->Value,∀i,a3.tmps.getD i undef=V i:=⟨_,fun _=>rfl⟩
           simp only [hV] at hact
           clear hV
           subst hact
           refine h4 _ _ ?_
           have Ia:=Ia.ext eo
           have hxa:=eo.at hxa
           clear h4 h5 eo E1x
           -- what is summed,and what rose
           go_wp2_with fail
           refine Zh Zk 9 [] (by kernel_rfl) (by kernel_rfl) ?_
           intro w1 hw1
           have y4:=fun u:ExtOf w1=>Za (j:=4) ((Xt hw1 u.h).at hxa) rfl
           have y5:=fun u:ExtOf w1=>Za (j:=5) ((Xt hw1 u.h).at hxa) rfl
           have ys:∀u:ExtOf w1,u.to.cell? ⟨b8,cn,none⟩=some (.int .i64 zs):=fun u=>(Za (j:=cn) ((Xt hw1 u.h).at Ia.s) (by rw [List.getElem?_toArray,Zbn es k cn hc9,HZS.out]))
           simp only [Zj,Rg.hsB,Nat.reduceAdd,↓reduceIte]
           repeat (go_big_quiet_step ((fail)))
           refine wpQuiet_nil ?_
           refine Zi (by kernel_rfl) ?_
           intro wb eb eb'
           simp only [Rg.puB]
           clear y4 y5 ys hw1
           have Ib:=Ia.ext eb
           have hxb:=eb.at hxa
           have fb8:=frozen_of_row wb b8 cn _ _ Ib.s
           have cb8:wb.cell? ⟨b8,cn,none⟩=some (.int .i64 zs):=Za (j:=cn) Ib.s (by rw [List.getElem?_toArray,Zbn es k cn hc9,HZS.out])
           have hb8l:=Ze Ib.s
           have hb9l:=Ze Ib.r
           have kb8:Keep [b8] wb (wb.setCell ⟨b8,cn,none⟩ (.int .i64 (zs+nn))):=(Keep.refl _ _).setCell (Or.inl (by simp)) _
           have Is:=HSN.out▸arr_set (c:=cn) Ib.s (.int .i64 (zs+nn))
           have Ir:=kb8.at Ib.r (by simpa using fun e=>HBN.out.2.2 e.symm)
           have hxc:=kb8.at hxb (by simpa using HBN.out.2.1)
           have Ie:=(Keep.trans_fresh (S:=[]) (Kx Ib.fr) kb8 (fun x hx=>by right;have:=HBN.out.1;simp at hx;omega)).ext
           clear Ia hxa Ib hxb eb eb' kb8
           go_wp2_with fail
           clear fb8 cb8
           generalize wb.setCell ⟨b8,cn,none⟩ (.int .i64 (zs+nn))=wc at *
           refine Zh Zk 10 [] (by kernel_rfl) (by kernel_rfl) ?_
           intro w1 hw1
           have y4:=fun u:ExtOf w1=>Za (j:=4) ((Xt hw1 u.h).at hxc) rfl
           have y5:=fun u:ExtOf w1=>Za (j:=5) ((Xt hw1 u.h).at hxc) rfl
           have ys:∀u:ExtOf w1,u.to.cell? ⟨b9,cn,none⟩=some (.int .i64 zr):=fun u=>(Za (j:=cn) ((Xt hw1 u.h).at Ir) (by rw [List.getElem?_toArray,Zjh es k cn hc9,HZR.out]))
           simp only [Zj,Rg.hsB,Nat.reduceAdd,↓reduceIte]
           repeat (go_big_quiet_step ((fail)))
           refine wpQuiet_nil ?_
           refine Zi (by kernel_rfl) ?_
           intro wd ed ed'
           simp only [Rg.puB]
           clear y4 y5 ys hw1
           have Is2:=ed.at Is
           have Ir2:=ed.at Ir
           have fd9:=frozen_of_row wd b9 cn _ _ Ir2
           have cd9:wd.cell? ⟨b9,cn,none⟩=some (.int .i64 zr):=Za (j:=cn) Ir2 (by rw [List.getElem?_toArray,Zjh es k cn hc9,HZR.out])
           have kb9:Keep [b9] wd (wd.setCell ⟨b9,cn,none⟩ (.int .i64 (wrap64 (zr+max 0 nn)))):=(Keep.refl _ _).setCell (Or.inl (by simp)) _
           have Ir3:=HRN.out▸arr_set (c:=cn) Ir2 (.int .i64 (wrap64 (zr+max 0 nn)))
           have Is3:=kb9.at Is2 (by simpa using HBN.out.2.2)
           have Ie3:=(Keep.trans_fresh (S:=[]) (Kx (Xt Ie ed)) kb9 (fun x hx=>by right;have:=HBN.out.1;simp at hx;omega)).ext
           clear Is Ir Ie Is2 Ir2 ed ed' kb9 hxc
           go_wp2_with fail
           clear fd9 cd9
           exact ⟨⟨k+1,by omega,by (congr 1;have:=HKI.out;omega),⟨Is3,Ir3,Ie3⟩⟩,by have:=HKI.out;simp [intOf];omega⟩
          clear h4
          by_cases hk0:k=0
          ·as_aux_lemma=>
            have g0:decide (ik > 0)=false:=by have:=HKI.out;simp;omega
            refine Z4 Zk [] (by kernel_rfl) (by kernel_rfl) ?_
            intro w1 hw1
            simp only [Zj,Rg.hsB,Nat.reduceAdd,↓reduceIte]
            repeat (go_big_quiet_step ((fail)))
            refine wpQuiet_nil ?_
            refine Y8 (by kernel_rfl) ?_
            intro wm em em'
            try simp only [Act.put,Rg.puC,Rg.puB]
            go_wp2_with fail
            exact key23 _ _ rfl em
          ·
           have g0:decide (ik > 0)=true:=by have:=HKI.out;simp;omega
           obtain ⟨hp,hup,hcut⟩:=HPV.out (k-1) (by omega)
           have q0:=hc4 ((k-1)*7+0) _ (X2 es (k-1) 0 hp (by omega))
           have q1:=hc4 ((k-1)*7+1) _ (X2 es (k-1) 1 hp (by omega))
           have q3:=hc4 ((k-1)*7+3) _ (X2 es (k-1) 3 hp (by omega))
           have q4:=hc4 ((k-1)*7+4) _ (X2 es (k-1) 4 hp (by omega))
           generalize (es[k-1]'hp)=pv at *
           obtain ⟨pno,pst,pkd,ppa,pcu,pnn,psm⟩:=pv
           simp only [Nat.add_zero] at q0 q1 q3 q4 hup hcut
           have hxk:(ik-1).toNat=k-1:=by have:=HKI.out;omega
           have hxk2:ik.toNat-1=k-1:=by have:=HKI.out;omega
           have q0x:=q0
           have q1x:=q1
           have q3x:=q3
           have q4x:=q4
           rw [<-hxk] at q0 q1 q3 q4
           rw [<-hxk2] at q0x q1x q3x q4x
           have i1:(0:Int)<=ik-1:=by have:=HKI.out;omega
           have i2:ik-1<(es.length:Int):=by have:=HKI.out;omega
           have i3: -9223372036854775808<=ik-1:=by omega
           have i4:ik-1<=9223372036854775807:=by omega
           clear hxk hxk2
           unfold Zsv at hup
           simp only at hup
           rcases hup with h | ⟨rfl,h | ⟨rfl,h | ⟨rfl,h⟩⟩⟩
           ·have c3:(pno==no)=false:=by rw [beq_eq_false_iff_ne];omega
            clear hcut h
            as_aux_lemma=>
             -- R21:the accounts rise
             refine Z4 Zk [] (by kernel_rfl) (by kernel_rfl) ?_
             intro w1 hw1
             have p0:∀u:ExtOf w1,u.to.cell? ⟨g4,(ik-1).toNat*7,none⟩=some (.int .i64 pno):=fun u=>(Zd ((Xt E1x (Xt hw1 u.h)).block hlt4)).trans q0
             have p0x:∀u:ExtOf w1,u.to.cell? ⟨g4,(ik.toNat-1)*7,none⟩=some (.int .i64 pno):=fun u=>(Zd ((Xt E1x (Xt hw1 u.h)).block hlt4)).trans q0x
             have p1:∀u:ExtOf w1,u.to.cell? ⟨g4,(ik-1).toNat*7+1,none⟩=some (.int .i64 pst):=fun u=>(Zd ((Xt E1x (Xt hw1 u.h)).block hlt4)).trans q1
             have p1x:∀u:ExtOf w1,u.to.cell? ⟨g4,(ik.toNat-1)*7+1,none⟩=some (.int .i64 pst):=fun u=>(Zd ((Xt E1x (Xt hw1 u.h)).block hlt4)).trans q1x
             have y0:=fun u:ExtOf w1=>Za (j:=0) ((Xt hw1 u.h).at hxa) rfl
             have y1:=fun u:ExtOf w1=>Za (j:=1) ((Xt hw1 u.h).at hxa) rfl
             have p3:∀u:ExtOf w1,u.to.cell? ⟨g4,(ik-1).toNat*7+3,none⟩=some (.int .u8 ppa):=fun u=>(Zd ((Xt E1x (Xt hw1 u.h)).block hlt4)).trans q3
             have p3x:∀u:ExtOf w1,u.to.cell? ⟨g4,(ik.toNat-1)*7+3,none⟩=some (.int .u8 ppa):=fun u=>(Zd ((Xt E1x (Xt hw1 u.h)).block hlt4)).trans q3x
             have p4:∀u:ExtOf w1,u.to.cell? ⟨g4,(ik-1).toNat*7+4,none⟩=some (.int .u8 pcu):=fun u=>(Zd ((Xt E1x (Xt hw1 u.h)).block hlt4)).trans q4
             have p4x:∀u:ExtOf w1,u.to.cell? ⟨g4,(ik.toNat-1)*7+4,none⟩=some (.int .u8 pcu):=fun u=>(Zd ((Xt E1x (Xt hw1 u.h)).block hlt4)).trans q4x
             have y3:=fun u:ExtOf w1=>Za (j:=3) ((Xt hw1 u.h).at hxa) rfl
             have y4:=fun u:ExtOf w1=>Za (j:=4) ((Xt hw1 u.h).at hxa) rfl
             simp only [Zj,Rg.hsB,Nat.reduceAdd,↓reduceIte]
             repeat (go_big_quiet_step ((fail)))
             refine wpQuiet_nil ?_
             refine Y8 (by kernel_rfl) ?_
             intro wm em em'
             try simp only [Act.put,Rg.puC,Rg.puB]
             go_wp2_with fail
             exact key23 _ _ rfl em
           ·have c3:(pst==st)=false:=by rw [beq_eq_false_iff_ne];omega
            clear hcut h
            as_aux_lemma=>
             -- R21:the accounts rise
             refine Z4 Zk [] (by kernel_rfl) (by kernel_rfl) ?_
             intro w1 hw1
             have p0:∀u:ExtOf w1,u.to.cell? ⟨g4,(ik-1).toNat*7,none⟩=some (.int .i64 pno):=fun u=>(Zd ((Xt E1x (Xt hw1 u.h)).block hlt4)).trans q0
             have p0x:∀u:ExtOf w1,u.to.cell? ⟨g4,(ik.toNat-1)*7,none⟩=some (.int .i64 pno):=fun u=>(Zd ((Xt E1x (Xt hw1 u.h)).block hlt4)).trans q0x
             have p1:∀u:ExtOf w1,u.to.cell? ⟨g4,(ik-1).toNat*7+1,none⟩=some (.int .i64 pst):=fun u=>(Zd ((Xt E1x (Xt hw1 u.h)).block hlt4)).trans q1
             have p1x:∀u:ExtOf w1,u.to.cell? ⟨g4,(ik.toNat-1)*7+1,none⟩=some (.int .i64 pst):=fun u=>(Zd ((Xt E1x (Xt hw1 u.h)).block hlt4)).trans q1x
             have y0:=fun u:ExtOf w1=>Za (j:=0) ((Xt hw1 u.h).at hxa) rfl
             have y1:=fun u:ExtOf w1=>Za (j:=1) ((Xt hw1 u.h).at hxa) rfl
             have p3:∀u:ExtOf w1,u.to.cell? ⟨g4,(ik-1).toNat*7+3,none⟩=some (.int .u8 ppa):=fun u=>(Zd ((Xt E1x (Xt hw1 u.h)).block hlt4)).trans q3
             have p3x:∀u:ExtOf w1,u.to.cell? ⟨g4,(ik.toNat-1)*7+3,none⟩=some (.int .u8 ppa):=fun u=>(Zd ((Xt E1x (Xt hw1 u.h)).block hlt4)).trans q3x
             have p4:∀u:ExtOf w1,u.to.cell? ⟨g4,(ik-1).toNat*7+4,none⟩=some (.int .u8 pcu):=fun u=>(Zd ((Xt E1x (Xt hw1 u.h)).block hlt4)).trans q4
             have p4x:∀u:ExtOf w1,u.to.cell? ⟨g4,(ik.toNat-1)*7+4,none⟩=some (.int .u8 pcu):=fun u=>(Zd ((Xt E1x (Xt hw1 u.h)).block hlt4)).trans q4x
             have y3:=fun u:ExtOf w1=>Za (j:=3) ((Xt hw1 u.h).at hxa) rfl
             have y4:=fun u:ExtOf w1=>Za (j:=4) ((Xt hw1 u.h).at hxa) rfl
             simp only [Zj,Rg.hsB,Nat.reduceAdd,↓reduceIte]
             repeat (go_big_quiet_step ((fail)))
             refine wpQuiet_nil ?_
             refine Y8 (by kernel_rfl) ?_
             intro wm em em'
             try simp only [Act.put,Rg.puC,Rg.puB]
             go_wp2_with fail
             exact key23 _ _ rfl em
           ·have c2:decide (ppa > pa)=false:=by simp;omega
            have c3:(ppa==pa)=false:=by rw [beq_eq_false_iff_ne];omega
            clear hcut h
            as_aux_lemma=>
             -- R21:the accounts rise
             refine Z4 Zk [] (by kernel_rfl) (by kernel_rfl) ?_
             intro w1 hw1
             have p0:∀u:ExtOf w1,u.to.cell? ⟨g4,(ik-1).toNat*7,none⟩=some (.int .i64 pno):=fun u=>(Zd ((Xt E1x (Xt hw1 u.h)).block hlt4)).trans q0
             have p0x:∀u:ExtOf w1,u.to.cell? ⟨g4,(ik.toNat-1)*7,none⟩=some (.int .i64 pno):=fun u=>(Zd ((Xt E1x (Xt hw1 u.h)).block hlt4)).trans q0x
             have p1:∀u:ExtOf w1,u.to.cell? ⟨g4,(ik-1).toNat*7+1,none⟩=some (.int .i64 pst):=fun u=>(Zd ((Xt E1x (Xt hw1 u.h)).block hlt4)).trans q1
             have p1x:∀u:ExtOf w1,u.to.cell? ⟨g4,(ik.toNat-1)*7+1,none⟩=some (.int .i64 pst):=fun u=>(Zd ((Xt E1x (Xt hw1 u.h)).block hlt4)).trans q1x
             have y0:=fun u:ExtOf w1=>Za (j:=0) ((Xt hw1 u.h).at hxa) rfl
             have y1:=fun u:ExtOf w1=>Za (j:=1) ((Xt hw1 u.h).at hxa) rfl
             have p3:∀u:ExtOf w1,u.to.cell? ⟨g4,(ik-1).toNat*7+3,none⟩=some (.int .u8 ppa):=fun u=>(Zd ((Xt E1x (Xt hw1 u.h)).block hlt4)).trans q3
             have p3x:∀u:ExtOf w1,u.to.cell? ⟨g4,(ik.toNat-1)*7+3,none⟩=some (.int .u8 ppa):=fun u=>(Zd ((Xt E1x (Xt hw1 u.h)).block hlt4)).trans q3x
             have p4:∀u:ExtOf w1,u.to.cell? ⟨g4,(ik-1).toNat*7+4,none⟩=some (.int .u8 pcu):=fun u=>(Zd ((Xt E1x (Xt hw1 u.h)).block hlt4)).trans q4
             have p4x:∀u:ExtOf w1,u.to.cell? ⟨g4,(ik.toNat-1)*7+4,none⟩=some (.int .u8 pcu):=fun u=>(Zd ((Xt E1x (Xt hw1 u.h)).block hlt4)).trans q4x
             have y3:=fun u:ExtOf w1=>Za (j:=3) ((Xt hw1 u.h).at hxa) rfl
             have y4:=fun u:ExtOf w1=>Za (j:=4) ((Xt hw1 u.h).at hxa) rfl
             simp only [Zj,Rg.hsB,Nat.reduceAdd,↓reduceIte]
             repeat (go_big_quiet_step ((fail)))
             refine wpQuiet_nil ?_
             refine Y8 (by kernel_rfl) ?_
             intro wm em em'
             try simp only [Act.put,Rg.puC,Rg.puB]
             go_wp2_with fail
             exact key23 _ _ rfl em
           have c2:decide (pcu>=(cn:Int))=false:=by simp;omega
           clear hcut h
           as_aux_lemma=>
            -- R21:the accounts rise
            refine Z4 Zk [] (by kernel_rfl) (by kernel_rfl) ?_
            intro w1 hw1
            have p0:∀u:ExtOf w1,u.to.cell? ⟨g4,(ik-1).toNat*7,none⟩=some (.int .i64 pno):=fun u=>(Zd ((Xt E1x (Xt hw1 u.h)).block hlt4)).trans q0
            have p0x:∀u:ExtOf w1,u.to.cell? ⟨g4,(ik.toNat-1)*7,none⟩=some (.int .i64 pno):=fun u=>(Zd ((Xt E1x (Xt hw1 u.h)).block hlt4)).trans q0x
            have p1:∀u:ExtOf w1,u.to.cell? ⟨g4,(ik-1).toNat*7+1,none⟩=some (.int .i64 pst):=fun u=>(Zd ((Xt E1x (Xt hw1 u.h)).block hlt4)).trans q1
            have p1x:∀u:ExtOf w1,u.to.cell? ⟨g4,(ik.toNat-1)*7+1,none⟩=some (.int .i64 pst):=fun u=>(Zd ((Xt E1x (Xt hw1 u.h)).block hlt4)).trans q1x
            have y0:=fun u:ExtOf w1=>Za (j:=0) ((Xt hw1 u.h).at hxa) rfl
            have y1:=fun u:ExtOf w1=>Za (j:=1) ((Xt hw1 u.h).at hxa) rfl
            have p3:∀u:ExtOf w1,u.to.cell? ⟨g4,(ik-1).toNat*7+3,none⟩=some (.int .u8 ppa):=fun u=>(Zd ((Xt E1x (Xt hw1 u.h)).block hlt4)).trans q3
            have p3x:∀u:ExtOf w1,u.to.cell? ⟨g4,(ik.toNat-1)*7+3,none⟩=some (.int .u8 ppa):=fun u=>(Zd ((Xt E1x (Xt hw1 u.h)).block hlt4)).trans q3x
            have p4:∀u:ExtOf w1,u.to.cell? ⟨g4,(ik-1).toNat*7+4,none⟩=some (.int .u8 pcu):=fun u=>(Zd ((Xt E1x (Xt hw1 u.h)).block hlt4)).trans q4
            have p4x:∀u:ExtOf w1,u.to.cell? ⟨g4,(ik.toNat-1)*7+4,none⟩=some (.int .u8 pcu):=fun u=>(Zd ((Xt E1x (Xt hw1 u.h)).block hlt4)).trans q4x
            have y3:=fun u:ExtOf w1=>Za (j:=3) ((Xt hw1 u.h).at hxa) rfl
            have y4:=fun u:ExtOf w1=>Za (j:=4) ((Xt hw1 u.h).at hxa) rfl
            simp only [Zj,Rg.hsB,Nat.reduceAdd,↓reduceIte]
            repeat (go_big_quiet_step ((fail)))
            refine wpQuiet_nil ?_
            refine Y8 (by kernel_rfl) ?_
            intro wm em em'
            try simp only [Act.put,Rg.puC,Rg.puB]
            go_wp2_with fail
            exact key23 _ _ rfl em
         clear h2
         by_cases hk0:k=0
         ·as_aux_lemma=>
           have g0:decide (ik > 0)=false:=by have:=HKI.out;simp;omega
           refine Z4 Zk [] (by kernel_rfl) (by kernel_rfl) ?_
           intro w1 hw1
           simp only [Zj,Rg.hsB,Nat.reduceAdd,↓reduceIte]
           repeat (go_big_quiet_step ((fail)))
           refine wpQuiet_nil ?_
           refine Y8 (by kernel_rfl) ?_
           intro wm em em'
           try simp only [Act.put,Rg.puC,Rg.puB]
           go_wp2_with fail
           exact key21 _ _ rfl em
         ·
          have g0:decide (ik > 0)=true:=by have:=HKI.out;simp;omega
          obtain ⟨hp,hup,hcut⟩:=HPV.out (k-1) (by omega)
          have q0:=hc4 ((k-1)*7+0) _ (X2 es (k-1) 0 hp (by omega))
          have q1:=hc4 ((k-1)*7+1) _ (X2 es (k-1) 1 hp (by omega))
          have q3:=hc4 ((k-1)*7+3) _ (X2 es (k-1) 3 hp (by omega))
          have q4:=hc4 ((k-1)*7+4) _ (X2 es (k-1) 4 hp (by omega))
          generalize (es[k-1]'hp)=pv at *
          obtain ⟨pno,pst,pkd,ppa,pcu,pnn,psm⟩:=pv
          simp only [Nat.add_zero] at q0 q1 q3 q4 hup hcut
          have hxk:(ik-1).toNat=k-1:=by have:=HKI.out;omega
          have hxk2:ik.toNat-1=k-1:=by have:=HKI.out;omega
          have q0x:=q0
          have q1x:=q1
          have q3x:=q3
          have q4x:=q4
          rw [<-hxk] at q0 q1 q3 q4
          rw [<-hxk2] at q0x q1x q3x q4x
          have i1:(0:Int)<=ik-1:=by have:=HKI.out;omega
          have i2:ik-1<(es.length:Int):=by have:=HKI.out;omega
          have i3: -9223372036854775808<=ik-1:=by omega
          have i4:ik-1<=9223372036854775807:=by omega
          clear hxk hxk2
          unfold Zsv at hup
          simp only at hup
          rcases hup with h | ⟨rfl,h | ⟨rfl,h⟩⟩
          ·have c1:(pno !=no)=true:=by rw [bne_iff_ne];omega
           have c2:decide (pno > no)=false:=by simp;omega
           have c3:(pno==no)=false:=by rw [beq_eq_false_iff_ne];omega
           have HCUT:=Lib.hid (hcut (.inl (by omega)))
           clear hcut h
           as_aux_lemma=>
            -- another step:what was summed is 0
            refine Z4 Zk [] (by kernel_rfl) (by kernel_rfl) ?_
            intro w1 hw1
            have p0:∀u:ExtOf w1,u.to.cell? ⟨g4,(ik-1).toNat*7,none⟩=some (.int .i64 pno):=fun u=>(Zd ((Xt E1x (Xt hw1 u.h)).block hlt4)).trans q0
            have p0x:∀u:ExtOf w1,u.to.cell? ⟨g4,(ik.toNat-1)*7,none⟩=some (.int .i64 pno):=fun u=>(Zd ((Xt E1x (Xt hw1 u.h)).block hlt4)).trans q0x
            have p1:∀u:ExtOf w1,u.to.cell? ⟨g4,(ik-1).toNat*7+1,none⟩=some (.int .i64 pst):=fun u=>(Zd ((Xt E1x (Xt hw1 u.h)).block hlt4)).trans q1
            have p1x:∀u:ExtOf w1,u.to.cell? ⟨g4,(ik.toNat-1)*7+1,none⟩=some (.int .i64 pst):=fun u=>(Zd ((Xt E1x (Xt hw1 u.h)).block hlt4)).trans q1x
            have y0:=fun u:ExtOf w1=>Za (j:=0) ((Xt hw1 u.h).at hxa) rfl
            have y1:=fun u:ExtOf w1=>Za (j:=1) ((Xt hw1 u.h).at hxa) rfl
            simp only [Zj,Rg.hsB,Nat.reduceAdd,↓reduceIte]
            repeat (go_big_quiet_step ((fail)))
            refine wpQuiet_nil ?_
            refine Y8 (by kernel_rfl) ?_
            intro wm em em'
            try simp only [Act.put,Rg.puC,Rg.puB]
            clear p0 p1 p0x p1x y0 y1 hw1
            have Ia:=Ia.ext em
            have hxa:=em.at hxa
            have E1x:=Xt E1x em
            go_wp2_with fail
            refine Z4 Zk [] (by kernel_rfl) (by kernel_rfl) ?_
            intro w1 hw1
            have p0:∀u:ExtOf w1,u.to.cell? ⟨g4,(ik-1).toNat*7,none⟩=some (.int .i64 pno):=fun u=>(Zd ((Xt E1x (Xt hw1 u.h)).block hlt4)).trans q0
            have p0x:∀u:ExtOf w1,u.to.cell? ⟨g4,(ik.toNat-1)*7,none⟩=some (.int .i64 pno):=fun u=>(Zd ((Xt E1x (Xt hw1 u.h)).block hlt4)).trans q0x
            have p1:∀u:ExtOf w1,u.to.cell? ⟨g4,(ik-1).toNat*7+1,none⟩=some (.int .i64 pst):=fun u=>(Zd ((Xt E1x (Xt hw1 u.h)).block hlt4)).trans q1
            have p1x:∀u:ExtOf w1,u.to.cell? ⟨g4,(ik.toNat-1)*7+1,none⟩=some (.int .i64 pst):=fun u=>(Zd ((Xt E1x (Xt hw1 u.h)).block hlt4)).trans q1x
            have y0:=fun u:ExtOf w1=>Za (j:=0) ((Xt hw1 u.h).at hxa) rfl
            have y1:=fun u:ExtOf w1=>Za (j:=1) ((Xt hw1 u.h).at hxa) rfl
            simp only [Zj,Rg.hsB,Nat.reduceAdd,↓reduceIte]
            repeat (go_big_quiet_step ((fail)))
            refine wpQuiet_nil ?_
            refine Y8 (by kernel_rfl) ?_
            intro wn en en'
            try simp only [Act.put,Rg.puC,Rg.puB]
            clear p0 p1 p0x p1x y0 y1 hw1
            have Ia:=Ia.ext en
            have Emn:=Xt em en
            clear em en
            go_wp2_with fail
            go_loopw [4,12] (fun _ jv wq=>∃d:Nat,d<=9/\jv= .int .i64 d/\Ext wn wq) (fun _ jv _=>9-(intOf jv).toNat)
            case atStart=>exact ⟨0,by omega,rfl,Ext.refl _⟩
            obtain ⟨d,hd,rfl,ed⟩:=hrel
            have Ia:=Ia.ext ed
            by_cases hd9:d<9
            ·have cd:wr.cell? ⟨b8,d,none⟩=some (.int .i64 0):=Za (j:=d) Ia.s (by rw [List.getElem?_toArray,Zbn es k d hd9,HCUT.out])
             have g1:decide ((d:Int)<=8)=true:=by simp;omega
             have g2:(0:Int)<=(d:Int):=by omega
             have g3:(d:Int)<9:=by omega
             go_wp2_with fail
             exact ⟨⟨d+1,by omega,by go_num,ed⟩,by simp [intOf];omega⟩
            have hd':d=9:=by omega
            subst hd'
            go_wp2_with fail
            exact key21 _ _ rfl (Xt Emn ed)
          ·have c1:(pst !=st)=true:=by rw [bne_iff_ne];omega
           have c2:decide (pst > st)=false:=by simp;omega
           have c3:(pst==st)=false:=by rw [beq_eq_false_iff_ne];omega
           have HCUT:=Lib.hid (hcut (.inr (by omega)))
           clear hcut h
           as_aux_lemma=>
            -- another step:what was summed is 0
            refine Z4 Zk [] (by kernel_rfl) (by kernel_rfl) ?_
            intro w1 hw1
            have p0:∀u:ExtOf w1,u.to.cell? ⟨g4,(ik-1).toNat*7,none⟩=some (.int .i64 pno):=fun u=>(Zd ((Xt E1x (Xt hw1 u.h)).block hlt4)).trans q0
            have p0x:∀u:ExtOf w1,u.to.cell? ⟨g4,(ik.toNat-1)*7,none⟩=some (.int .i64 pno):=fun u=>(Zd ((Xt E1x (Xt hw1 u.h)).block hlt4)).trans q0x
            have p1:∀u:ExtOf w1,u.to.cell? ⟨g4,(ik-1).toNat*7+1,none⟩=some (.int .i64 pst):=fun u=>(Zd ((Xt E1x (Xt hw1 u.h)).block hlt4)).trans q1
            have p1x:∀u:ExtOf w1,u.to.cell? ⟨g4,(ik.toNat-1)*7+1,none⟩=some (.int .i64 pst):=fun u=>(Zd ((Xt E1x (Xt hw1 u.h)).block hlt4)).trans q1x
            have y0:=fun u:ExtOf w1=>Za (j:=0) ((Xt hw1 u.h).at hxa) rfl
            have y1:=fun u:ExtOf w1=>Za (j:=1) ((Xt hw1 u.h).at hxa) rfl
            simp only [Zj,Rg.hsB,Nat.reduceAdd,↓reduceIte]
            repeat (go_big_quiet_step ((fail)))
            refine wpQuiet_nil ?_
            refine Y8 (by kernel_rfl) ?_
            intro wm em em'
            try simp only [Act.put,Rg.puC,Rg.puB]
            clear p0 p1 p0x p1x y0 y1 hw1
            have Ia:=Ia.ext em
            have hxa:=em.at hxa
            have E1x:=Xt E1x em
            go_wp2_with fail
            refine Z4 Zk [] (by kernel_rfl) (by kernel_rfl) ?_
            intro w1 hw1
            have p0:∀u:ExtOf w1,u.to.cell? ⟨g4,(ik-1).toNat*7,none⟩=some (.int .i64 pno):=fun u=>(Zd ((Xt E1x (Xt hw1 u.h)).block hlt4)).trans q0
            have p0x:∀u:ExtOf w1,u.to.cell? ⟨g4,(ik.toNat-1)*7,none⟩=some (.int .i64 pno):=fun u=>(Zd ((Xt E1x (Xt hw1 u.h)).block hlt4)).trans q0x
            have p1:∀u:ExtOf w1,u.to.cell? ⟨g4,(ik-1).toNat*7+1,none⟩=some (.int .i64 pst):=fun u=>(Zd ((Xt E1x (Xt hw1 u.h)).block hlt4)).trans q1
            have p1x:∀u:ExtOf w1,u.to.cell? ⟨g4,(ik.toNat-1)*7+1,none⟩=some (.int .i64 pst):=fun u=>(Zd ((Xt E1x (Xt hw1 u.h)).block hlt4)).trans q1x
            have y0:=fun u:ExtOf w1=>Za (j:=0) ((Xt hw1 u.h).at hxa) rfl
            have y1:=fun u:ExtOf w1=>Za (j:=1) ((Xt hw1 u.h).at hxa) rfl
            simp only [Zj,Rg.hsB,Nat.reduceAdd,↓reduceIte]
            repeat (go_big_quiet_step ((fail)))
            refine wpQuiet_nil ?_
            refine Y8 (by kernel_rfl) ?_
            intro wn en en'
            try simp only [Act.put,Rg.puC,Rg.puB]
            clear p0 p1 p0x p1x y0 y1 hw1
            have Ia:=Ia.ext en
            have Emn:=Xt em en
            clear em en
            go_wp2_with fail
            go_loopw [4,12] (fun _ jv wq=>∃d:Nat,d<=9/\jv= .int .i64 d/\Ext wn wq) (fun _ jv _=>9-(intOf jv).toNat)
            case atStart=>exact ⟨0,by omega,rfl,Ext.refl _⟩
            obtain ⟨d,hd,rfl,ed⟩:=hrel
            have Ia:=Ia.ext ed
            by_cases hd9:d<9
            ·have cd:wr.cell? ⟨b8,d,none⟩=some (.int .i64 0):=Za (j:=d) Ia.s (by rw [List.getElem?_toArray,Zbn es k d hd9,HCUT.out])
             have g1:decide ((d:Int)<=8)=true:=by simp;omega
             have g2:(0:Int)<=(d:Int):=by omega
             have g3:(d:Int)<9:=by omega
             go_wp2_with fail
             exact ⟨⟨d+1,by omega,by go_num,ed⟩,by simp [intOf];omega⟩
            have hd':d=9:=by omega
            subst hd'
            go_wp2_with fail
            exact key21 _ _ rfl (Xt Emn ed)
          as_aux_lemma=>
           clear hcut h
           refine Z4 Zk [] (by kernel_rfl) (by kernel_rfl) ?_
           intro w1 hw1
           have p0:∀u:ExtOf w1,u.to.cell? ⟨g4,(ik-1).toNat*7,none⟩=some (.int .i64 pno):=fun u=>(Zd ((Xt E1x (Xt hw1 u.h)).block hlt4)).trans q0
           have p0x:∀u:ExtOf w1,u.to.cell? ⟨g4,(ik.toNat-1)*7,none⟩=some (.int .i64 pno):=fun u=>(Zd ((Xt E1x (Xt hw1 u.h)).block hlt4)).trans q0x
           have p1:∀u:ExtOf w1,u.to.cell? ⟨g4,(ik-1).toNat*7+1,none⟩=some (.int .i64 pst):=fun u=>(Zd ((Xt E1x (Xt hw1 u.h)).block hlt4)).trans q1
           have p1x:∀u:ExtOf w1,u.to.cell? ⟨g4,(ik.toNat-1)*7+1,none⟩=some (.int .i64 pst):=fun u=>(Zd ((Xt E1x (Xt hw1 u.h)).block hlt4)).trans q1x
           have y0:=fun u:ExtOf w1=>Za (j:=0) ((Xt hw1 u.h).at hxa) rfl
           have y1:=fun u:ExtOf w1=>Za (j:=1) ((Xt hw1 u.h).at hxa) rfl
           simp only [Zj,Rg.hsB,Nat.reduceAdd,↓reduceIte]
           repeat (go_big_quiet_step ((fail)))
           refine wpQuiet_nil ?_
           refine Y8 (by kernel_rfl) ?_
           intro wm em em'
           try simp only [Act.put,Rg.puC,Rg.puB]
           go_wp2_with fail
           exact key21 _ _ rfl em
        clear h1
        refine Z4 Zk [] (by kernel_rfl) (by kernel_rfl) ?_
        intro w1 hw1
        have y0:=fun u:ExtOf w1=>Za (j:=0) ((Xt hw1 u.h).at hxa) rfl
        have y1:=fun u:ExtOf w1=>Za (j:=1) ((Xt hw1 u.h).at hxa) rfl
        have y2:=fun u:ExtOf w1=>Za (j:=2) ((Xt hw1 u.h).at hxa) rfl
        have y3:=fun u:ExtOf w1=>Za (j:=3) ((Xt hw1 u.h).at hxa) rfl
        have y4:=fun u:ExtOf w1=>Za (j:=4) ((Xt hw1 u.h).at hxa) rfl
        have y5:=fun u:ExtOf w1=>Za (j:=5) ((Xt hw1 u.h).at hxa) rfl
        have m0:∀u:ExtOf w1,u.to.cell? ⟨ga,off+(no-1).toNat,none⟩=_:=fun u=>(Zd ((Xt Er (Xt hw1 u.h)).block hlt)).trans hmc
        have m2:∀u:ExtOf w1,u.to.cell? ⟨ga,off+(no.toNat-1),none⟩=_:=fun u=>(Zd ((Xt Er (Xt hw1 u.h)).block hlt)).trans hmc2
        have m1:∀u:ExtOf w1,u.to.cell? ⟨gs,offs+st.toNat*10,none⟩=_:=fun u=>(Zd ((Xt Er (Xt hw1 u.h)).block hlts)).trans hkc
        simp only [Zj,Rg.hsB,Nat.reduceAdd,↓reduceIte]
        iterate 25 (go_big_quiet_step (fail))
        as_aux_lemma=>
         iterate 25 (go_big_quiet_step (fail))
         as_aux_lemma=>
          repeat (go_big_quiet_step (fail))
          cases hb3:(kd !=3)
          rotate_left
          focus
           repeat (go_big_quiet_step (fail))
           cases hb4:(kd !=4)
           rotate_left
           focus
            have hb5:(kd !=5)=false:=by
             rcases hkd3 with rfl | rfl | rfl
             ·simp at hb3
             ·simp at hb4
             rfl
          all_goals
           repeat (go_big_quiet_step (fail))
           refine wpQuiet_nil ?_
           refine Y8 (by kernel_rfl) ?_
           intro wo eo eo'
           try simp only [Act.put,Rg.puC,Rg.puB]
           clear y0 y1 y2 y3 y4 y5 m0 m1 m2 hw1
           go_wp2_with fail
           exact key13 _ _ rfl eo
      as_aux_lemma=>
       have hk':k=es.length:=by omega
       subst hk'
       clear k4 r4
       go_wp2_with fail
       go_loopw [4,13,269,270,271,272,273,274,275,276,277,278,279,280,281,282,283,284,285,286] (fun _ jv _ _ _ _ _ _ _ _ _ _ _ _ _ _ _ _ _ _ wr=>∃d:Nat,d<=9/\jv= .int .i64 d/\EvI w4 b8 b9 es es.length wr) (fun _ jv _ _ _ _ _ _ _ _ _ _ _ _ _ _ _ _ _ _ _=>9-(intOf jv).toNat)
       case atStart=>exact ⟨0,by omega,rfl,I⟩
       clear I
       obtain ⟨d,hd,rfl,I⟩:=hrel
       by_cases hd9:d<9
       ·have g1:decide ((d:Int)<=8)=true:=by simp;omega
        have g2:(0:Int)<=(d:Int):=by omega
        have g3:(d:Int)<9:=by omega
        by_cases hd0:d=0
        ·subst hd0
         clear g1 g2 g3
         go_wp2_with fail
         refine Z4 Zk [] (by kernel_rfl) (by kernel_rfl) ?_
         intro w1 hw1
         have cs:∀u:ExtOf w1,u.to.cell? ⟨b8,0,none⟩=some (.int .i64 0):=fun u=>Za (j:=0) ((Xt hw1 u.h).at I.s) (by rw [List.getElem?_toArray,Zbn es _ 0 hd9,List.take_length,HEV.out.ev.zero])
         simp only [Zj,Rg.hsB,Nat.reduceAdd,↓reduceIte]
         repeat (go_big_quiet_step ((fail)))
         refine wpQuiet_nil ?_
         refine Y8 (by kernel_rfl) ?_
         intro wn en en'
         try simp only [Act.put,Rg.puC,Rg.puB]
         clear cs hw1
         go_wp2_with fail
         exact ⟨⟨1,by omega,by first | rfl | go_num,I.ext en⟩,by simp [intOf]⟩
        have g4:decide ((d:Int) > 0)=true:=by simp;omega
        have g6:decide (0<d)=true:=by simp;omega
        have g5:(d:Int)<256:=by omega
        go_wp2_with fail
        refine Z4 Zk [] (by kernel_rfl) (by kernel_rfl) ?_
        intro w1 hw1
        have cs:∀u:ExtOf w1,u.to.cell? ⟨b8,d,none⟩=some (.int .i64 0):=fun u=>Za (j:=d) ((Xt hw1 u.h).at I.s) (by rw [List.getElem?_toArray,Zbn es _ d hd9,List.take_length,HEV.out.ev.zero])
        have cr:∀u:ExtOf w1,u.to.cell? ⟨b9,d,none⟩=some (.int .i64 (Zaq es (d:Int))):=fun u=>Za (j:=d) ((Xt hw1 u.h).at I.r) (by rw [List.getElem?_toArray,Zjh es _ d hd9,List.take_length])
        have htu:=fun u:ExtOf w1=>HTN.out u.to (Xt I.fr (Xt hw1 u.h)) (d:Int)
        simp only [Zj,Rg.hsB,Nat.reduceAdd,↓reduceIte]
        repeat (go_big_quiet_step ((go_at_call 34;exact Ret.cls (htu _))))
        refine wpQuiet_nil ?_
        refine Y8 (by kernel_rfl) ?_
        intro wn en en'
        try simp only [Act.put,Rg.puC,Rg.puB]
        clear cs cr htu hw1
        go_wp2_with fail
        exact ⟨⟨d+1,by omega,by go_num,I.ext en⟩,by simp [intOf];omega⟩
       have hd':d=9:=by omega
       subst hd'
       go_wp2_with fail
       refine (Ze3 _).mono ?_
       rintro e wz ⟨rfl,ez⟩
       go_wp2
       go_ret
       exact ⟨rfl,Xt E4 (Xt I.fr ez)⟩
end Go.Proofs.YtipjchbdogmccaaGreat
