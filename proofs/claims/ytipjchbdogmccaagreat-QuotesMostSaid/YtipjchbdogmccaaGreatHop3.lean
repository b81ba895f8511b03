/- The walk of hops. The walk of Short: a shortest way. -/
import Derived.Test.YtipjchbdogmccaaGreatRtP
import Derived.Laws.MakeOwn
set_option maxHeartbeats 1600000
set_option maxRecDepth 100000
namespace Go.Proofs.YtipjchbdogmccaaGreat
open Go.RowKit Go.Rg Go.BigFrame
structure IsD (w:World) (o:Nat) (d:List Int):Prop where
 row:w.heap[o]? =some (.cells (d.map (Value.int .i64)).toArray 402 (0,0))
 len:d.length=17
theorem IsD.lt {w:World} {o:Nat} {d:List Int} (h:IsD w o d):o<w.heap.size:=Zg h.row
theorem IsD.cell {w:World} {o:Nat} {d:List Int} (h:IsD w o d) (j:Nat) (hj:j<17):w.cell? ⟨o,j,none⟩=some (.int .i64 (d.getD j 0)):=by
 refine Za h.row ?_
 have hl:=h.len
 rw [List.getElem?_toArray,List.getElem?_map,List.getD_eq_getElem?_getD,List.getElem?_eq_getElem (by omega)]
 rfl
theorem IsD.free {w:World} {o:Nat} {d:List Int} (h:IsD w o d) (j:Nat):w.frozen? ⟨o,j,none⟩=false:=frozen_of_row w o j _ _ h.row
theorem IsD.set {w:World} {o:Nat} {d:List Int} (h:IsD w o d) (j:Nat) (x:Int):IsD (w.setCell ⟨o,j,none⟩ (.int .i64 x)) o (d.set j x):=by
 refine ⟨?_,by simpa using h.len⟩
 rw [heap_setCell_same w o j _ _ (.int .i64 x) h.row,List.setIfInBounds_toArray,List.map_set]
theorem IsD.ext {w w':World} {o:Nat} {d:List Int} (h:IsD w o d) (k:Ext w w'):IsD w' o d:=⟨k.at h.row,h.len⟩
theorem rep_set (k:Nat) (hk:k<17):(List.replicate k (17:Int)++List.replicate (17-k) 0).set k 17=List.replicate (k+1) 17++List.replicate (17-(k+1)) 0:=by
 rw [List.set_append_right _ _ (by simp),List.length_replicate,Nat.sub_self,show 17-k=(17-(k+1))+1 by omega,List.replicate_succ,List.set_cons_zero,List.replicate_succ' (n:=k),List.append_assoc]
 rfl
def cellsOf (w:World) (o:Nat):List Int:=match w.heap[o]? with
 | some (.cells a _ _)=>a.toList.map intOf
 | _=>[]
theorem IsD.cells {w:World} {o:Nat} {d:List Int} (h:IsD w o d):cellsOf w o=d:=by
 unfold cellsOf
 rw [h.row]
 simp only [List.map_map]
 have:(intOf∘Value.int IntKind.i64)=id:=by funext x;rfl
 rw [this,List.map_id]
def lenOf:Value->Nat
 | .slice _ n _=>n
 | _=>0
theorem Zbc.lenOf {w:World} {base:Nat} {v:Value} {q:List Int} (h:Zbc w base v q):lenOf v=q.length:=by
 obtain ⟨b,off,cap,cur,rfl,_⟩:=h;rfl
theorem Zbc.own {w:World} {base:Nat} {v:Value} {q:List Int} (h:Zbc w base v q):∀x,v.ownBlock=some x->base<=x:=by
 obtain ⟨b,off,cap,cur,rfl,hb,_⟩:=h
 intro x hx
 simp [Value.ownBlock] at hx
 omega
theorem Zfw (c:List Int) (a:Int):∀(ps:List Nat) (s:List Int×List Int),s.2.length<=(U4 c a ps s).2.length
 | [],_=>Nat.le_refl _
 | p::ps,s=>by
   unfold U4
   split
   ·refine Nat.le_trans ?_ (Zfw c a ps _)
    simp
   exact Zfw c a ps s
theorem Zan (d:List Int) (k:Nat) (hl:d.length=17) (hk:k<17):d.getD k 0=dAt d k:=by
 unfold dAt
 rw [List.getD_eq_getElem?_getD,List.getD_eq_getElem?_getD,List.getElem?_eq_getElem (by omega)]
 rfl
theorem hops_any (p:Nat) (c:List Int) (t:Nat) (w:World) (h:IsG w p c) (ht:t<=16):
 Calls Tryz.prog 286 #[.pointer (some ⟨p,0,none⟩),.int .u8 t] w (Ret (.agg ((Vr c t).map (Value.int .i64)).toArray) w):=by
 have hA:=Zb w (.cells ((List.replicate 17 (0:Int)).map (Value.int .i64)).toArray 402)
 have eA:=Zc w (.cells ((List.replicate 17 (0:Int)).map (Value.int .i64)).toArray 402)
 have sA:=size_alloc w (.cells ((List.replicate 17 (0:Int)).map (Value.int .i64)).toArray 402)
 go_enter Tryz.func286,Tryz.ntmps286
 go_wp2
 have hW:∃W,W=(w.alloc (.cells ((List.replicate 17 (0:Int)).map (Value.int .i64)).toArray 402)).alloc (.cells ((List.replicate 17 (0:Int)).map (Value.int .i64)).toArray 402):=⟨_,rfl⟩
 obtain ⟨W,hW⟩:=hW
 have hB:=Zb (w.alloc (.cells ((List.replicate 17 (0:Int)).map (Value.int .i64)).toArray 402)) (.cells ((List.replicate 17 (0:Int)).map (Value.int .i64)).toArray 402)
 have eB:=Zc (w.alloc (.cells ((List.replicate 17 (0:Int)).map (Value.int .i64)).toArray 402)) (.cells ((List.replicate 17 (0:Int)).map (Value.int .i64)).toArray 402)
 rw [sA] at hB
 have hAA:=eB.at hA
 rw [<-hW] at hB eB hAA
 have sW:W.heap.size=w.heap.size+2:=by rw [hW,size_alloc,size_alloc]
 have HW:=Lib.hid hW
 clear hW
 refine cast (congrArg (fun X=>Code.wp _ _ _ _ X) HW.out) ?_
 have hD0:IsD W (w.heap.size+1) (List.replicate 17 0):=⟨hB,by simp⟩
 have E0:Ext w W:=Xt eA eB
 clear hA eA sA hB eB
 go_loopw [10] (fun i wr=>∃k:Nat,k<=17/\i= .int .i64 k/\Keep [w.heap.size+1] W wr/\IsD wr (w.heap.size+1) (List.replicate k 17++List.replicate (17-k) 0)) (fun i _=>17-(intOf i).toNat)
 case atStart=>exact ⟨0,Nat.zero_le _,rfl,Keep.refl _ _,hD0⟩
 obtain ⟨k,hk,rfl,k1,hD⟩:=hrel
 by_cases hk17:k<17
 ·have c0:=hD.cell k hk17
  have f0:=hD.free k
  go_wp2
  exact ⟨⟨k+1,by omega,by go_num,k1.setCell (Or.inl (by simp)) _,by have:=hD.set k 17;rwa [rep_set k hk17] at this⟩,by simp [intOf];omega⟩
 have hk17':k=17:=by omega
 subst hk17'
 rw [Nat.sub_self,List.replicate_zero,List.append_nil] at hD
 have hD1:=hD.set t 0
 have f0:=hD.free t
 have c0:=hD.cell t (by omega)
 have s1:W.heap.size<=wr.heap.size:=k1.size
 obtain ⟨W1,hW1⟩:∃W1,W1=wr.setCell ⟨w.heap.size+1,t,none⟩ (.int .i64 0):=⟨_,rfl⟩
 have k2:Keep [w.heap.size+1] W W1:=by rw [hW1];exact k1.setCell (Or.inl (by simp)) _
 rw [<-hW1] at hD1
 have hq0:=Zb W1 (.cells #[.int .u8 t] 24)
 have eq0:=Zc W1 (.cells #[.int .u8 t] 24)
 have z1:W1.heap.size=wr.heap.size:=by rw [hW1];simp [World.setCell]
 rw [z1] at hq0
 have HW1:=Lib.hid hW1
 clear hW1
 go_wp2
 go_loopw [7] (fun v wr=>∃(q d:List Int) (f:Nat),Keep [w.heap.size+1] W wr/\IsD wr (w.heap.size+1) d/\Zbc wr (w.heap.size+2) v q/\BInv c t d q/\2*(17-J1 d)+q.length<=f/\f<=40/\Vr c t=bfs c f d q) (fun v wr=>2*(17-J1 (cellsOf wr (w.heap.size+1)))+lenOf v)
 case atStart=>
  have e:=HW1.out
  subst e
  exact ⟨[(t:Int)],(List.replicate 17 17).set t 0,40,k2.trans (Kx eq0),hD1.ext eq0,Zbc.one (by omega) hq0,BInv.start c t ht,by simp;omega,Nat.le_refl _,by unfold Vr;rw [Int.toNat_natCast]⟩
 obtain ⟨q,d,f,k3,hDq,hQ,hB,hf,hf40,hbfs⟩:=hrel
 have hcells:=hDq.cells
 have hlenQ:=hQ.lenOf
 cases q with
 | nil=>
   obtain ⟨b,off,cap,cur,rfl,hQr⟩:=hQ
   have hfin:Vr c t=d:=by rw [hbfs];cases f<;>rfl
   have hsz:((d.map (Value.int .i64)).toArray).size=17:=by simp [hDq.len]
   have h1:((d.map (Value.int .i64)).toArray).toList.all (·.oneCell')=true:=by simp [Value.oneCell']
   have hres:=(k3.block w.heap.size (by have:=hD0.lt;omega) (by simp)).trans hAA
   have hz:((List.map (Value.int IntKind.i64) (List.replicate 17 0)).toArray).size=17:=by simp
   have ld:(loadVar 402 ⟨w.heap.size+1,0,none⟩).run Tryz.prog wr= .ok (.agg (d.map (Value.int .i64)).toArray) wr:=run_loadVar_row _ _ _ _ _ _ _ hDq.row Tryz.underlying402 rfl (by rw [hsz];kernel_rfl)
   generalize hdc:(d.map (Value.int .i64)).toArray=dc at *
   generalize (List.map (Value.int IntKind.i64) (List.replicate 17 0)).toArray=zc at *
   go_wp2_with (first
    | (refine Zd rfl 402 _ _ _ rfl rfl ld ?_)
    | (refine Ze rfl rfl 402 _ _ rfl w.heap.size _ rfl rfl 402 _ hres (by rw [hsz];kernel_rfl) (by rw [hz,hsz]) h1 ?_;intro w3 hb3 ho3 hs3))
   have hfr:∀x∈[w.heap.size+1],x∈([]:List Nat)\/w.heap.size<=x:=by
    intro x hx
    simp at hx
    right;omega
   have e3:Ext w wr:=(Keep.trans_fresh (S:=[]) (Kx E0) k3 hfr).ext
   exact Yp w.heap.size 402 _ _ _ rfl rfl hs3 Tryz.underlying402 rfl (by rw [hsz];kernel_rfl) rfl ⟨by rw [hfin,hdc],hb3 _ _ (Nat.le_refl _) e3⟩
 | cons a q=>
   obtain ⟨ka,rfl,hka,hfa⟩:=hB.qin a (by simp)
   obtain ⟨hB',hm'⟩:=hB.step
   obtain ⟨f,rfl⟩:∃f',f=f'+1:=⟨f-1,by simp at hf;omega⟩
   have hbf2:Vr c t=bfs c f (U4 c ka (List.range' 1 16) (d,q)).1 (U4 c ka (List.range' 1 16) (d,q)).2:=hbfs
   have hS2:(U4 c ka (List.range' 1 16) (d,q)).2.length<=40:=by simp at hf hm';omega
   obtain ⟨S,hS⟩:∃S,S=U4 c ka (List.range' 1 16) (d,q):=⟨_,rfl⟩
   rw [<-hS] at hB' hm' hbf2 hS2
   have hl17:=hDq.len
   have ha0:=(hB.rng ka hka).1
   obtain ⟨b,off,cap,rfl,hc1,hc2,hc3,hp1,hp2⟩:=hQ.pop
   have hGG:∀wq,Keep [w.heap.size+1] W wq->IsG wq p c:=fun wq hk=>(h.ext E0).keep hk (by have:=h.ltp;simp;omega)
   have hn63:((q.length:Nat):Int)+1<=9223372036854775807:=by unfold maxLen at hc2;omega
   have hc63:(cap:Int)<=9223372036854775807:=by unfold maxLen at hc2;omega
   clear hbfs hcells hQ
   by_cases hcap:cap=1
   focus
    obtain ⟨rfl,hQ0⟩:=hp2 hcap
    subst hcap
    go_wp2
   rotate_left
   focus
    have hQ0:=hp1 hcap
    have hcap':((cap:Int)=1)=False:=by simp;omega
    go_wp2
    clear hcap'
   all_goals
    go_loopw [7,9] (fun v pv wr=>∃(k:Nat) (q' d':List Int),1<=k/\k<=17/\pv= .int .u8 k/\Keep [w.heap.size+1] W wr/\IsD wr (w.heap.size+1) d'/\Zbc wr (w.heap.size+2) v q'/\S=U4 c ka (List.range' k (17-k)) (d',q')/\d'.getD ka 0=dAt d ka) (fun _ pv _=>17-(intOf pv).toNat)
    case atStart=>exact ⟨1,_,d,by omega,by omega,rfl,k3,hDq,hQ0,hS,Zan d ka hl17 hka⟩
    obtain ⟨k,q',d',hk1,hk17,rfl,k4,hD4,hQ4,hS4,hda⟩:=hrel
    clear hQ0 hp1 hp2 hc3 hc1 hc2 hn63 hc63
    try clear hcap
    by_cases hk:k<17
    ·have hG4:=hGG _ k4
     have ck:=hD4.cell k hk
     have ca:=hD4.cell ka hka
     rw [Zan d' k hD4.len hk] at ck
     rw [hda] at ca
     have fk:=hD4.free k
     have hr1:List.range' k (17-k)=k::List.range' (k+1) (17-(k+1)):=by rw [show 17-k=(17-(k+1))+1 by omega,List.range'_succ]
     rw [hr1] at hS4
     unfold U4 at hS4
     have hS4':S=if dAt d' k=17/\0<Yi c k ka then U4 c ka (List.range' (k+1) (17-(k+1))) (d'.set k (dAt d ka+1),q'++[(k:Int)]) else U4 c ka (List.range' (k+1) (17-(k+1))) (d',q'):=by
      rw [hS4,Int.toNat_natCast]
      simp only
      rw [hda]
      rfl
     have hq64:q'.length<=40:=by
      have:=Zfw c ka (List.range' k (17-k)) (d',q')
      rw [hr1] at this
      unfold U4 at this
      rw [<-hS4] at this
      simp only at this
      omega
     have hD5:=hD4.set k (dAt d ka+1)
     have k5:=k4.setCell (p:=⟨w.heap.size+1,k,none⟩) (Or.inl (by simp)) (.int .i64 (dAt d ka+1))
     clear hS4 hr1 hB hB' hm' hbf2 hS2 hf hf40 hlenQ hDq k3
     try clear hQr
     have hcc:=Zh9 p c k ka wr hG4
     generalize Yi c k ka=cp at hcc hS4'
     by_cases h17:dAt d' k=17
     focus
      rw [h17] at ck
      by_cases hcp:0<cp
      ·rw [if_pos ⟨h17,hcp⟩] at hS4'
       go_wp2_with fail
       refine hcc.mono ?_
       rintro e w' ⟨rfl,rfl⟩
       have ks:Keep [w.heap.size+1] w' (w'.setCell ⟨w.heap.size+1,k,none⟩ (.int .i64 (dAt d ka+1))):=(Keep.refl _ _).setCell (Or.inl (by simp)) _
       have hsw:w.heap.size+2<=w'.heap.size:=by have:=k4.size;omega
       obtain ⟨WA,hWA⟩:∃WA,WA=(w'.setCell ⟨w.heap.size+1,k,none⟩ (.int .i64 (dAt d ka+1))).alloc (.cells #[.int .u8 k] 24):=⟨_,rfl⟩
       have eA:Ext (w'.setCell ⟨w.heap.size+1,k,none⟩ (.int .i64 (dAt d ka+1))) WA:=by rw [hWA];exact Zc _ _
       have hQA:=(hQ4.keep ks (by simp)).ext eA
       have hxA:WA.heap[w'.heap.size]? =some (.cells #[.int .u8 k] 24 (0,0)):=by
        rw [hWA]
        have:=Zb (w'.setCell ⟨w.heap.size+1,k,none⟩ (.int .i64 (dAt d ka+1))) (.cells #[.int .u8 k] 24)
        have hz:(w'.setCell ⟨w.heap.size+1,k,none⟩ (.int .i64 (dAt d ka+1))).heap.size=w'.heap.size:=by simp [World.setCell]
        rwa [hz] at this
       have kA:=k5.trans (Kx eA)
       have hDA:=hD5.ext eA
       obtain ⟨v',w5,hrun,hQ5,hgr⟩:=append_q WA (w.heap.size+2) _ q' k w'.heap.size _ _ hQA (by omega) (Nat.le_trans hsw (Nat.le_trans ks.size eA.size)) hxA
       have hob:=hQA.own
       have kB:Keep [w.heap.size+1] W w5:=Y6 kA hgr (fun x hx=>.inr (by have:=hob x hx;omega))
       have hDB:IsD w5 (w.heap.size+1) (d'.set k (dAt d ka+1)):=⟨(hgr.block _ hDA.lt (fun e=>by have:=hob _ e.symm;omega)).trans hDA.row,hDA.len⟩
       have hda5:(d'.set k (dAt d ka+1)).getD ka 0=dAt d ka:=by
        rw [Zcy _ _ _ _ (by have:=hD4.len;omega),if_neg,hda]
        intro e
        subst e
        rw [Zan d' ka hD4.len hka] at hda
        omega
       rw [hWA] at hrun
       go_wp2_with (refine Jd rfl _ _ 43 rfl _ _ v' w5 rfl rfl hrun ?_)
       first
        | exact ⟨⟨k+1,q'++[(k:Int)],d'.set k (dAt d ka+1),by omega,by omega,by go_num,kB,hDB,hQ5,hS4',hda5⟩,by simp [intOf];omega⟩
        | refine ⟨?_,by simp [intOf];omega⟩
          repeat (apply Exists.intro)
          exact ⟨⟨k+1,q'++[(k:Int)],d'.set k (dAt d ka+1),by omega,by omega,by go_num,kB,hDB,hQ5,hS4',hda5⟩,rfl⟩
      rw [if_neg (fun hh=>hcp hh.2)] at hS4'
      go_wp2_with fail
      refine hcc.mono ?_
      rintro e w' ⟨rfl,rfl⟩
     rotate_left
     focus
      rw [if_neg (fun hh=>h17 hh.1)] at hS4'
      have h17b:(dAt d' k=17)=False:=by simp [h17]
      generalize dAt d' k=dk at *
     all_goals
      go_wp2
      first
       | exact ⟨⟨k+1,q',d',by omega,by omega,by go_num,k4,hD4,hQ4,hS4',hda⟩,by simp [intOf];omega⟩
       | refine ⟨?_,by simp [intOf];omega⟩
         repeat (apply Exists.intro)
         exact ⟨⟨k+1,q',d',by omega,by omega,by go_num,k4,hD4,hQ4,hS4',hda⟩,rfl⟩
    have hk':k=17:=by omega
    subst hk'
    have hSe:S=(d',q'):=hS4
    subst hSe
    go_wp2
    have hff:2*(17-J1 d')+q'.length<=f:=by simp only [List.length_cons,List.length_nil] at hf hm';omega
    have hf4:f<=40:=by omega
    refine ⟨by first | exact ⟨q',d',f,k4,hD4,hQ4,hB',hff,hf4,hbf2⟩ | exact ⟨q',d',hD4,hQ4,hB',f,hff,hf4,rfl⟩,?_⟩
    rw [hD4.cells,hQ4.lenOf,hDq.cells]
    simp only [lenOf,List.length_cons,List.length_nil] at hm' ⊢
    omega
theorem Zn.nil (w:World) (base size:Nat):Zn w base size (.slice none 0 0) 0 []:=Zn.of_own (e:=0) (World.ownsRow_nil _ _ _ _)
theorem made_at (x:Value) (n k:Nat) (h:k<n):(madeCells #[x] n)[k]? =some x:=by
 unfold madeCells
 rw [Array.getElem?_map,Array.getElem?_eq_getElem (by simpa using h)]
 simp [Nat.mod_one]
theorem Zrr {q:Nat} {P:Nat->Bool} {b:Nat} (hf:(List.range' 1 16).find? P=some b) (hq1:1<=q) (hq:q<17) (hno:∀x,1<=x->x<q->P x=false) (hP:P q=true):b=q:=by
 have hb:=List.find?_some hf
 have hm:=(Yw b).1 (List.mem_of_find?_eq_some hf)
 rw [List.find?_eq_some_iff_append] at hf
 obtain ⟨_,l1,l2,he,has⟩:=hf
 have hbq:¬b<q:=fun h=>by rw [hno b hm.1 h] at hb;cases hb
 have hqb:¬q<b:=fun h=>by
  have hqm:q∈l1:=by
   have hsort:(List.range' 1 16).Pairwise (·<·):=List.pairwise_lt_range' ..
   rw [he] at hsort
   have hqin:q∈l1++b::l2:=by rw [<-he];exact (Yw q).2 ⟨hq1,hq⟩
   rcases List.mem_append.1 hqin with h1 | h1
   ·exact h1
   rcases List.mem_cons.1 h1 with rfl | h1
   ·omega
   have:=(List.pairwise_cons.1 (List.pairwise_append.1 hsort).2.1).1 q h1
   omega
  have:=has q hqm
  rw [hP] at this
  cases this
 omega
theorem short_any (p:Nat) (c:List Int) (a t:Int) (w:World) (h:IsG w p c):
 Calls Tryz.prog 257 #[.pointer (some ⟨p,0,none⟩),.int .u8 a,.int .u8 t] w (Zfk 1 (Zq c a t).length ((Zq c a t).map (.int .u8)) w):=by
 have ca:=fun w=>Zez a w
 have ct:=fun w=>Zez t w
 by_cases ha:Zm a=true
 focus
  rw [ha] at ca
  by_cases ht:Zm t=true
  ·rw [ht] at ct
   by_cases hat:a=t
   ·have hs:Zq c a t=[]:=by unfold Zq;simp [hat]
    rw [hs]
    subst hat
    go_enter Tryz.func257,Tryz.ntmps257
    go_wp2_with fail
    refine (ca _).mono ?_
    rintro e w' ⟨rfl,rfl⟩
    go_wp2_with fail
    refine (ct _).mono ?_
    rintro e w' ⟨rfl,rfl⟩
    go_wp2
    go_ret
    exact ⟨_,rfl,Ext.refl _,Zn.nil _ _ _⟩
   have hpa:=ha
   have hpt:=ht
   unfold Zm at hpa hpt
   rw [decide_eq_true_eq] at hpa hpt
   obtain ⟨i,rfl⟩:=Int.eq_ofNat_of_zero_le (show 0<=a by omega)
   obtain ⟨j,rfl⟩:=Int.eq_ofNat_of_zero_le (show 0<=t by omega)
   have hij:i≠j:=fun e=>hat (by rw [e])
   have hs:Zq c i j=Zeb c i j:=by unfold Zq;simp [ha,ht,hat]
   rw [hs]
   have ch:=hops_any p c j w h (by omega)
   have hcapr:=fun (wq:World) (hG:IsG wq p c) (x y:Int)=>((Zh9 p c x y wq hG).mono (fun e w' hh=>(⟨hh.1,hh.2▸Ext.refl _⟩:Ret (.int .i64 (Yi c x y)) wq e w')))
   have hB:=Zcw c j (by omega)
   have hsh:Zeb c i j=if dAt (Vr c j) i=17 then [] else (i:Int)::Zd8 c (Vr c j) (dAt (Vr c j) i).toNat i:=rfl
   generalize Vr c j=d at ch hB hsh
   have hrng:=hB.rng i (by omega)
   have hroot:=hB.root i (by omega)
   have hsz:((d.map (Value.int .i64)).toArray).size=17:=by simp [hB.len]
   have h1:((d.map (Value.int .i64)).toArray).toList.all (·.oneCell')=true:=by simp [Value.oneCell']
   obtain ⟨dc,hdc⟩:∃dc,dc=(d.map (Value.int .i64)).toArray:=⟨_,rfl⟩
   rw [<-hdc] at ch hsz h1
   have HDC:=Lib.hid hdc
   clear hdc
   generalize hS:Zeb c i j=S at *
   have HSH:=Lib.hid hsh
   clear hsh hS hs
   have hij':((i:Int)==(j:Int))=false:=beq_eq_false_iff_ne.2 hat
   have hijd:decide ((i:Int)=(j:Int))=false:=decide_eq_false hat
   go_enter Tryz.func257,Tryz.ntmps257
   go_wp2_with fail
   refine (ca _).mono ?_
   rintro e w' ⟨rfl,rfl⟩
   go_wp2_with fail
   refine (ct _).mono ?_
   rintro e w' ⟨rfl,rfl⟩
   go_wp2_with fail
   refine ch.mono ?_
   rintro e w2 ⟨rfl,e2⟩
   have h0:=Zb w2 (.cells ((List.replicate 17 (0:Int)).map (Value.int .i64)).toArray 402)
   have eA:=Zc w2 (.cells ((List.replicate 17 (0:Int)).map (Value.int .i64)).toArray 402)
   have hz:((List.map (Value.int IntKind.i64) (List.replicate 17 0)).toArray).size=17:=by simp
   have ci:=fun (wq:World) (o:Nat) (hD:IsD wq o d)=>hD.cell i (by omega)
   rw [Zan d i hB.len (by omega)] at ci
   by_cases hfar:dAt d i=17
   ·rw [hfar] at ci
    have hS0:S=[]:=by rw [HSH.out,if_pos hfar]
    subst hS0
    go_wp2_with (first
     | (refine Ze rfl rfl 402 _ _ rfl w2.heap.size _ rfl rfl 402 _ h0 (by rw [hsz];kernel_rfl) (by rw [hz,hsz]) h1 ?_;intro w3 hb3 ho3 hs3;have ci3:=ci w3 w2.heap.size ⟨by rw [hs3,HDC.out],hB.len⟩))
    go_ret
    exact ⟨_,rfl,Xt e2 (hb3 _ _ (Nat.le_refl _) eA),Zn.nil _ _ _⟩
   have h0i:0<dAt d i:=by
    rcases Int.lt_or_eq_of_le hrng.1 with hh | hh
    ·exact hh
    exact absurd (hroot.1 hh.symm) hij
   obtain ⟨dn,hdn⟩:=Int.eq_ofNat_of_zero_le hrng.1
   have hdn1:1<=dn:=by omega
   have hdn16:dn<=16:=by omega
   have hS0:S=(i:Int)::Zd8 c d dn i:=by rw [HSH.out,if_neg hfar,hdn,Int.toNat_natCast]
   rw [hdn] at ci
   have hfb:((dn:Int)==17)=false:=beq_eq_false_iff_ne.2 (by omega)
   obtain ⟨i0,hi,hz0,hz1,hz2⟩:=info_parts Zbv
   have hmk:=fun w3:World=>run_make (P:=Tryz.prog) w3 43 24 i0 (.int .u8 0) Tryz.underlying43 hi hz0 .i64 .i64 1 (dn+1) (by omega) (by omega) (by rw [hz2];omega) (by omega)
   rw [hz1] at hmk
   have hHS:=Lib.hid hS0
   clear hS0 hrng
   go_wp2_with (first
    | (refine Ze rfl rfl 402 _ _ rfl w2.heap.size _ rfl rfl 402 _ h0 (by rw [hsz];kernel_rfl) (by rw [hz,hsz]) h1 ?_;intro w3 hb3 ho3 hs3;have hD3:IsD w3 w2.heap.size d:=⟨by rw [hs3,HDC.out],hB.len⟩;have ci3:=ci w3 w2.heap.size hD3;have hmk3:=hmk w3;have hr3:=Zb w3 (.cells (madeCells #[.int .u8 0] (dn+1)) 24);have hc3:=Za (j:=0) hr3 (made_at (.int .u8 0) (dn+1) 0 (by omega));have hf3:=frozen_of_row _ _ 0 _ _ hr3))
   have e3:Ext w' w3:=Xt e2 (hb3 _ _ (Nat.le_refl _) eA)
   have z3:w2.heap.size+1<=w3.heap.size:=hD3.lt
   have hown0:(w3.alloc (.cells ((madeCells #[.int .u8 0] (dn+1)).setIfInBounds 0 (.int .u8 i)) 24)).ownsRow w3.heap.size 24 1 (.slice (some ⟨w3.heap.size,0,none⟩) 1 (dn+1)) 1 [.int .u8 i]:=by
    refine ⟨rfl,.inr ⟨w3.heap.size,dn+1,_,rfl,Nat.le_refl _,Zb _ _,by omega,by unfold maxLen;omega,by simp [size_madeCells],?_⟩⟩
    have hsz0:0<(madeCells #[Value.int IntKind.u8 0] (dn+1)).size:=by rw [size_madeCells];omega
    apply List.ext_getElem?
    intro k
    rw [List.getElem?_take]
    match k with
    | 0=>simp [hsz0]
    | k+1=>simp
   have bX:Below w3.heap.size w3 (w3.alloc (.cells ((madeCells #[.int .u8 0] (dn+1)).setIfInBounds 0 (.int .u8 i)) 24)):=Zc _ _
   clear hmk hmk3 hr3 hc3 hf3 h0 eA ca ct ch h1 hs3 ho3
   go_loopw [8,9] (fun v x wr=>∃(k:Nat) (pre:List Int) (ao:Option Addr) (cv:Nat),x= .int .u8 k/\k<17/\0<=dAt d k/\dAt d k<17/\S=pre++Zd8 c d (dAt d k).toNat k/\v= .slice ao pre.length cv/\wr.ownsRow w3.heap.size 24 1 v pre.length (pre.map (.int .u8))/\Below w3.heap.size w3 wr) (fun _ x _=>(dAt d (intOf x).toNat).toNat)
   case atStart=>exact ⟨i,[(i:Int)],_,_,rfl,by omega,by omega,by omega,by rw [hdn,Int.toNat_natCast];exact hHS.out,rfl,hown0,bX⟩
   obtain ⟨k,pre,ao,cv,rfl,hk,hk0,hk17,hSk,rfl,hown,hbel⟩:=hrel
   have hD4:IsD wr w2.heap.size d:=hD3.ext hbel
   have hrk:=hB.root k hk
   by_cases hkj:k=j
   ·subst hkj
    have hd0:=hrk.2 rfl
    have hS1:S=pre:=by rw [hSk,hd0];simp [Zd8]
    subst hS1
    clear hrk hroot hd0 hSk
    go_wp2
    go_ret
    obtain ⟨A,cap,hv,q1,q2,q3,q4⟩:=Zn.of_own hown
    refine ⟨_,rfl,Xt e3 hbel,A,cap,hv,q1,q2,q3,?_⟩
    rcases q4 with q4 | ⟨g,q4,q5,q6⟩
    ·exact .inl q4
    exact .inr ⟨g,q4,by have:=e3.size;omega,q6⟩
   have hkp:0<dAt d k:=by
    rcases Int.lt_or_eq_of_le hk0 with hh | hh
    ·exact hh
    exact absurd (hrk.1 hh.symm) hkj
   obtain ⟨s1,s2,s3,s4,s5⟩:=Zfs hB k hk hkp hk17
   generalize hsb:Zdv c d k=b at *
   obtain ⟨kn,hkn⟩:=Int.eq_ofNat_of_zero_le hk0
   obtain ⟨k1,rfl⟩:∃k1,kn=k1+1:=⟨kn-1,by omega⟩
   have hSw:S=pre++(b:Int)::Zd8 c d k1 b:=by
    rw [hSk,hkn,Int.toNat_natCast,<-hsb];rfl
   have hb1:(dAt d b).toNat=k1:=by omega
   have hkjb:((k:Int)==(j:Int))=false:=beq_eq_false_iff_ne.2 (by omega)
   have hkjn:((k:Int)!=(j:Int))=true:=by simp only [bne,hkjb,Bool.not_false]
   have hG4:=h.ext (Xt e3 hbel)
   have hpl:pre.length<=17:=by
    have:S.length=dn+1:=by rw [hHS.out];simp [Zih]
    rw [hSw] at this
    simp at this
    omega
   have ck:=hD4.cell k hk
   rw [Zan d k hB.len hk,hkn] at ck
   clear hSk hrk hroot HSH hsb
   go_wp2
   go_loopw [9,10] (fun y9 x wq=>y9= .int .u8 k/\Below w3.heap.size w3 wq/\wq.ownsRow w3.heap.size 24 1 (.slice ao pre.length cv) pre.length (pre.map (.int .u8))/\∃q:Nat,1<=q/\q<17/\x= .int .u8 q/\∀y,1<=y->y<q->¬(dAt d y=dAt d k-1/\0<Yi c k y)) (fun _ x _=>17-(intOf x).toNat)
   case atStart=>exact ⟨rfl,hbel,hown,1,by omega,by omega,rfl,fun y h1 h2=>by omega⟩
   clear hbel hown hG4 ck hD4
   obtain ⟨rfl,hbel,hown,q,hq1,hq17,rfl,hno⟩:=hrel
   have hD4:=hD3.ext hbel
   have hG4:=h.ext (Xt e3 hbel)
   have ck:=hD4.cell k hk
   rw [Zan d k hB.len hk,hkn] at ck
   have cq:=hD4.cell q hq17
   rw [Zan d q hB.len hq17] at cq
   have hqlt:(q:Int)<17:=by omega
   have e1:dAt d k-1=(k1:Int):=by omega
   by_cases hm:dAt d q=(k1:Int)
   focus
    rw [hm] at cq
    have cq2:=fun (wq:World) (hG:IsG wq p c)=>hcapr wq hG k q
    generalize hcv:Yi c k q=cp at cq2
    by_cases hcp:0<cp
    ·have hbq:q=b:=(Zrr s5 hq1 hq17 (fun y h1 h2=>by simpa using hno y h1 h2) (by rw [decide_eq_true_eq];exact ⟨by omega,by rw [hcv];exact hcp⟩)).symm
     subst hbq
     clear hno s5
     go_wp2
     refine Zh Zl 14 [] (by kernel_rfl) (by kernel_rfl) ?_
     intro w1 hw1
     have hGq:∀u:ExtOf w1,IsG u.to p c:=fun u=>hG4.ext (Xt hw1 u.h)
     have dq1:∀u:ExtOf w1,u.to.cell? ⟨w2.heap.size,q,none⟩=_:=fun u=>(Zf ((Xt hw1 u.h).block hD4.lt)).trans cq
     have dk1:∀u:ExtOf w1,u.to.cell? ⟨w2.heap.size,k,none⟩=_:=fun u=>(Zf ((Xt hw1 u.h).block hD4.lt)).trans ck
     simp only [Zk,Rg.hsB,Nat.reduceAdd,↓reduceIte]
     repeat (go_big_quiet_step ((go_at_call 258;exact Ret.cls (cq2 _ (hGq _)))))
     refine wpQuiet_nil ?_
     refine Zj (by kernel_rfl) ?_
     intro w4 e4 e4'
     simp only [Rg.puB]
     have hown4:=Zo hown e4
     have b4:Below w3.heap.size w3 w4:=Xt hbel e4
     have hsz4:=b4.size
     go_wp2_with (first
      | (at_builtin;refine wpList_append_own _ rfl _ _ 43 rfl w3.heap.size 24 i0 (.int .u8 0) 1 1 Tryz.underlying43 hi hz0 hz1 hz2 rfl (by decide) _ _ _ rfl (hown4.alloc _) ⟨w4.heap.size,0,none⟩ 1 1 [.int .u8 q] rfl rfl (cell_one_new _ _ _) (fun x hx=>by simp at hx;subst hx;rfl) (by unfold maxLen;omega) (by omega) (by simp;omega) ?_;intro v' w5 hown' hgrow3 hnil3))
     obtain ⟨g3,cap3,hv3⟩:∃g3 cap3,v'= .slice (some ⟨g3,0,none⟩) (pre.length+1) cap3:=by
      rcases hown'.2 with ⟨_,hh⟩ | ⟨g3,cap3,_,hh,_⟩
      ·omega
      exact ⟨g3,cap3,hh⟩
     refine ⟨⟨q,pre++[(q:Int)],some ⟨g3,0,none⟩,cap3,rfl,by omega,by omega,by omega,by rw [hSw,hb1];simp,by rw [hv3];simp,?_,(b4.alloc hsz4 _).grown hgrow3 (by simp;omega) (fun q hq=>(hown4.lt q hq).1)⟩,by simp [intOf];omega⟩
     rw [List.map_append,List.length_append]
     exact hown'
    have hno':∀y,1<=y->y<q+1->¬(dAt d y=dAt d k-1/\0<Yi c k y):=fun y h1 h2=>by
     by_cases e:y=q
     ·subst e;rw [hcv];exact fun hh=>hcp hh.2
     exact hno y h1 (by omega)
    have hq16:q+1<17:=by
     rcases Nat.lt_or_ge (q+1) 17 with hh | hh
     ·exact hh
     exact absurd ⟨s3,s4⟩ (hno' b s1 (by omega))
    have HNO:=Lib.hid hno'
   rotate_left
   focus
    have hno':∀y,1<=y->y<q+1->¬(dAt d y=dAt d k-1/\0<Yi c k y):=fun y h1 h2=>by
     by_cases e:y=q
     ·subst e;exact fun hh=>hm (by omega)
     exact hno y h1 (by omega)
    have hq16:q+1<17:=by
     rcases Nat.lt_or_ge (q+1) 17 with hh | hh
     ·exact hh
     exact absurd ⟨s3,s4⟩ (hno' b s1 (by omega))
    have HNO:=Lib.hid hno'
    have hmb:(dAt d q==(k1:Int))=false:=beq_eq_false_iff_ne.2 hm
    generalize dAt d q=dq at cq hmb
   all_goals
    clear hno hno'
    go_wp2
    refine Zh Zl 14 [] (by kernel_rfl) (by kernel_rfl) ?_
    intro w1 hw1
    have hGq:∀u:ExtOf w1,IsG u.to p c:=fun u=>hG4.ext (Xt hw1 u.h)
    have dq1:∀u:ExtOf w1,u.to.cell? ⟨w2.heap.size,q,none⟩=_:=fun u=>(Zf ((Xt hw1 u.h).block hD4.lt)).trans cq
    have dk1:∀u:ExtOf w1,u.to.cell? ⟨w2.heap.size,k,none⟩=_:=fun u=>(Zf ((Xt hw1 u.h).block hD4.lt)).trans ck
    simp only [Zk,Rg.hsB,Nat.reduceAdd,↓reduceIte]
    repeat (go_big_quiet_step ((go_at_call 258;exact Ret.cls (cq2 _ (hGq _)))))
    refine wpQuiet_nil ?_
    refine Zj (by kernel_rfl) ?_
    intro w4 e4 e4'
    simp only [Rg.puB]
    go_wp2
    have hno':=HNO.out
    first
     | exact ⟨⟨rfl,Xt hbel e4,Zo hown e4,q+1,by omega,by omega,by go_num,hno'⟩,by simp [intOf];omega⟩
     | exact ⟨⟨Xt hbel e4,Zo hown e4,q+1,by omega,by omega,by go_num,hno'⟩,by simp [intOf];omega⟩
     | refine ⟨?_,by simp [intOf];omega⟩
       repeat (apply Exists.intro)
       refine ⟨?_,rfl⟩
       exact ⟨rfl,Xt hbel e4,Zo hown e4,q+1,by omega,by omega,by go_num,hno'⟩
  rw [Bool.not_eq_true] at ht
  rw [ht] at ct
  have hs:Zq c a t=[]:=by unfold Zq;simp [ht]
  rw [hs]
  go_enter Tryz.func257,Tryz.ntmps257
  go_wp2_with fail
  refine (ca _).mono ?_
  rintro e w' ⟨rfl,rfl⟩
  go_wp2_with fail
  refine (ct _).mono ?_
 rotate_left
 focus
  rw [Bool.not_eq_true] at ha
  rw [ha] at ca
  have hs:Zq c a t=[]:=by unfold Zq;simp [ha]
  rw [hs]
  go_enter Tryz.func257,Tryz.ntmps257
  go_wp2_with fail
  refine (ca _).mono ?_
 all_goals
  rintro e w' ⟨rfl,rfl⟩
  go_wp2
  go_ret
  exact ⟨_,rfl,Ext.refl _,Zn.nil _ _ _⟩
end Go.Proofs.YtipjchbdogmccaaGreat
