/- Debts that go round, walked: edges along which something may be taken, or given back. Debts that go round, walked: a step, how much goes over it, it goes. -/
import Derived.Test.YtipjchbdogmccaaGreatRnd
set_option maxHeartbeats 6400000
set_option maxRecDepth 100000
namespace Go.Proofs.YtipjchbdogmccaaGreat
open Go.RowKit Go.Rg Go.BigFrame
def dbC (d:Db):List Value:=[.int .u8 d.1,.int .u8 d.2.1,.int .i64 d.2.2.1,.int .i64 d.2.2.2]
def Zhj (ps:List Nat):List Value:=ps.map fun p=>.pointer (some ⟨p,0,none⟩)
structure IsDb (w:World) (base:Nat) (v:Value) (ps:List Nat) (ds:List Db):Prop where
 len:ps.length=ds.length
 sl:Zs w base 1 v ps.length (Zhj ps)
 rows:∀(i p:Nat) (d:Db),ps[i]? =some p->ds[i]? =some d->w.heap[p]? =some (Obj.cells (dbC d).toArray 365 (0,0))
 nd:ps.Nodup
 low:∀p∈ps,base<=p
 off:∀q,v.ownBlock=some q->q∉ps
theorem IsDb.ext {w w':World} {base:Nat} {v:Value} {ps:List Nat} {ds:List Db} (h:IsDb w base v ps ds) (k:Ext w w'):IsDb w' base v ps ds:=
 ⟨h.len,h.sl.ext k,fun i p d hp hd=>k.at (h.rows i p d hp hd),h.nd,h.low,h.off⟩
theorem IsDb.at {w:World} {base:Nat} {v:Value} {ps:List Nat} {ds:List Db} (h:IsDb w base v ps ds) (k:Nat) (hk:k<ds.length):∃p,ps[k]? =some p/\w.heap[p]? =some (Obj.cells (dbC (ds[k]'hk)).toArray 365 (0,0)):=
 have hl:k<ps.length:=by rw [h.len];exact hk
 ⟨_,List.getElem?_eq_getElem hl,h.rows k _ _ (List.getElem?_eq_getElem hl) (List.getElem?_eq_getElem hk)⟩
theorem Zjl (l:List Db):(Yq l).length<=2*l.length:=by
 induction l with
 | nil=>simp [Yq]
 | cons d l ih=>
   have:(Zdx d).length<=2:=by unfold Zdx;split<;>split<;>simp
   simp only [Yq,List.flatMap_cons,List.length_append,List.length_cons] at ih ⊢
   omega
theorem Zoh (l:List Db) (k:Nat) (hk:k<l.length):Yq (l.take (k+1))=Yq (l.take k)++Zdx (l[k]'hk):=by
 unfold Yq
 rw [List.take_succ_eq_append_getElem hk,List.flatMap_append]
 simp
theorem Zaj (l k:List Ed):Yz (l++k)=Yz l++Yz k:=by unfold Yz;rw [List.flatMap_append]
theorem edges_any (base:Nat) (v:Value) (ps:List Nat) (ds:List Db) (w:World) (h:IsDb w base v ps ds) (hl:ds.length<=400):Calls Tryz.prog 243 #[v] w (RetEds (Yq ds) w):=by
 have hat:=h.at
 have hrows:=h.rows
 have HPL:=Lib.hid h.len
 have hl:ps.length<=400:=by rw [HPL.out];exact hl
 obtain ⟨A,cap,rfl,h1,h2,h3,h4⟩:=h.sl
 obtain ⟨i0,hi,hz0,hz1,hz2⟩:=info_parts ed_info
 have hn63:(ps.length:Int)<=9223372036854775807:=by omega
 clear h
 go_enter Tryz.func243,Tryz.ntmps243
 go_wp2
 go_loopw [2,4,7,8,9,10,11,12,13,14,15,16,17,18,19,20,21,22,23,24,25,26,27,28,29,30,31,32,33,34,35,36,37,38,39,40,41,42,43,44,45,46,47,48,49,50] (fun sv _ iv _ _ _ _ _ _ _ _ _ _ _ _ _ _ _ _ _ _ _ _ _ _ _ _ _ _ _ _ _ _ _ _ _ _ _ _ _ _ _ _ _ _ _ wr=>∃k:Nat,k<=ps.length/\iv= .int .i64 k/\Ext w wr/\wr.ownsRow w.heap.size 399 3 sv (Yq (ds.take k)).length (Yz (Yq (ds.take k)))) (fun sv _ iv _ _ _ _ _ _ _ _ _ _ _ _ _ _ _ _ _ _ _ _ _ _ _ _ _ _ _ _ _ _ _ _ _ _ _ _ _ _ _ _ _ _ _ _=>ps.length-(intOf iv).toNat)
 case atStart=>exact ⟨0,Nat.zero_le _,rfl,Ext.refl _,World.ownsRow_nil _ _ _ _⟩
 obtain ⟨k,hk,rfl,er,hown⟩:=hrel
 by_cases hkn:k<ps.length
 ·have hkd:k<ds.length:=by rw [<-HPL.out];exact hkn
  obtain ⟨p,hp,hr0⟩:=hat k hkd
  have hrow:=er.at hr0
  rcases h4 with h4 | ⟨g,rfl,hb,hlt,hcell⟩
  ·omega
  have hcp:wr.cell? ⟨g,k,none⟩=some (.pointer (some ⟨p,0,none⟩)):=(Zh (a:=⟨g,k,none⟩) (er.block hlt)).trans (hcell k _ (by unfold Zhj;rw [List.getElem?_map,hp];rfl))
  have hes:=Zoh ds k hkd
  have hlen1:=Zjl (ds.take k)
  have hlen2:(ds.take k).length=k:=by simp;omega
  generalize ds[k]'hkd=d at *
  obtain ⟨a,b,n,m⟩:=d
  simp only [dbC] at hrow
  have HES:=Lib.hid hes
  clear hes hcell hr0
  generalize Yq (ds.take k)=es at *
  have q2:=Za (j:=2) hrow rfl
  have q0:=er.size
  have hel:es.length<=2*k:=by omega
  by_cases hn:0<n
  ·have hn':decide (0<n)=true:=by simpa using hn
   have HNC:=Lib.hid hn
   go_wp2_with fail
   obtain ⟨SL,hSL⟩:∃SL,SL=(u2).ownBlock.toList:=⟨_,rfl⟩
   have hpS:p∉SL:=by
    rw [hSL]
    intro hm
    exact Yi hown hrow (by decide) (by simpa using hm)
   have hlow:∀x∈SL,w.heap.size<=x:=fun q hq=>by
    rw [hSL] at hq
    exact (hown.lt q (by simpa using hq)).1
   have hin:∀q,(u2).ownBlock=some q->q∈SL:=fun q hq=>by rw [hSL,hq];simp
   have HSL:=Lib.hid hSL
   have hszr:=er.size
   clear hSL
   refine RgK.Zf SL Zk 14 [12,13] (by kernel_rfl) (by kernel_rfl) (by kernel_rfl) ?_
   intro w1 hw1
   have c0:=fun q:KeepOf SL w1=>Za (j:=0) ((hw1.trans q.h).at hrow hpS) rfl
   have c1:=fun q:KeepOf SL w1=>Za (j:=1) ((hw1.trans q.h).at hrow hpS) rfl
   simp only [Zj,Rg.hsB,Nat.reduceBEq,Nat.reduceAdd,↓reduceIte]
   repeat (go_big_quiet_step (fail))
   refine wpQuiet_nil ?_
   intro hx1
   clear c0 c1
   refine RgK.Y5 12 _ (.cells #[.int .u8 a,.int .u8 b,.int .i8 (-1)] 399) (fun p=>.slice (some ⟨p,0,none⟩) 1 1) (by intro w;go_simp) rfl (by kernel_rfl) (by decide) rfl ?_
   intro bb w7 h07 h7 hb0 hb7 hbb
   refine RgK.Ji 13 _ _ _ _ rfl rfl (by kernel_rfl) (by decide) rfl w.heap.size 399 i0 (.agg #[.int .u8 0,.int .u8 0,.int .i8 0]) 3 3 Tryz.underlying367 hi hz0 hz1 hz2 rfl (by decide) (u2) _ _ (by kernel_rfl) (Zt (Zt hown hx1) h7) hin bb 1 1 _ _ _ (by kernel_rfl) hbb rfl (by simp [Value.oneCell']) (by unfold maxLen;omega) (by omega) (by have:=hx1.size;have:=h7.size;omega) ?_
   intro vA w8 h08 h78 hown8 hwh
   rw [<-HSL.out] at h78
   refine RgK.Zi (by kernel_rfl) ?_
   intro wA eA eA'
   simp only [Act.put,Rg.puB]
   have rowA:=eA'.at (h78.at (h7.at (hx1.at hrow)) hpS)
   have ownA':=Zt hown8 eA'
   have exA:=Xt (Keep.trans_fresh (S:=[]) (Kx (Xt er (Xt hx1 h7))) h78 (fun x hx=>.inr (hlow x hx))).ext eA'
   have ownA:wA.ownsRow w.heap.size 399 3 vA (es++[(a,b,(-1))]).length (Yz (es++[(a,b,(-1))])):=by
    rw [Zaj,List.length_append]
    exact ownA'
   clear hw1 hx1 h07 h7 hb0 hb7 hbb h08 h78 hown8 hwh eA eA' ownA' hlow hin HSL hpS
   have hel2:(es++[(a,b,(-1))]).length<=2*k+1:=by rw [List.length_append];simp;omega
   have HEC:=Lib.hid (rfl:es++[(a,b,(-1:Int))]=es++[(a,b,-1)])
   have q31:=Za (j:=3) rowA rfl
   by_cases hm:0<m
   ·have hm':decide (0<m)=true:=by simpa using hm
    go_wp2_with fail
    obtain ⟨SL,hSL⟩:∃SL,SL=(vA).ownBlock.toList:=⟨_,rfl⟩
    have hpS:p∉SL:=by
     rw [hSL]
     intro hm
     exact Yi ownA rowA (by decide) (by simpa using hm)
    have hlow:∀x∈SL,w.heap.size<=x:=fun q hq=>by
     rw [hSL] at hq
     exact (ownA.lt q (by simpa using hq)).1
    have hin:∀q,(vA).ownBlock=some q->q∈SL:=fun q hq=>by rw [hSL,hq];simp
    have HSL:=Lib.hid hSL
    have hszr:=exA.size
    clear hSL
    refine RgK.Zf SL Zk 14 [12,13] (by kernel_rfl) (by kernel_rfl) (by kernel_rfl) ?_
    intro w1 hw1
    have c0:=fun q:KeepOf SL w1=>Za (j:=0) ((hw1.trans q.h).at rowA hpS) rfl
    have c1:=fun q:KeepOf SL w1=>Za (j:=1) ((hw1.trans q.h).at rowA hpS) rfl
    simp only [Zj,Rg.hsB,Nat.reduceBEq,Nat.reduceAdd,↓reduceIte]
    repeat (go_big_quiet_step (fail))
    refine wpQuiet_nil ?_
    intro hx1
    clear c0 c1
    refine RgK.Y5 12 _ (.cells #[.int .u8 b,.int .u8 a,.int .i8 1] 399) (fun p=>.slice (some ⟨p,0,none⟩) 1 1) (by intro w;go_simp) rfl (by kernel_rfl) (by decide) rfl ?_
    intro bb w7 h07 h7 hb0 hb7 hbb
    refine RgK.Ji 13 _ _ _ _ rfl rfl (by kernel_rfl) (by decide) rfl w.heap.size 399 i0 (.agg #[.int .u8 0,.int .u8 0,.int .i8 0]) 3 3 Tryz.underlying367 hi hz0 hz1 hz2 rfl (by decide) (vA) _ _ (by kernel_rfl) (Zt (Zt ownA hx1) h7) hin bb 1 1 _ _ _ (by kernel_rfl) hbb rfl (by simp [Value.oneCell']) (by unfold maxLen;omega) (by omega) (by have:=hx1.size;have:=h7.size;omega) ?_
    intro vB1 w8 h08 h78 hown8 hwh
    rw [<-HSL.out] at h78
    refine RgK.Zi (by kernel_rfl) ?_
    intro wB1 eB1 eB1'
    simp only [Act.put,Rg.puB]
    have rowB1:=eB1'.at (h78.at (h7.at (hx1.at rowA)) hpS)
    have ownB1':=Zt hown8 eB1'
    have exB1:=Xt (Keep.trans_fresh (S:=[]) (Kx (Xt exA (Xt hx1 h7))) h78 (fun x hx=>.inr (hlow x hx))).ext eB1'
    have ownB1:wB1.ownsRow w.heap.size 399 3 vB1 ((es++[(a,b,(-1))])++[(b,a,1)]).length (Yz ((es++[(a,b,(-1))])++[(b,a,1)])):=by
     rw [Zaj,List.length_append]
     exact ownB1'
    clear hw1 hx1 h07 h7 hb0 hb7 hbb h08 h78 hown8 hwh eB1 eB1' ownB1' hlow hin HSL hpS
    have HF:=Lib.hid (show Yq (ds.take (k+1))=(es++[(a,b,(-1))])++[(b,a,1)] by rw [HES.out];simp [Zdx,HNC.out,hm])
    go_wp2
    refine ⟨⟨k+1,by omega,by go_num,exB1,?_⟩,by simp [intOf];omega⟩
    rw [HF.out]
    exact ownB1
   have hm':decide (0<m)=false:=by simpa using hm
   have HF:=Lib.hid (show Yq (ds.take (k+1))=(es++[(a,b,(-1))]) by rw [HES.out];simp [Zdx,HNC.out,hm])
   go_wp2
   refine ⟨⟨k+1,by omega,by go_num,exA,?_⟩,by simp [intOf];omega⟩
   rw [HF.out]
   exact ownA
  have hn':decide (0<n)=false:=by simpa using hn
  have HNC:=Lib.hid hn
  have q32:=Za (j:=3) hrow rfl
  by_cases hm:0<m
  ·have hm':decide (0<m)=true:=by simpa using hm
   go_wp2_with fail
   obtain ⟨SL,hSL⟩:∃SL,SL=(u2).ownBlock.toList:=⟨_,rfl⟩
   have hpS:p∉SL:=by
    rw [hSL]
    intro hm
    exact Yi hown hrow (by decide) (by simpa using hm)
   have hlow:∀x∈SL,w.heap.size<=x:=fun q hq=>by
    rw [hSL] at hq
    exact (hown.lt q (by simpa using hq)).1
   have hin:∀q,(u2).ownBlock=some q->q∈SL:=fun q hq=>by rw [hSL,hq];simp
   have HSL:=Lib.hid hSL
   have hszr:=er.size
   clear hSL
   refine RgK.Zf SL Zk 14 [12,13] (by kernel_rfl) (by kernel_rfl) (by kernel_rfl) ?_
   intro w1 hw1
   have c0:=fun q:KeepOf SL w1=>Za (j:=0) ((hw1.trans q.h).at hrow hpS) rfl
   have c1:=fun q:KeepOf SL w1=>Za (j:=1) ((hw1.trans q.h).at hrow hpS) rfl
   simp only [Zj,Rg.hsB,Nat.reduceBEq,Nat.reduceAdd,↓reduceIte]
   repeat (go_big_quiet_step (fail))
   refine wpQuiet_nil ?_
   intro hx1
   clear c0 c1
   refine RgK.Y5 12 _ (.cells #[.int .u8 b,.int .u8 a,.int .i8 1] 399) (fun p=>.slice (some ⟨p,0,none⟩) 1 1) (by intro w;go_simp) rfl (by kernel_rfl) (by decide) rfl ?_
   intro bb w7 h07 h7 hb0 hb7 hbb
   refine RgK.Ji 13 _ _ _ _ rfl rfl (by kernel_rfl) (by decide) rfl w.heap.size 399 i0 (.agg #[.int .u8 0,.int .u8 0,.int .i8 0]) 3 3 Tryz.underlying367 hi hz0 hz1 hz2 rfl (by decide) (u2) _ _ (by kernel_rfl) (Zt (Zt hown hx1) h7) hin bb 1 1 _ _ _ (by kernel_rfl) hbb rfl (by simp [Value.oneCell']) (by unfold maxLen;omega) (by omega) (by have:=hx1.size;have:=h7.size;omega) ?_
   intro vB2 w8 h08 h78 hown8 hwh
   rw [<-HSL.out] at h78
   refine RgK.Zi (by kernel_rfl) ?_
   intro wB2 eB2 eB2'
   simp only [Act.put,Rg.puB]
   have rowB2:=eB2'.at (h78.at (h7.at (hx1.at hrow)) hpS)
   have ownB2':=Zt hown8 eB2'
   have exB2:=Xt (Keep.trans_fresh (S:=[]) (Kx (Xt er (Xt hx1 h7))) h78 (fun x hx=>.inr (hlow x hx))).ext eB2'
   have ownB2:wB2.ownsRow w.heap.size 399 3 vB2 (es++[(b,a,1)]).length (Yz (es++[(b,a,1)])):=by
    rw [Zaj,List.length_append]
    exact ownB2'
   clear hw1 hx1 h07 h7 hb0 hb7 hbb h08 h78 hown8 hwh eB2 eB2' ownB2' hlow hin HSL hpS
   have HF:=Lib.hid (show Yq (ds.take (k+1))=es++[(b,a,1)] by rw [HES.out];simp [Zdx,HNC.out,hm])
   go_wp2
   refine ⟨⟨k+1,by omega,by go_num,exB2,?_⟩,by simp [intOf];omega⟩
   rw [HF.out]
   exact ownB2
  have hm':decide (0<m)=false:=by simpa using hm
  have HF:=Lib.hid (show Yq (ds.take (k+1))=es by rw [HES.out];simp [Zdx,HNC.out,hm])
  go_wp2
  refine ⟨⟨k+1,by omega,by go_num,er,?_⟩,by simp [intOf];omega⟩
  rw [HF.out]
  exact hown
 have hk':k=ps.length:=by omega
 subst hk'
 rw [HPL.out,List.take_length] at hown
 have hk3:decide ((ps.length:Int)<(ps.length:Int))=false:=by simp
 go_wp2
 go_ret
 exact ⟨_,rfl,er,hown⟩
def Zbx (ps:List Nat):Option (Nat×Bool)->List Value
 | none=>[.pointer none,.bool false]
 | some (j,b)=>[.pointer ((ps[j]?).map fun p=>⟨p,0,none⟩),.bool b]
def Zbw (ps:List Nat) (r:Option (Nat×Bool)):Value:= .agg (Zbx ps r).toArray
theorem Vd {ps:List Nat} {k p:Nat} (h:ps[k]? =some p) (b:Bool):Zbx ps (some (k,b))=[.pointer (some ⟨p,0,none⟩),.bool b]:=by simp [Zbx,h]
theorem Za3 (ps:List Nat) (r:Option (Nat×Bool)):(Zbx ps r).length=2:=by
 cases r with
 | none=>rfl
 | some x=>rfl
theorem stepC_one (ps:List Nat) (r:Option (Nat×Bool)):((Zbx ps r).toArray).toList.all (·.oneCell')=true:=by
 cases r with
 | none=>rfl
 | some x=>rfl
theorem stepD_at (l:List Db) (k:Nat) (hk:k<l.length) (p q:Int) (r:Option (Nat×Bool)):Xh (l.drop k) k p q r=
 if (l[k]'hk).1=p/\(l[k]'hk).2.1=q/\0<(l[k]'hk).2.2.1 then some (k,false)
 else if (l[k]'hk).1=q/\(l[k]'hk).2.1=p/\0<(l[k]'hk).2.2.2 then Xh (l.drop (k+1)) (k+1) p q (some (k,true)) else Xh (l.drop (k+1)) (k+1) p q r:=by
 rw [List.drop_eq_getElem_cons hk]
 rfl
theorem step_any (base:Nat) (v:Value) (ps:List Nat) (ds:List Db) (p q:Int) (w:World) (h:IsDb w base v ps ds) (hl:ds.length<=400):Calls Tryz.prog 281 #[v,.int .u8 p,.int .u8 q] w (Ret (Zbw ps (Xh ds 0 p q none)) w):=by
 have hat:=h.at
 have HPL:=Lib.hid h.len
 have hl:ps.length<=400:=by rw [HPL.out];exact hl
 obtain ⟨A,cap,rfl,h1,h2,h3,h4⟩:=h.sl
 have hn63:(ps.length:Int)<=9223372036854775807:=by omega
 clear h
 have e0:=Zc w (.cells #[.pointer none,.bool false] 412)
 have hb0:=Zb w (.cells #[.pointer none,.bool false] 412)
 obtain ⟨ob,hob⟩:∃ob,ob=w.heap.size:=⟨_,rfl⟩
 rw [<-hob] at hb0
 have hobw:w.heap.size<=ob:=by omega
 go_enter Tryz.func281,Tryz.ntmps281
 go_wp2_with (refine Zo rfl 412 rfl (.cells #[.pointer none,.bool false] 412) _ rfl (by go_simp) ?_
              intro w0 e0 hb0)
 rw [<-hob] at hb0 ⊢
 clear hob
 go_loopw [8,11,12,13,14,15,16,17,18,19,20,21,22,23,24,25,26,27,28,29,30,31,32,33,34,35,36,37,38,39,40,41,42,43,44,45,46,47,48,49,50,51,52,53,54,55,56,57,58,59,60,61,62,63,64,65,66,67,68] (fun _ iv _ _ _ _ _ _ _ _ _ _ _ _ _ _ _ _ _ _ _ _ _ _ _ _ _ _ _ _ _ _ _ _ _ _ _ _ _ _ _ _ _ _ _ _ _ _ _ _ _ _ _ _ _ _ _ _ _ wr=>∃(k:Nat) (r:Option (Nat×Bool)),k<=ps.length/\iv= .int .i64 k/\Ext w wr/\wr.heap[ob]? =some (.cells (Zbx ps r).toArray 412 (0,0))/\Xh ds 0 p q none=Xh (ds.drop k) k p q r) (fun _ iv _ _ _ _ _ _ _ _ _ _ _ _ _ _ _ _ _ _ _ _ _ _ _ _ _ _ _ _ _ _ _ _ _ _ _ _ _ _ _ _ _ _ _ _ _ _ _ _ _ _ _ _ _ _ _ _ _ _=>ps.length-(intOf iv).toNat)
 case atStart=>exact ⟨0,none,Nat.zero_le _,rfl,e0,hb0,rfl⟩
 obtain ⟨k,r,hk,rfl,er,hrow,hst⟩:=hrel
 by_cases hkn:k<ps.length
 ·have hkd:k<ds.length:=by rw [<-HPL.out];exact hkn
  obtain ⟨pp,hp,hr0⟩:=hat k hkd
  have hrd:=er.at hr0
  rcases h4 with h4 | ⟨g,rfl,hb,hlt,hcell⟩
  ·omega
  have hcp:wr.cell? ⟨g,k,none⟩=some (.pointer (some ⟨pp,0,none⟩)):=(Zh (a:=⟨g,k,none⟩) (er.block hlt)).trans (hcell k _ (by unfold Zhj;rw [List.getElem?_map,hp];rfl))
  rw [stepD_at ds k hkd] at hst
  generalize ds[k]'hkd=d at *
  obtain ⟨a,b,n,m⟩:=d
  simp only [dbC] at hrd
  simp only at hst
  have HP:=Lib.hid hp
  have hcl:=Za3 ps r
  have hob2:=hobw
  have d0:=Za (j:=0) hrd rfl
  have d1:=Za (j:=1) hrd rfl
  have d2:=Za (j:=2) hrd rfl
  have d3:=Za (j:=3) hrd rfl
  clear hp hcell hr0 hrd hat
  by_cases c1:a=p/\b=q/\0<n
  ·rw [if_pos c1] at hst
   have HST:=Lib.hid hst
   obtain ⟨x1,x2,x3⟩:=c1
   have x1':(a==p)=true:=by simpa using x1
   have x2':(b==q)=true:=by simpa using x2
   have x3':decide (0<n)=true:=by simpa using x3
   clear hst x1 x2 x3
   go_wp2_with (refine Ze rfl rfl 412 _ _ rfl ob _ rfl rfl 412 _ hrow (by kernel_rfl) (by simpa using hcl) (by rfl) ?_
                intro w5 hb5 ho5 hs5)
   have e5:Ext w w5:=hb5 _ _ hobw er
   exact Yw ob 412 _ _ _ rfl rfl hs5 Tryz.underlying412 rfl (by kernel_rfl) rfl ⟨by rw [HST.out];unfold Zbw;rw [Vd HP.out],e5⟩
  rw [if_neg c1] at hst
  have hx:(a==p)=false\/((a==p)=true/\(b==q)=false)\/((a==p)=true/\(b==q)=true/\decide (0<n)=false):=by
   by_cases z1:a=p
   ·by_cases z2:b=q
    ·exact .inr (.inr ⟨by simpa using z1,by simpa using z2,by simpa using fun h=>c1 ⟨z1,z2,h⟩⟩)
    exact .inr (.inl ⟨by simpa using z1,by simpa using z2⟩)
   exact .inl (by simpa using z1)
  clear c1
  rcases hx with x1 | ⟨x1,x2⟩ | ⟨x1,x2,x3⟩
  ·have HOK:=Lib.hid hst
   clear hst
   by_cases c2:a=q/\b=p/\0<m
   ·have HST:=Lib.hid (show Xh ds 0 p q none=Xh (ds.drop (k+1)) (k+1) p q (some (k,true)) by rw [HOK.out,if_pos c2])
    obtain ⟨y1,y2,y3⟩:=c2
    have y1':(a==q)=true:=by simpa using y1
    have y2':(b==p)=true:=by simpa using y2
    have y3':decide (0<m)=true:=by simpa using y3
    clear y1 y2 y3 HOK
    go_wp2_with (refine Ze rfl rfl 412 _ _ rfl ob _ rfl rfl 412 _ hrow (by kernel_rfl) (by simpa using hcl) (by rfl) ?_
                 intro w5 hb5 ho5 hs5
                 have e5:Ext w w5:=hb5 _ _ hobw er)
    exact ⟨⟨k+1,some (k,true),by omega,by go_num,e5,by rw [Vd HP.out];exact hs5,HST.out⟩,by simp [intOf];omega⟩
   have HST:=Lib.hid (show Xh ds 0 p q none=Xh (ds.drop (k+1)) (k+1) p q r by rw [HOK.out,if_neg c2])
   have hz:(a==q)=false\/((a==q)=true/\(b==p)=false)\/((a==q)=true/\(b==p)=true/\decide (0<m)=false):=by
    by_cases z1:a=q
    ·by_cases z2:b=p
     ·exact .inr (.inr ⟨by simpa using z1,by simpa using z2,by simpa using fun h=>c2 ⟨z1,z2,h⟩⟩)
     exact .inr (.inl ⟨by simpa using z1,by simpa using z2⟩)
    exact .inl (by simpa using z1)
   clear c2 HOK HP
   rcases hz with y1 | ⟨y1,y2⟩ | ⟨y1,y2,y3⟩
   ·go_wp2_with fail
    exact ⟨⟨k+1,r,by omega,by go_num,er,hrow,HST.out⟩,by simp [intOf];omega⟩
   ·go_wp2_with fail
    exact ⟨⟨k+1,r,by omega,by go_num,er,hrow,HST.out⟩,by simp [intOf];omega⟩
   go_wp2_with fail
   exact ⟨⟨k+1,r,by omega,by go_num,er,hrow,HST.out⟩,by simp [intOf];omega⟩
  ·have HOK:=Lib.hid hst
   clear hst
   by_cases c2:a=q/\b=p/\0<m
   ·have HST:=Lib.hid (show Xh ds 0 p q none=Xh (ds.drop (k+1)) (k+1) p q (some (k,true)) by rw [HOK.out,if_pos c2])
    obtain ⟨y1,y2,y3⟩:=c2
    have y1':(a==q)=true:=by simpa using y1
    have y2':(b==p)=true:=by simpa using y2
    have y3':decide (0<m)=true:=by simpa using y3
    clear y1 y2 y3 HOK
    go_wp2_with (refine Ze rfl rfl 412 _ _ rfl ob _ rfl rfl 412 _ hrow (by kernel_rfl) (by simpa using hcl) (by rfl) ?_
                 intro w5 hb5 ho5 hs5
                 have e5:Ext w w5:=hb5 _ _ hobw er)
    exact ⟨⟨k+1,some (k,true),by omega,by go_num,e5,by rw [Vd HP.out];exact hs5,HST.out⟩,by simp [intOf];omega⟩
   have HST:=Lib.hid (show Xh ds 0 p q none=Xh (ds.drop (k+1)) (k+1) p q r by rw [HOK.out,if_neg c2])
   have hz:(a==q)=false\/((a==q)=true/\(b==p)=false)\/((a==q)=true/\(b==p)=true/\decide (0<m)=false):=by
    by_cases z1:a=q
    ·by_cases z2:b=p
     ·exact .inr (.inr ⟨by simpa using z1,by simpa using z2,by simpa using fun h=>c2 ⟨z1,z2,h⟩⟩)
     exact .inr (.inl ⟨by simpa using z1,by simpa using z2⟩)
    exact .inl (by simpa using z1)
   clear c2 HOK HP
   rcases hz with y1 | ⟨y1,y2⟩ | ⟨y1,y2,y3⟩
   ·go_wp2_with fail
    exact ⟨⟨k+1,r,by omega,by go_num,er,hrow,HST.out⟩,by simp [intOf];omega⟩
   ·go_wp2_with fail
    exact ⟨⟨k+1,r,by omega,by go_num,er,hrow,HST.out⟩,by simp [intOf];omega⟩
   go_wp2_with fail
   exact ⟨⟨k+1,r,by omega,by go_num,er,hrow,HST.out⟩,by simp [intOf];omega⟩
  have HOK:=Lib.hid hst
  clear hst
  by_cases c2:a=q/\b=p/\0<m
  ·have HST:=Lib.hid (show Xh ds 0 p q none=Xh (ds.drop (k+1)) (k+1) p q (some (k,true)) by rw [HOK.out,if_pos c2])
   obtain ⟨y1,y2,y3⟩:=c2
   have y1':(a==q)=true:=by simpa using y1
   have y2':(b==p)=true:=by simpa using y2
   have y3':decide (0<m)=true:=by simpa using y3
   clear y1 y2 y3 HOK
   go_wp2_with (refine Ze rfl rfl 412 _ _ rfl ob _ rfl rfl 412 _ hrow (by kernel_rfl) (by simpa using hcl) (by rfl) ?_
                intro w5 hb5 ho5 hs5
                have e5:Ext w w5:=hb5 _ _ hobw er)
   exact ⟨⟨k+1,some (k,true),by omega,by go_num,e5,by rw [Vd HP.out];exact hs5,HST.out⟩,by simp [intOf];omega⟩
  have HST:=Lib.hid (show Xh ds 0 p q none=Xh (ds.drop (k+1)) (k+1) p q r by rw [HOK.out,if_neg c2])
  have hz:(a==q)=false\/((a==q)=true/\(b==p)=false)\/((a==q)=true/\(b==p)=true/\decide (0<m)=false):=by
   by_cases z1:a=q
   ·by_cases z2:b=p
    ·exact .inr (.inr ⟨by simpa using z1,by simpa using z2,by simpa using fun h=>c2 ⟨z1,z2,h⟩⟩)
    exact .inr (.inl ⟨by simpa using z1,by simpa using z2⟩)
   exact .inl (by simpa using z1)
  clear c2 HOK HP
  rcases hz with y1 | ⟨y1,y2⟩ | ⟨y1,y2,y3⟩
  ·go_wp2_with fail
   exact ⟨⟨k+1,r,by omega,by go_num,er,hrow,HST.out⟩,by simp [intOf];omega⟩
  ·go_wp2_with fail
   exact ⟨⟨k+1,r,by omega,by go_num,er,hrow,HST.out⟩,by simp [intOf];omega⟩
  go_wp2_with fail
  exact ⟨⟨k+1,r,by omega,by go_num,er,hrow,HST.out⟩,by simp [intOf];omega⟩
 have hk':k=ps.length:=by omega
 subst hk'
 have HST:=Lib.hid (show Xh ds 0 p q none=r by rw [hst,HPL.out,List.drop_length];rfl)
 have hk3:decide ((ps.length:Int)<(ps.length:Int))=false:=by simp
 have ld:=run_loadVar_row (P:=Tryz.prog) wr ob _ 412 _ _ _ hrow Tryz.underlying412 rfl (by rw [List.size_toArray,Za3];kernel_rfl)
 have h1c:=stepC_one ps r
 have hcl:=Za3 ps r
 clear hst
 obtain ⟨sc,hsc⟩:∃sc,sc=Zbx ps r:=⟨_,rfl⟩
 rw [<-hsc] at hrow ld h1c hcl
 have HSC:=Lib.hid (show Zbw ps r= .agg sc.toArray by unfold Zbw;rw [hsc])
 clear hsc
 have hsz:(Tryz.prog.info? 412).map (·.size)=some sc.toArray.size:=by rw [List.size_toArray,hcl];kernel_rfl
 go_wp2_with (first
  | (refine Zd rfl 412 _ _ _ rfl rfl ld ?_)
  | (refine Ze rfl rfl 412 _ _ rfl ob _ rfl rfl 412 _ hrow hsz rfl h1c ?_
     intro w5 hb5 ho5 hs5))
 have e5:Ext w w5:=hb5 _ _ hobw er
 exact Yw ob 412 _ _ _ rfl rfl hs5 Tryz.underlying412 rfl hsz rfl ⟨by rw [HST.out,HSC.out],e5⟩
theorem getD_at (l:List Db) (j:Nat) (h:j<l.length):l.getD j db0=l[j]'h:=by rw [List.getD_eq_getElem?_getD,List.getElem?_eq_getElem h];rfl
theorem most_any (base:Nat) (v:Value) (ps:List Nat) (ds:List Db) (j:Nat) (b:Bool) (w:World) (h:IsDb w base v ps ds) (hj:j<ds.length):Calls Tryz.prog 282 #[Zbw ps (some (j,b))] w (Ret (.int .i64 (Ul ds (j,b))) w):=by
 obtain ⟨p,hp,hrow⟩:=h.at j hj
 unfold Ul Zbw
 rw [Vd hp,getD_at ds j hj]
 generalize ds[j]'hj=d at *
 obtain ⟨x0,x1,x2,x3⟩:=d
 simp only [dbC] at hrow
 have e0:=Zc w (.cells #[.pointer (some ⟨p,0,none⟩),.bool b] 412)
 have h0:=Zb w (.cells #[.pointer (some ⟨p,0,none⟩),.bool b] 412)
 have c0:=Za (j:=0) h0 rfl
 have c1:=Za (j:=1) h0 rfl
 have d2:=Za (j:=2) (e0.at hrow) rfl
 have d3:=Za (j:=3) (e0.at hrow) rfl
 clear h hp hrow h0
 cases b with
 | true=>
   go_enter Tryz.func282,Tryz.ntmps282
   go_wp2
   go_ret
   exact ⟨rfl,e0⟩
 | false=>
   go_enter Tryz.func282,Tryz.ntmps282
   go_wp2
   go_ret
   exact ⟨rfl,e0⟩
theorem sl_off {S:List Nat} {w w':World} {base size n:Nat} {v:Value} {xs:List Value} (h:Zs w base size v n xs) (k:Keep S w w') (hS:∀q,v.ownBlock=some q->q∉S):Zs w' base size v n xs:=by
 obtain ⟨A,cap,h0,h1,h2,h3,h4⟩:=h
 refine ⟨A,cap,h0,h1,h2,h3,?_⟩
 rcases h4 with h4 | ⟨g,h4,h5,h6,h7⟩
 ·exact .inl h4
 exact .inr ⟨g,h4,h5,Nat.lt_of_lt_of_le h6 k.size,fun j u hu=>by
  rw [Zh (k.block g h6 (hS g (by rw [h0,h4];rfl)))]
  exact h7 j u hu⟩
theorem Zka {w:World} {p:Nat} {x0 x1 x2 x3:Int} (h:w.heap[p]? =some (.cells #[.int .u8 x0,.int .u8 x1,.int .i64 x2,.int .i64 x3] 365 (0,0))) (a c:Int) (s:Array Value) (t:TypeId):
 ((w.setCell ⟨p,2,none⟩ (.int .i64 a)).alloc (.cells s t)).heap[w.heap.size]? =some (.cells s t)/\
 ((w.setCell ⟨p,2,none⟩ (.int .i64 a)).alloc (.cells s t)).heap[p]? =some (.cells #[.int .u8 x0,.int .u8 x1,.int .i64 a,.int .i64 x3] 365 (0,0))/\
 (((w.setCell ⟨p,2,none⟩ (.int .i64 a)).setCell ⟨p,3,none⟩ (.int .i64 c)).alloc (.cells s t)).heap[p]? =some (.cells #[.int .u8 x0,.int .u8 x1,.int .i64 a,.int .i64 c] 365 (0,0))/\
 Keep [p] w (((w.setCell ⟨p,2,none⟩ (.int .i64 a)).setCell ⟨p,3,none⟩ (.int .i64 c)).alloc (.cells s t)):=by
 have h1:=heap_setCell_same w p 2 _ _ (.int .i64 a) h
 have h2:=heap_setCell_same _ p 3 _ _ (.int .i64 c) h1
 have h0:=Zb (w.setCell ⟨p,2,none⟩ (.int .i64 a)) (.cells s t)
 rw [World.size_setCell] at h0
 exact ⟨h0,(Zc _ _).at h1,(Zc _ _).at h2,((((Keep.refl [p] w).setCell (p:=⟨p,2,none⟩) (Or.inl (by simp)) (.int .i64 a)).setCell (p:=⟨p,3,none⟩) (Or.inl (by simp)) (.int .i64 c))).trans (Kx (Zc _ _))⟩
theorem goes_set {w w':World} {base:Nat} {v:Value} {ps:List Nat} {ds:List Db} (h:IsDb w base v ps ds) {j p:Nat} {d:Db} (hj:j<ds.length) (hp:ps[j]? =some p) (k:Keep [p] w w') (hr:w'.heap[p]? =some (Obj.cells (dbC d).toArray 365 (0,0))):
 IsDb w' base v ps (ds.set j d):=by
 refine ⟨by rw [List.length_set];exact h.len,sl_off h.sl k (fun q hq hm=>h.off q hq (by rw [List.mem_singleton.1 hm];exact List.mem_of_getElem? hp)),fun i q e hq he=> ?_,h.nd,h.low,h.off⟩
 rw [List.getElem?_set] at he
 by_cases hij:j=i
 ·subst hij
  rw [if_pos rfl,if_pos hj] at he
  injection he with he
  rw [hp] at hq
  injection hq with hq
  rw [<-hq,<-he]
  exact hr
 rw [if_neg hij] at he
 have hne:q≠p:=fun e2=>by
  subst e2
  exact hij ((List.getElem?_inj (List.getElem?_eq_some_iff.1 hp).1 h.nd).1 (hp.trans hq.symm))
 exact k.at (h.rows i q e hq he) (by simpa using hne)
theorem dgoes_any (base:Nat) (v:Value) (ps:List Nat) (ds:List Db) (j:Nat) (b:Bool) (n:Int) (w:World) (h:IsDb w base v ps ds) (hj:j<ds.length):Calls Tryz.prog 283 #[Zbw ps (some (j,b)),.int .i64 n] w (fun e w'=>e= .returned (.tuple #[])/\Keep ps w w'/\IsDb w' base v ps (goD n ds (j,b))):=by
 obtain ⟨p,hp,hrow⟩:=h.at j hj
 unfold goD Zbw
 rw [Vd hp,getD_at ds j hj]
 have hset:=fun (w':World) (d:Db)=>goes_set (d:=d) (w':=w') h hj hp
 have hpm:p∈ps:=List.mem_of_getElem? hp
 generalize ds[j]'hj=d at *
 obtain ⟨x0,x1,x2,x3⟩:=d
 simp only [dbC] at hrow
 have e0:=Zc w (.cells #[.pointer (some ⟨p,0,none⟩),.bool b] 412)
 have h0:=Zb w (.cells #[.pointer (some ⟨p,0,none⟩),.bool b] 412)
 have hr1:=e0.at hrow
 have hpl:=Zg hrow
 have c0:=Za (j:=0) h0 rfl
 have c1:=Za (j:=1) h0 rfl
 have d2:=Za (j:=2) hr1 rfl
 have f2:=frozen_of_row _ p 2 _ _ hr1
 clear h0 hr1 e0
 cases b with
 | true=>
   obtain ⟨q1,q2,q3,q4⟩:=Zka hrow (wrap64 (x2-wrap64 (-n))) (wrap64 (x3+wrap64 (-n))) #[.pointer (some ⟨p,0,none⟩),.bool true] 412
   have e0:=Za (j:=0) q1 rfl
   have e3:=Za (j:=3) q2 rfl
   have g3:=frozen_of_row _ p 3 _ _ q2
   have hfin:=hset _ (x0,x1,wrap64 (x2-wrap64 (-n)),wrap64 (x3+wrap64 (-n))) q4 q3
   have hkk:=q4.mono (T:=ps) (fun x hx=>by rw [List.mem_singleton.1 hx];exact hpm)
   clear q1 q2 q3 q4 hset h
   go_enter Tryz.func283,Tryz.ntmps283
   go_wp2
   exact bodyPost_end (results_none (by kernel_rfl) _ _ _) rfl ⟨rfl,hkk,hfin⟩
 | false=>
   obtain ⟨q1,q2,q3,q4⟩:=Zka hrow (wrap64 (x2-n)) (wrap64 (x3+n)) #[.pointer (some ⟨p,0,none⟩),.bool false] 412
   have e0:=Za (j:=0) q1 rfl
   have e3:=Za (j:=3) q2 rfl
   have g3:=frozen_of_row _ p 3 _ _ q2
   have hfin:=hset _ (x0,x1,wrap64 (x2-n),wrap64 (x3+n)) q4 q3
   have hkk:=q4.mono (T:=ps) (fun x hx=>by rw [List.mem_singleton.1 hx];exact hpm)
   clear q1 q2 q3 q4 hset h
   go_enter Tryz.func283,Tryz.ntmps283
   go_wp2
   exact bodyPost_end (results_none (by kernel_rfl) _ _ _) rfl ⟨rfl,hkk,hfin⟩
end Go.Proofs.YtipjchbdogmccaaGreat
