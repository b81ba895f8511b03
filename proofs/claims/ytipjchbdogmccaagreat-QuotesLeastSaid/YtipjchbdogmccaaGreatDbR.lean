/- Debts that go round, walked: all that goes round. Debts that go round, walked: all that goes round these parties. Debts that go round, walked: the least that is left of them. Debts that go round, walked: edges along which something may be taken, or given back. Debts that go round, walked: a step, how much goes over it, it goes. -/
import Derived.Test.YtipjchbdogmccaaGreatRnd
import Derived.Laws.MakeOwn
import Derived.OwnWalk
import Derived.Deep.MidRow
set_option maxHeartbeats 12800000
set_option maxRecDepth 100000
namespace Go.Proofs.YtipjchbdogmccaaGreat
open Go.RowKit Go.Rg Go.BigFrame
def dbC (d:Db):List Value:=[.int .u8 d.1,.int .u8 d.2.1,.int .i64 d.2.2.1,.int .i64 d.2.2.2]
def Zhr (ps:List Nat):List Value:=ps.map fun p=>.pointer (some ⟨p,0,none⟩)
structure IsDb (w:World) (base:Nat) (v:Value) (ps:List Nat) (ds:List Db):Prop where
 len:ps.length=ds.length
 sl:Zn w base 1 v ps.length (Zhr ps)
 rows:∀(i p:Nat) (d:Db),ps[i]? =some p->ds[i]? =some d->w.heap[p]? =some (Obj.cells (dbC d).toArray 365 (0,0))
 nd:ps.Nodup
 low:∀p∈ps,base<=p
 off:∀q,v.ownBlock=some q->q∉ps
theorem IsDb.ext {w w':World} {base:Nat} {v:Value} {ps:List Nat} {ds:List Db} (h:IsDb w base v ps ds) (k:Ext w w'):IsDb w' base v ps ds:=
 ⟨h.len,h.sl.ext k,fun i p d hp hd=>k.at (h.rows i p d hp hd),h.nd,h.low,h.off⟩
theorem IsDb.at {w:World} {base:Nat} {v:Value} {ps:List Nat} {ds:List Db} (h:IsDb w base v ps ds) (k:Nat) (hk:k<ds.length):∃p,ps[k]? =some p/\w.heap[p]? =some (Obj.cells (dbC (ds[k]'hk)).toArray 365 (0,0)):=
 have hl:k<ps.length:=by rw [h.len];exact hk
 ⟨_,List.getElem?_eq_getElem hl,h.rows k _ _ (List.getElem?_eq_getElem hl) (List.getElem?_eq_getElem hk)⟩
theorem Zjx (l:List Db):(Xa l).length<=2*l.length:=by
 induction l with
 | nil=>simp [Xa]
 | cons d l ih=>
   have:(Zd3 d).length<=2:=by unfold Zd3;split<;>split<;>simp
   simp only [Xa,List.flatMap_cons,List.length_append,List.length_cons] at ih ⊢
   omega
theorem Zpg (l:List Db) (k:Nat) (hk:k<l.length):Xa (l.take (k+1))=Xa (l.take k)++Zd3 (l[k]'hk):=by
 unfold Xa
 rw [List.take_succ_eq_append_getElem hk,List.flatMap_append]
 simp
theorem Zaq (l k:List Ed):Yz (l++k)=Yz l++Yz k:=by unfold Yz;rw [List.flatMap_append]
theorem edges_any (base:Nat) (v:Value) (ps:List Nat) (ds:List Db) (w:World) (h:IsDb w base v ps ds) (hl:ds.length<=400):Calls Tryz.prog 243 #[v] w (RetEds (Xa ds) w):=by
 have hat:=h.at
 have hrows:=h.rows
 have HPL:=Lib.hid h.len
 have hl:ps.length<=400:=by rw [HPL.out];exact hl
 obtain ⟨A,cap,rfl,h1,h2,h3,h4⟩:=h.sl
 obtain ⟨i0,hi,hz0,hz1,hz2⟩:=info_parts ed_info
 have hn63:(ps.length:Int)<=9223372036854775807:=by omega
 clear h
 go_enter Tryz.func243,Tryz.ntmps243
 go_wp2
 go_loopw [2,4,7,8,9,10,11,12,13,14,15,16,17,18,19,20,21,22,23,24,25,26,27,28,29,30,31,32,33,34,35,36,37,38,39,40,41,42,43,44,45,46,47,48,49,50] (fun sv _ iv _ _ _ _ _ _ _ _ _ _ _ _ _ _ _ _ _ _ _ _ _ _ _ _ _ _ _ _ _ _ _ _ _ _ _ _ _ _ _ _ _ _ _ wr=>∃k:Nat,k<=ps.length/\iv= .int .i64 k/\Ext w wr/\wr.ownsRow w.heap.size 399 3 sv (Xa (ds.take k)).length (Yz (Xa (ds.take k)))) (fun sv _ iv _ _ _ _ _ _ _ _ _ _ _ _ _ _ _ _ _ _ _ _ _ _ _ _ _ _ _ _ _ _ _ _ _ _ _ _ _ _ _ _ _ _ _ _=>ps.length-(intOf iv).toNat)
 case atStart=>exact ⟨0,Nat.zero_le _,rfl,Ext.refl _,World.ownsRow_nil _ _ _ _⟩
 obtain ⟨k,hk,rfl,er,hown⟩:=hrel
 by_cases hkn:k<ps.length
 ·have hkd:k<ds.length:=by rw [<-HPL.out];exact hkn
  obtain ⟨p,hp,hr0⟩:=hat k hkd
  have hrow:=er.at hr0
  rcases h4 with h4 | ⟨g,rfl,hb,hlt,hcell⟩
  ·omega
  have hcp:wr.cell? ⟨g,k,none⟩=some (.pointer (some ⟨p,0,none⟩)):=(Zf (a:=⟨g,k,none⟩) (er.block hlt)).trans (hcell k _ (by unfold Zhr;rw [List.getElem?_map,hp];rfl))
  have hes:=Zpg ds k hkd
  have hlen1:=Zjx (ds.take k)
  have hlen2:(ds.take k).length=k:=by simp;omega
  generalize ds[k]'hkd=d at *
  obtain ⟨a,b,n,m⟩:=d
  simp only [dbC] at hrow
  have HES:=Lib.hid hes
  clear hes hcell hr0
  generalize Xa (ds.take k)=es at *
  have q2:=Za (j:=2) hrow rfl
  have q0:=er.size
  have hel:es.length<=2*k:=by omega
  by_cases hn:0<n
  ·have hn':decide (0<n)=true:=by simpa using hn
   have HNC:=Lib.hid hn
   go_wp2_with fail
   obtain ⟨SL,hSL⟩:∃SL,SL=(u2).ownBlock.toList:=⟨_,rfl⟩
   have hpS:p∉SL:=by
    rw [hSL]
    intro hm
    exact Y4 hown hrow (by decide) (by simpa using hm)
   have hlow:∀x∈SL,w.heap.size<=x:=fun q hq=>by
    rw [hSL] at hq
    exact (hown.lt q (by simpa using hq)).1
   have hin:∀q,(u2).ownBlock=some q->q∈SL:=fun q hq=>by rw [hSL,hq];simp
   have HSL:=Lib.hid hSL
   have hszr:=er.size
   clear hSL
   refine RgK.Zh SL Zl 14 [12,13] (by kernel_rfl) (by kernel_rfl) (by kernel_rfl) ?_
   intro w1 hw1
   have c0:=fun q:KeepOf SL w1=>Za (j:=0) ((hw1.trans q.h).at hrow hpS) rfl
   have c1:=fun q:KeepOf SL w1=>Za (j:=1) ((hw1.trans q.h).at hrow hpS) rfl
   simp only [Zk,Rg.hsB,Nat.reduceBEq,Nat.reduceAdd,↓reduceIte]
   repeat (go_big_quiet_step (fail))
   refine wpQuiet_nil ?_
   intro hx1
   clear c0 c1
   refine RgK.Xb 12 _ (.cells #[.int .u8 a,.int .u8 b,.int .i8 (-1)] 399) (fun p=>.slice (some ⟨p,0,none⟩) 1 1) (by intro w;go_simp) rfl (by kernel_rfl) (by decide) rfl ?_
   intro bb w7 h07 h7 hb0 hb7 hbb
   refine RgK.Zaj 13 _ _ _ _ rfl rfl (by kernel_rfl) (by decide) rfl w.heap.size 399 i0 (.agg #[.int .u8 0,.int .u8 0,.int .i8 0]) 3 3 Tryz.underlying367 hi hz0 hz1 hz2 rfl (by decide) (u2) _ _ (by kernel_rfl) (Zo (Zo hown hx1) h7) hin bb 1 1 _ _ _ (by kernel_rfl) hbb rfl (by simp [Value.oneCell']) (by unfold maxLen;omega) (by omega) (by have:=hx1.size;have:=h7.size;omega) ?_
   intro vA w8 h08 h78 hown8 hwh
   rw [<-HSL.out] at h78
   refine RgK.Zj (by kernel_rfl) ?_
   intro wA eA eA'
   simp only [Act.put,Rg.puB]
   have rowA:=eA'.at (h78.at (h7.at (hx1.at hrow)) hpS)
   have ownA':=Zo hown8 eA'
   have exA:=Xt (Keep.trans_fresh (S:=[]) (Kx (Xt er (Xt hx1 h7))) h78 (fun x hx=>.inr (hlow x hx))).ext eA'
   have ownA:wA.ownsRow w.heap.size 399 3 vA (es++[(a,b,(-1))]).length (Yz (es++[(a,b,(-1))])):=by
    rw [Zaq,List.length_append]
    exact ownA'
   clear hw1 hx1 h07 h7 hb0 hb7 hbb h08 h78 hown8 hwh eA eA' ownA' hlow hin HSL hpS
   have hel2:(es++[(a,b,(-1))]).length<=2*k+1:=by rw [List.length_append];simp;omega
   have HEC:=Lib.hid (rfl:es++[(a,b,(-1:Int))]=es++[(a,b,-1)])
   have q31:=Za (j:=3) rowA rfl
   by_cases hm:0<m
   ·have hm':decide (0<m)=true:=by simpa using hm
    go_wp2_with fail
    obtain ⟨SL,hSL⟩:∃SL,SL=(vA).ownBlock.toList:=⟨_,rfl⟩
    have hpS:p∉SL:=by
     rw [hSL]
     intro hm
     exact Y4 ownA rowA (by decide) (by simpa using hm)
    have hlow:∀x∈SL,w.heap.size<=x:=fun q hq=>by
     rw [hSL] at hq
     exact (ownA.lt q (by simpa using hq)).1
    have hin:∀q,(vA).ownBlock=some q->q∈SL:=fun q hq=>by rw [hSL,hq];simp
    have HSL:=Lib.hid hSL
    have hszr:=exA.size
    clear hSL
    refine RgK.Zh SL Zl 14 [12,13] (by kernel_rfl) (by kernel_rfl) (by kernel_rfl) ?_
    intro w1 hw1
    have c0:=fun q:KeepOf SL w1=>Za (j:=0) ((hw1.trans q.h).at rowA hpS) rfl
    have c1:=fun q:KeepOf SL w1=>Za (j:=1) ((hw1.trans q.h).at rowA hpS) rfl
    simp only [Zk,Rg.hsB,Nat.reduceBEq,Nat.reduceAdd,↓reduceIte]
    repeat (go_big_quiet_step (fail))
    refine wpQuiet_nil ?_
    intro hx1
    clear c0 c1
    refine RgK.Xb 12 _ (.cells #[.int .u8 b,.int .u8 a,.int .i8 1] 399) (fun p=>.slice (some ⟨p,0,none⟩) 1 1) (by intro w;go_simp) rfl (by kernel_rfl) (by decide) rfl ?_
    intro bb w7 h07 h7 hb0 hb7 hbb
    refine RgK.Zaj 13 _ _ _ _ rfl rfl (by kernel_rfl) (by decide) rfl w.heap.size 399 i0 (.agg #[.int .u8 0,.int .u8 0,.int .i8 0]) 3 3 Tryz.underlying367 hi hz0 hz1 hz2 rfl (by decide) (vA) _ _ (by kernel_rfl) (Zo (Zo ownA hx1) h7) hin bb 1 1 _ _ _ (by kernel_rfl) hbb rfl (by simp [Value.oneCell']) (by unfold maxLen;omega) (by omega) (by have:=hx1.size;have:=h7.size;omega) ?_
    intro vB1 w8 h08 h78 hown8 hwh
    rw [<-HSL.out] at h78
    refine RgK.Zj (by kernel_rfl) ?_
    intro wB1 eB1 eB1'
    simp only [Act.put,Rg.puB]
    have rowB1:=eB1'.at (h78.at (h7.at (hx1.at rowA)) hpS)
    have ownB1':=Zo hown8 eB1'
    have exB1:=Xt (Keep.trans_fresh (S:=[]) (Kx (Xt exA (Xt hx1 h7))) h78 (fun x hx=>.inr (hlow x hx))).ext eB1'
    have ownB1:wB1.ownsRow w.heap.size 399 3 vB1 ((es++[(a,b,(-1))])++[(b,a,1)]).length (Yz ((es++[(a,b,(-1))])++[(b,a,1)])):=by
     rw [Zaq,List.length_append]
     exact ownB1'
    clear hw1 hx1 h07 h7 hb0 hb7 hbb h08 h78 hown8 hwh eB1 eB1' ownB1' hlow hin HSL hpS
    have HF:=Lib.hid (show Xa (ds.take (k+1))=(es++[(a,b,(-1))])++[(b,a,1)] by rw [HES.out];simp [Zd3,HNC.out,hm])
    go_wp2
    refine ⟨⟨k+1,by omega,by go_num,exB1,?_⟩,by simp [intOf];omega⟩
    rw [HF.out]
    exact ownB1
   have hm':decide (0<m)=false:=by simpa using hm
   have HF:=Lib.hid (show Xa (ds.take (k+1))=(es++[(a,b,(-1))]) by rw [HES.out];simp [Zd3,HNC.out,hm])
   go_wp2
   refine ⟨⟨k+1,by omega,by go_num,exA,?_⟩,by simp [intOf];omega⟩
   rw [HF.out]
   exact ownA
  have hn':decide (0<n)=false:=by simpa using hn
  have HNC:=Lib.hid hn
  have q32:=Za (j:=3) hrow rfl
  by_cases hm:0<m
  ·have hm':decide (0<m)=true:=by simpa using hm
   go_wp2_with fail
   obtain ⟨SL,hSL⟩:∃SL,SL=(u2).ownBlock.toList:=⟨_,rfl⟩
   have hpS:p∉SL:=by
    rw [hSL]
    intro hm
    exact Y4 hown hrow (by decide) (by simpa using hm)
   have hlow:∀x∈SL,w.heap.size<=x:=fun q hq=>by
    rw [hSL] at hq
    exact (hown.lt q (by simpa using hq)).1
   have hin:∀q,(u2).ownBlock=some q->q∈SL:=fun q hq=>by rw [hSL,hq];simp
   have HSL:=Lib.hid hSL
   have hszr:=er.size
   clear hSL
   refine RgK.Zh SL Zl 14 [12,13] (by kernel_rfl) (by kernel_rfl) (by kernel_rfl) ?_
   intro w1 hw1
   have c0:=fun q:KeepOf SL w1=>Za (j:=0) ((hw1.trans q.h).at hrow hpS) rfl
   have c1:=fun q:KeepOf SL w1=>Za (j:=1) ((hw1.trans q.h).at hrow hpS) rfl
   simp only [Zk,Rg.hsB,Nat.reduceBEq,Nat.reduceAdd,↓reduceIte]
   repeat (go_big_quiet_step (fail))
   refine wpQuiet_nil ?_
   intro hx1
   clear c0 c1
   refine RgK.Xb 12 _ (.cells #[.int .u8 b,.int .u8 a,.int .i8 1] 399) (fun p=>.slice (some ⟨p,0,none⟩) 1 1) (by intro w;go_simp) rfl (by kernel_rfl) (by decide) rfl ?_
   intro bb w7 h07 h7 hb0 hb7 hbb
   refine RgK.Zaj 13 _ _ _ _ rfl rfl (by kernel_rfl) (by decide) rfl w.heap.size 399 i0 (.agg #[.int .u8 0,.int .u8 0,.int .i8 0]) 3 3 Tryz.underlying367 hi hz0 hz1 hz2 rfl (by decide) (u2) _ _ (by kernel_rfl) (Zo (Zo hown hx1) h7) hin bb 1 1 _ _ _ (by kernel_rfl) hbb rfl (by simp [Value.oneCell']) (by unfold maxLen;omega) (by omega) (by have:=hx1.size;have:=h7.size;omega) ?_
   intro vB2 w8 h08 h78 hown8 hwh
   rw [<-HSL.out] at h78
   refine RgK.Zj (by kernel_rfl) ?_
   intro wB2 eB2 eB2'
   simp only [Act.put,Rg.puB]
   have rowB2:=eB2'.at (h78.at (h7.at (hx1.at hrow)) hpS)
   have ownB2':=Zo hown8 eB2'
   have exB2:=Xt (Keep.trans_fresh (S:=[]) (Kx (Xt er (Xt hx1 h7))) h78 (fun x hx=>.inr (hlow x hx))).ext eB2'
   have ownB2:wB2.ownsRow w.heap.size 399 3 vB2 (es++[(b,a,1)]).length (Yz (es++[(b,a,1)])):=by
    rw [Zaq,List.length_append]
    exact ownB2'
   clear hw1 hx1 h07 h7 hb0 hb7 hbb h08 h78 hown8 hwh eB2 eB2' ownB2' hlow hin HSL hpS
   have HF:=Lib.hid (show Xa (ds.take (k+1))=es++[(b,a,1)] by rw [HES.out];simp [Zd3,HNC.out,hm])
   go_wp2
   refine ⟨⟨k+1,by omega,by go_num,exB2,?_⟩,by simp [intOf];omega⟩
   rw [HF.out]
   exact ownB2
  have hm':decide (0<m)=false:=by simpa using hm
  have HF:=Lib.hid (show Xa (ds.take (k+1))=es by rw [HES.out];simp [Zd3,HNC.out,hm])
  go_wp2
  refine ⟨⟨k+1,by omega,by go_num,er,?_⟩,by simp [intOf];omega⟩
  rw [HF.out]
  exact hown
 have hk':k=ps.length:=by omega
 subst hk'
 rw [HPL.out,List.take_length] at hown
 have hk3:decide ((ps.length:Int)<(ps.length:Int))=false:=by simp
 go_wp2
 go_ret
 exact ⟨_,rfl,er,hown⟩
def Zca (ps:List Nat):Option (Nat×Bool)->List Value
 | none=>[.pointer none,.bool false]
 | some (j,b)=>[.pointer ((ps[j]?).map fun p=>⟨p,0,none⟩),.bool b]
def Zb9 (ps:List Nat) (r:Option (Nat×Bool)):Value:= .agg (Zca ps r).toArray
theorem Vw {ps:List Nat} {k p:Nat} (h:ps[k]? =some p) (b:Bool):Zca ps (some (k,b))=[.pointer (some ⟨p,0,none⟩),.bool b]:=by simp [Zca,h]
theorem Zbe (ps:List Nat) (r:Option (Nat×Bool)):(Zca ps r).length=2:=by
 cases r with
 | none=>rfl
 | some x=>rfl
theorem stepC_one (ps:List Nat) (r:Option (Nat×Bool)):((Zca ps r).toArray).toList.all (·.oneCell')=true:=by
 cases r with
 | none=>rfl
 | some x=>rfl
theorem stepD_at (l:List Db) (k:Nat) (hk:k<l.length) (p q:Int) (r:Option (Nat×Bool)):Va (l.drop k) k p q r=
 if (l[k]'hk).1=p/\(l[k]'hk).2.1=q/\0<(l[k]'hk).2.2.1 then some (k,false)
 else if (l[k]'hk).1=q/\(l[k]'hk).2.1=p/\0<(l[k]'hk).2.2.2 then Va (l.drop (k+1)) (k+1) p q (some (k,true)) else Va (l.drop (k+1)) (k+1) p q r:=by
 rw [List.drop_eq_getElem_cons hk]
 rfl
theorem step_any (base:Nat) (v:Value) (ps:List Nat) (ds:List Db) (p q:Int) (w:World) (h:IsDb w base v ps ds) (hl:ds.length<=400):Calls Tryz.prog 281 #[v,.int .u8 p,.int .u8 q] w (Ret (Zb9 ps (Va ds 0 p q none)) w):=by
 have hat:=h.at
 have HPL:=Lib.hid h.len
 have hl:ps.length<=400:=by rw [HPL.out];exact hl
 obtain ⟨A,cap,rfl,h1,h2,h3,h4⟩:=h.sl
 have hn63:(ps.length:Int)<=9223372036854775807:=by omega
 clear h
 have e0:=Zc w (.cells #[.pointer none,.bool false] 412)
 have hb0:=Zb w (.cells #[.pointer none,.bool false] 412)
 obtain ⟨ob,hob⟩:∃ob,ob=w.heap.size:=⟨_,rfl⟩
 rw [<-hob] at hb0
 have hobw:w.heap.size<=ob:=by omega
 go_enter Tryz.func281,Tryz.ntmps281
 go_wp2_with (refine Zu rfl 412 rfl (.cells #[.pointer none,.bool false] 412) _ rfl (by go_simp) ?_
              intro w0 e0 hb0)
 rw [<-hob] at hb0 ⊢
 clear hob
 go_loopw [8,11,12,13,14,15,16,17,18,19,20,21,22,23,24,25,26,27,28,29,30,31,32,33,34,35,36,37,38,39,40,41,42,43,44,45,46,47,48,49,50,51,52,53,54,55,56,57,58,59,60,61,62,63,64,65,66,67,68] (fun _ iv _ _ _ _ _ _ _ _ _ _ _ _ _ _ _ _ _ _ _ _ _ _ _ _ _ _ _ _ _ _ _ _ _ _ _ _ _ _ _ _ _ _ _ _ _ _ _ _ _ _ _ _ _ _ _ _ _ wr=>∃(k:Nat) (r:Option (Nat×Bool)),k<=ps.length/\iv= .int .i64 k/\Ext w wr/\wr.heap[ob]? =some (.cells (Zca ps r).toArray 412 (0,0))/\Va ds 0 p q none=Va (ds.drop k) k p q r) (fun _ iv _ _ _ _ _ _ _ _ _ _ _ _ _ _ _ _ _ _ _ _ _ _ _ _ _ _ _ _ _ _ _ _ _ _ _ _ _ _ _ _ _ _ _ _ _ _ _ _ _ _ _ _ _ _ _ _ _ _=>ps.length-(intOf iv).toNat)
 case atStart=>exact ⟨0,none,Nat.zero_le _,rfl,e0,hb0,rfl⟩
 obtain ⟨k,r,hk,rfl,er,hrow,hst⟩:=hrel
 by_cases hkn:k<ps.length
 focus
  have hkd:k<ds.length:=by rw [<-HPL.out];exact hkn
  obtain ⟨pp,hp,hr0⟩:=hat k hkd
  have hrd:=er.at hr0
  rcases h4 with h4 | ⟨g,rfl,hb,hlt,hcell⟩
  ·omega
  focus
   have hcp:wr.cell? ⟨g,k,none⟩=some (.pointer (some ⟨pp,0,none⟩)):=(Zf (a:=⟨g,k,none⟩) (er.block hlt)).trans (hcell k _ (by unfold Zhr;rw [List.getElem?_map,hp];rfl))
   rw [stepD_at ds k hkd] at hst
   generalize ds[k]'hkd=d at *
   obtain ⟨a,b,n,m⟩:=d
   simp only [dbC] at hrd
   simp only at hst
   have HP:=Lib.hid hp
   have hcl:=Zbe ps r
   have hob2:=hobw
   have d0:=Za (j:=0) hrd rfl
   have d1:=Za (j:=1) hrd rfl
   have d2:=Za (j:=2) hrd rfl
   have d3:=Za (j:=3) hrd rfl
   clear hp hcell hr0 hrd hat
   by_cases c1:a=p/\b=q/\0<n
   ·rw [if_pos c1] at hst
    have HST:=Lib.hid hst
    obtain ⟨x1,x2,x3⟩:=c1
    have x1':(a==p)=true:=by simpa using x1
    have x2':(b==q)=true:=by simpa using x2
    have x3':decide (0<n)=true:=by simpa using x3
    clear hst x1 x2 x3
    go_wp2_with (refine Ze rfl rfl 412 _ _ rfl ob _ rfl rfl 412 _ hrow (by kernel_rfl) (by simpa using hcl) (by rfl) ?_
                 intro w5 hb5 ho5 hs5)
    have e5:Ext w w5:=hb5 _ _ hobw er
    exact Yp ob 412 _ _ _ rfl rfl hs5 Tryz.underlying412 rfl (by kernel_rfl) rfl ⟨by rw [HST.out];unfold Zb9;rw [Vw HP.out],e5⟩
   focus
    rw [if_neg c1] at hst
    have hx:(a==p)=false\/((a==p)=true/\(b==q)=false)\/((a==p)=true/\(b==q)=true/\decide (0<n)=false):=by
     by_cases z1:a=p
     ·by_cases z2:b=q
      ·exact .inr (.inr ⟨by simpa using z1,by simpa using z2,by simpa using fun h=>c1 ⟨z1,z2,h⟩⟩)
      exact .inr (.inl ⟨by simpa using z1,by simpa using z2⟩)
     exact .inl (by simpa using z1)
    clear c1
    rcases hx with x1 | ⟨x1,x2⟩ | ⟨x1,x2,x3⟩
    focus
     have HOK:=Lib.hid hst
     clear hst
     by_cases c2:a=q/\b=p/\0<m
     rotate_left
     ·have HST:=Lib.hid (show Va ds 0 p q none=Va (ds.drop (k+1)) (k+1) p q r by rw [HOK.out,if_neg c2])
      have hz:(a==q)=false\/((a==q)=true/\(b==p)=false)\/((a==q)=true/\(b==p)=true/\decide (0<m)=false):=by
       by_cases z1:a=q
       ·by_cases z2:b=p
        ·exact .inr (.inr ⟨by simpa using z1,by simpa using z2,by simpa using fun h=>c2 ⟨z1,z2,h⟩⟩)
        exact .inr (.inl ⟨by simpa using z1,by simpa using z2⟩)
       exact .inl (by simpa using z1)
      clear c2 HOK HP
      rcases hz with y1 | ⟨y1,y2⟩ | ⟨y1,y2,y3⟩
      rotate_left
      rotate_left
      all_goals
       go_wp2_with fail
       exact ⟨⟨k+1,r,by omega,by go_num,er,hrow,HST.out⟩,by simp [intOf];omega⟩
    rotate_left
    focus
     have HOK:=Lib.hid hst
     clear hst
     by_cases c2:a=q/\b=p/\0<m
     rotate_left
     ·have HST:=Lib.hid (show Va ds 0 p q none=Va (ds.drop (k+1)) (k+1) p q r by rw [HOK.out,if_neg c2])
      have hz:(a==q)=false\/((a==q)=true/\(b==p)=false)\/((a==q)=true/\(b==p)=true/\decide (0<m)=false):=by
       by_cases z1:a=q
       ·by_cases z2:b=p
        ·exact .inr (.inr ⟨by simpa using z1,by simpa using z2,by simpa using fun h=>c2 ⟨z1,z2,h⟩⟩)
        exact .inr (.inl ⟨by simpa using z1,by simpa using z2⟩)
       exact .inl (by simpa using z1)
      clear c2 HOK HP
      rcases hz with y1 | ⟨y1,y2⟩ | ⟨y1,y2,y3⟩
      rotate_left
      rotate_left
      all_goals
       go_wp2_with fail
       exact ⟨⟨k+1,r,by omega,by go_num,er,hrow,HST.out⟩,by simp [intOf];omega⟩
    rotate_left
    focus
     have HOK:=Lib.hid hst
     clear hst
     by_cases c2:a=q/\b=p/\0<m
     rotate_left
     ·have HST:=Lib.hid (show Va ds 0 p q none=Va (ds.drop (k+1)) (k+1) p q r by rw [HOK.out,if_neg c2])
      have hz:(a==q)=false\/((a==q)=true/\(b==p)=false)\/((a==q)=true/\(b==p)=true/\decide (0<m)=false):=by
       by_cases z1:a=q
       ·by_cases z2:b=p
        ·exact .inr (.inr ⟨by simpa using z1,by simpa using z2,by simpa using fun h=>c2 ⟨z1,z2,h⟩⟩)
        exact .inr (.inl ⟨by simpa using z1,by simpa using z2⟩)
       exact .inl (by simpa using z1)
      clear c2 HOK HP
      rcases hz with y1 | ⟨y1,y2⟩ | ⟨y1,y2,y3⟩
      rotate_left
      rotate_left
      all_goals
       go_wp2_with fail
       exact ⟨⟨k+1,r,by omega,by go_num,er,hrow,HST.out⟩,by simp [intOf];omega⟩
 rotate_left 3
 ·have hk':k=ps.length:=by omega
  subst hk'
  have HST:=Lib.hid (show Va ds 0 p q none=r by rw [hst,HPL.out,List.drop_length];rfl)
  have hk3:decide ((ps.length:Int)<(ps.length:Int))=false:=by simp
  have ld:=run_loadVar_row (P:=Tryz.prog) wr ob _ 412 _ _ _ hrow Tryz.underlying412 rfl (by rw [List.size_toArray,Zbe];kernel_rfl)
  have h1c:=stepC_one ps r
  have hcl:=Zbe ps r
  clear hst
  obtain ⟨sc,hsc⟩:∃sc,sc=Zca ps r:=⟨_,rfl⟩
  rw [<-hsc] at hrow ld h1c hcl
  have HSC:=Lib.hid (show Zb9 ps r= .agg sc.toArray by unfold Zb9;rw [hsc])
  clear hsc
  have hsz:(Tryz.prog.info? 412).map (·.size)=some sc.toArray.size:=by rw [List.size_toArray,hcl];kernel_rfl
  go_wp2_with (first
   | (refine Zd rfl 412 _ _ _ rfl rfl ld ?_)
   | (refine Ze rfl rfl 412 _ _ rfl ob _ rfl rfl 412 _ hrow hsz rfl h1c ?_
      intro w5 hb5 ho5 hs5))
  have e5:Ext w w5:=hb5 _ _ hobw er
  exact Yp ob 412 _ _ _ rfl rfl hs5 Tryz.underlying412 rfl hsz rfl ⟨by rw [HST.out,HSC.out],e5⟩
 all_goals
  have HST:=Lib.hid (show Va ds 0 p q none=Va (ds.drop (k+1)) (k+1) p q (some (k,true)) by rw [HOK.out,if_pos c2])
  obtain ⟨y1,y2,y3⟩:=c2
  have y1':(a==q)=true:=by simpa using y1
  have y2':(b==p)=true:=by simpa using y2
  have y3':decide (0<m)=true:=by simpa using y3
  clear y1 y2 y3 HOK
  go_wp2_with (refine Ze rfl rfl 412 _ _ rfl ob _ rfl rfl 412 _ hrow (by kernel_rfl) (by simpa using hcl) (by rfl) ?_
               intro w5 hb5 ho5 hs5
               have e5:Ext w w5:=hb5 _ _ hobw er)
  exact ⟨⟨k+1,some (k,true),by omega,by go_num,e5,by rw [Vw HP.out];exact hs5,HST.out⟩,by simp [intOf];omega⟩
theorem getD_at (l:List Db) (j:Nat) (h:j<l.length):l.getD j db0=l[j]'h:=by rw [List.getD_eq_getElem?_getD,List.getElem?_eq_getElem h];rfl
theorem most_any (base:Nat) (v:Value) (ps:List Nat) (ds:List Db) (j:Nat) (b:Bool) (w:World) (h:IsDb w base v ps ds) (hj:j<ds.length):Calls Tryz.prog 282 #[Zb9 ps (some (j,b))] w (Ret (.int .i64 (Zd1 ds (j,b))) w):=by
 obtain ⟨p,hp,hrow⟩:=h.at j hj
 unfold Zd1 Zb9
 rw [Vw hp,getD_at ds j hj]
 generalize ds[j]'hj=d at *
 obtain ⟨x0,x1,x2,x3⟩:=d
 simp only [dbC] at hrow
 have e0:=Zc w (.cells #[.pointer (some ⟨p,0,none⟩),.bool b] 412)
 have h0:=Zb w (.cells #[.pointer (some ⟨p,0,none⟩),.bool b] 412)
 have c0:=Za (j:=0) h0 rfl
 have c1:=Za (j:=1) h0 rfl
 have d2:=Za (j:=2) (e0.at hrow) rfl
 have d3:=Za (j:=3) (e0.at hrow) rfl
 clear h hp hrow h0
 cases b
 rotate_left
 all_goals
  go_enter Tryz.func282,Tryz.ntmps282
  go_wp2
  go_ret
  exact ⟨rfl,e0⟩
theorem sl_off {S:List Nat} {w w':World} {base size n:Nat} {v:Value} {xs:List Value} (h:Zn w base size v n xs) (k:Keep S w w') (hS:∀q,v.ownBlock=some q->q∉S):Zn w' base size v n xs:=by
 obtain ⟨A,cap,h0,h1,h2,h3,h4⟩:=h
 refine ⟨A,cap,h0,h1,h2,h3,?_⟩
 rcases h4 with h4 | ⟨g,h4,h5,h6,h7⟩
 ·exact .inl h4
 exact .inr ⟨g,h4,h5,Nat.lt_of_lt_of_le h6 k.size,fun j u hu=>by
  rw [Zf (k.block g h6 (hS g (by rw [h0,h4];rfl)))]
  exact h7 j u hu⟩
theorem Zk1 {w:World} {p:Nat} {x0 x1 x2 x3:Int} (h:w.heap[p]? =some (.cells #[.int .u8 x0,.int .u8 x1,.int .i64 x2,.int .i64 x3] 365 (0,0))) (a c:Int) (s:Array Value) (t:TypeId):
 ((w.setCell ⟨p,2,none⟩ (.int .i64 a)).alloc (.cells s t)).heap[w.heap.size]? =some (.cells s t)/\
 ((w.setCell ⟨p,2,none⟩ (.int .i64 a)).alloc (.cells s t)).heap[p]? =some (.cells #[.int .u8 x0,.int .u8 x1,.int .i64 a,.int .i64 x3] 365 (0,0))/\
 (((w.setCell ⟨p,2,none⟩ (.int .i64 a)).setCell ⟨p,3,none⟩ (.int .i64 c)).alloc (.cells s t)).heap[p]? =some (.cells #[.int .u8 x0,.int .u8 x1,.int .i64 a,.int .i64 c] 365 (0,0))/\
 Keep [p] w (((w.setCell ⟨p,2,none⟩ (.int .i64 a)).setCell ⟨p,3,none⟩ (.int .i64 c)).alloc (.cells s t)):=by
 have h1:=heap_setCell_same w p 2 _ _ (.int .i64 a) h
 have h2:=heap_setCell_same _ p 3 _ _ (.int .i64 c) h1
 have h0:=Zb (w.setCell ⟨p,2,none⟩ (.int .i64 a)) (.cells s t)
 rw [World.size_setCell] at h0
 exact ⟨h0,(Zc _ _).at h1,(Zc _ _).at h2,((((Keep.refl [p] w).setCell (p:=⟨p,2,none⟩) (Or.inl (by simp)) (.int .i64 a)).setCell (p:=⟨p,3,none⟩) (Or.inl (by simp)) (.int .i64 c))).trans (Kx (Zc _ _))⟩
theorem goes_set {w w':World} {base:Nat} {v:Value} {ps:List Nat} {ds:List Db} (h:IsDb w base v ps ds) {j p:Nat} {d:Db} (hj:j<ds.length) (hp:ps[j]? =some p) (k:Keep [p] w w') (hr:w'.heap[p]? =some (Obj.cells (dbC d).toArray 365 (0,0))):
 IsDb w' base v ps (ds.set j d):=by
 refine ⟨by rw [List.length_set];exact h.len,sl_off h.sl k (fun q hq hm=>h.off q hq (by rw [List.mem_singleton.1 hm];exact List.mem_of_getElem? hp)),fun i q e hq he=> ?_,h.nd,h.low,h.off⟩
 rw [List.getElem?_set] at he
 by_cases hij:j=i
 ·subst hij
  rw [if_pos rfl,if_pos hj] at he
  injection he with he
  rw [hp] at hq
  injection hq with hq
  rw [<-hq,<-he]
  exact hr
 rw [if_neg hij] at he
 have hne:q≠p:=fun e2=>by
  subst e2
  exact hij ((List.getElem?_inj (List.getElem?_eq_some_iff.1 hp).1 h.nd).1 (hp.trans hq.symm))
 exact k.at (h.rows i q e hq he) (by simpa using hne)
theorem dgoes_any (base:Nat) (v:Value) (ps:List Nat) (ds:List Db) (j:Nat) (b:Bool) (n:Int) (w:World) (h:IsDb w base v ps ds) (hj:j<ds.length):Calls Tryz.prog 283 #[Zb9 ps (some (j,b)),.int .i64 n] w (fun e w'=>e= .returned (.tuple #[])/\Keep ps w w'/\IsDb w' base v ps (goD n ds (j,b))):=by
 obtain ⟨p,hp,hrow⟩:=h.at j hj
 unfold goD Zb9
 rw [Vw hp,getD_at ds j hj]
 have hset:=fun (w':World) (d:Db)=>goes_set (d:=d) (w':=w') h hj hp
 have hpm:p∈ps:=List.mem_of_getElem? hp
 generalize ds[j]'hj=d at *
 obtain ⟨x0,x1,x2,x3⟩:=d
 simp only [dbC] at hrow
 have e0:=Zc w (.cells #[.pointer (some ⟨p,0,none⟩),.bool b] 412)
 have h0:=Zb w (.cells #[.pointer (some ⟨p,0,none⟩),.bool b] 412)
 have hr1:=e0.at hrow
 have hpl:=Zg hrow
 have c0:=Za (j:=0) h0 rfl
 have c1:=Za (j:=1) h0 rfl
 have d2:=Za (j:=2) hr1 rfl
 have f2:=frozen_of_row _ p 2 _ _ hr1
 clear h0 hr1 e0
 cases b
 focus
  obtain ⟨q1,q2,q3,q4⟩:=Zk1 hrow (wrap64 (x2-n)) (wrap64 (x3+n)) #[.pointer (some ⟨p,0,none⟩),.bool false] 412
  have e0:=Za (j:=0) q1 rfl
  have e3:=Za (j:=3) q2 rfl
  have g3:=frozen_of_row _ p 3 _ _ q2
  have hfin:=hset _ (x0,x1,wrap64 (x2-n),wrap64 (x3+n)) q4 q3
 rotate_left
 focus
  obtain ⟨q1,q2,q3,q4⟩:=Zk1 hrow (wrap64 (x2-wrap64 (-n))) (wrap64 (x3+wrap64 (-n))) #[.pointer (some ⟨p,0,none⟩),.bool true] 412
  have e0:=Za (j:=0) q1 rfl
  have e3:=Za (j:=3) q2 rfl
  have g3:=frozen_of_row _ p 3 _ _ q2
  have hfin:=hset _ (x0,x1,wrap64 (x2-wrap64 (-n)),wrap64 (x3+wrap64 (-n))) q4 q3
 all_goals
  have hkk:=q4.mono (T:=ps) (fun x hx=>by rw [List.mem_singleton.1 hx];exact hpm)
  clear q1 q2 q3 q4 hset h
  go_enter Tryz.func283,Tryz.ntmps283
  go_wp2
  exact bodyPost_end (results_none (by kernel_rfl) _ _ _) rfl ⟨rfl,hkk,hfin⟩
end Go.Proofs.YtipjchbdogmccaaGreat
namespace Go.Rg
open Go.RowKit
section
variable {P:Program} {ops:Array Oper} {Q:Exit->Act->World->Prop} {rest:List Oper} {o:Oper} {a:Act} {w:World}
theorem Zaa (hg:o.guard=none) (l c:Operand) (t:TypeId) (hop:o.op=Op.makeSlice t l c) (base:Nat) (e:TypeId) (i:TypeInfo) (z:Value) (size:Nat) (h1:P.underlying t=some (.slice e)) (h2:P.info? e=some i) (h3:i.zero=some z) (h4:i.size=size)
 (kl kc:IntKind) (n:Nat) (hl:a.eval l= .int kl n) (hc:a.eval c= .int kc n) (b2:i.bytes*n<=281474976710656) (b3:n<=maxLen) (b4:base<=w.heap.size) (xs:List Value) (hx:(madeCells z.cells (n*size)).toList=xs)
 (h:∀w',Ext w w'->w.heap.size<w'.heap.size->w'.ownsRow base e size (.slice (some ⟨w.heap.size,0,none⟩) n n) n xs->wpList P ops Q rest (a.put o.dst (.slice (some ⟨w.heap.size,0,none⟩) n n)) w'):wpList P ops Q (o::rest) a w:=
 wpList_plain hg fun K hK=>by
  have hrun:=run_make (P:=P) w t e i z h1 h2 h3 kl kc n n (by omega) (by omega) (by
   have h:((i.bytes*n:Nat):Int)<=281474976710656:=by omega
   rwa [Int.natCast_mul] at h) (by unfold maxLen at b3;omega)
  rw [h4] at hrun
  simp only [Int.toNat_natCast] at hrun
  unfold Oper.wp execOp
  simp only [hop,hl,hc,hrun,Sem.run_bind,Sem.run_pure,Result.andThen_ok]
  refine hK _ _ (h _ (Zc _ _) (by rw [size_alloc];omega) ⟨?_,.inr ⟨w.heap.size,n,_,rfl,b4,Zb _ _,Nat.le_refl _,b3,by rw [size_madeCells],?_⟩⟩)
  ·rw [<-hx,Array.length_toList,size_madeCells]
  rw [List.take_of_length_le (by rw [Array.length_toList,size_madeCells];exact Nat.le_refl _),hx]
theorem Zd7 (hgd:o.guard=none) (hd:o.dst=none) (ty:TypeId) (x y:Operand) (hop:o.op= .store ty x y) (b off:Nat) (cells:Array Value) (hx:a.eval x= .pointer (some ⟨b,off,none⟩)) (hy:a.eval y= .agg cells)
 (ht:w.there b off cells.size) (hi:(P.info? ty).map (·.size)=some cells.size) (h1:cells.all (·.oneCell')=true) (h:wpList P ops Q rest a (w.setCells b off cells.toList)):wpList P ops Q (o::rest) a w:=
 wpList_plain hgd fun K hK=>by
  unfold Oper.wp execOp
  simp only [hop,hx,hy,Instr.storeAt,Instr.sureAddr,Sem.run_bind,Sem.run_pure,Result.andThen_ok,run_storeVar_mid w b off ty cells ht hi h1,Oper.upon]
  rw [hd]
  exact hK _ _ h
end
theorem made2 (a b:Value) (n:Nat):(madeCells #[a,b] (n*2)).toList=(List.replicate n [a,b]).flatten:=by
 induction n with
 | zero=>simp [madeCells]
 | succ n ih=>
   rw [List.replicate_succ',List.flatten_append,<-ih,show (n+1)*2=n*2+1+1 by omega]
   unfold madeCells
   rw [Array.range_succ,Array.range_succ]
   simp
theorem Y8 (a:Value) (n:Nat):(madeCells #[a] (n*1)).toList=List.replicate n a:=by
 unfold madeCells
 rw [Nat.mul_one]
 induction n with
 | zero=>simp
 | succ n ih=>rw [List.replicate_succ',<-ih,Array.range_succ];simp [Nat.mod_one]
end Go.Rg
namespace Go.Proofs.YtipjchbdogmccaaGreat
open Go.RowKit Go.Rg Go.BigFrame
def alC (ps:List Nat) (al:List (Option (Nat×Bool))):List Value:=al.flatMap (Zca ps)
theorem alC_none (ps:List Nat) (n:Nat):(List.replicate n [Value.pointer none,Value.bool false]).flatten=alC ps (List.replicate n none):=by
 unfold alC
 induction n with
 | zero=>rfl
 | succ n ih=>rw [List.replicate_succ,List.replicate_succ,List.flatten_cons,List.flatMap_cons,ih];rfl
theorem Znm (ps:List Nat) (al:List (Option (Nat×Bool))):(alC ps al).length=al.length*2:=Zap (Zca ps) 2 (Zbe ps) al
theorem Znn (ps:List Nat) (al:List (Option (Nat×Bool))) (k j:Nat) (hk:k<al.length) (hj:j<2):(alC ps al)[k*2+j]? =(Zca ps (al[k]'hk))[j]? :=Za8 (Zca ps) 2 (Zbe ps) al k j hk hj
theorem alC_set (ps:List Nat) (al:List (Option (Nat×Bool))) (k:Nat) (hk:k<al.length) (r:Option (Nat×Bool)) (x y:Value) (hr:Zca ps r=[x,y]):((alC ps al).set (k*2) x).set (k*2+1) y=alC ps (al.set k r):=by
 have hl:=Znm ps al
 refine List.ext_getElem? fun m=> ?_
 rw [List.getElem?_set,List.getElem?_set]
 simp only [List.length_set]
 by_cases hm:m<al.length*2
 ·have hdiv:m / 2<al.length:=by omega
  have hmm:m=m / 2*2+m%2:=by omega
  have h2:=Znn ps (al.set k r) (m / 2) (m%2) (by rw [List.length_set];exact hdiv) (by omega)
  rw [<-hmm,List.getElem_set] at h2
  have h3:=Znn ps al (m / 2) (m%2) hdiv (by omega)
  rw [<-hmm] at h3
  rw [h2]
  by_cases e:k=m / 2
  ·rw [if_pos e,hr]
   by_cases e0:m%2=0
   ·rw [if_neg (by omega),if_pos (by omega),if_pos (by omega),e0];rfl
   rw [if_pos (by omega),if_pos (by omega),show m%2=1 by omega];rfl
  rw [if_neg e,if_neg (by omega),if_neg (by omega),h3]
 rw [if_neg (by omega),if_neg (by omega),List.getElem?_eq_none (by omega),List.getElem?_eq_none (by rw [Znm,List.length_set];omega)]
theorem step_info:(Tryz.prog.info? 412).map (fun i=>(i.zero,i.size,i.bytes))=some (some (.agg #[.pointer none,.bool false]),2,16):=by kernel_rfl
theorem Zn1 {ds:List Db} {way:List Int} (hc:Cyc (Xa ds) way) (i:Nat) (hi:i<way.length):∃s,Va ds 0 (way.getD i 0) (way.getD ((i+1)%way.length) 0) none=some s/\s.1<ds.length:=by
 obtain ⟨c,hcc⟩:=hc i hi
 have hm:(i+1)%way.length<way.length:=Nat.mod_lt _ (by omega)
 rw [List.getD_eq_getElem?_getD,List.getD_eq_getElem?_getD,List.getElem?_eq_getElem hi,List.getElem?_eq_getElem hm]
 have h1:=Zio ds 0 none hcc
 simp only [Option.getD_some]
 obtain ⟨s,hs⟩:=Option.ne_none_iff_exists'.1 h1
 refine ⟨s,hs,?_⟩
 obtain ⟨j,b⟩:=s
 rcases Zft ds 0 none j b hs with h | h
 ·cases h
 simpa using h.2
theorem Zin (ds:List Db) (way:List Int):(Up ds way).length=way.length:=by unfold Up;simp
theorem stepsD_at (ds:List Db) (way:List Int) (i:Nat) (hi:i<way.length):(Up ds way)[i]'(by rw [Zin];exact hi)=(Va ds 0 (way.getD i 0) (way.getD ((i+1)%way.length) 0) none).getD (0,false):=by
 unfold Up
 simp
def alK (ss:List (Nat×Bool)) (k n:Nat):List (Option (Nat×Bool)):=(ss.take k).map some++List.replicate (n-k) none
theorem Zia {ss:List (Nat×Bool)} {k n:Nat} (h:ss.length=n) (hk:k<=n):(alK ss k n).length=n:=by unfold alK;simp;omega
theorem alK_set {ss:List (Nat×Bool)} {k n:Nat} (h:ss.length=n) (hk:k<n):(alK ss k n).set k (some (ss[k]'(by omega)))=alK ss (k+1) n:=by
 have hl:((ss.take k).map some:List (Option (Nat×Bool))).length=k:=by simp;omega
 unfold alK
 rw [List.set_append_right _ _ (by omega),hl,Nat.sub_self,show n-k=(n-(k+1))+1 by omega,List.replicate_succ,List.set_cons_zero,List.take_succ_eq_append_getElem (by omega),List.map_append]
 simp
theorem alK_at {ss:List (Nat×Bool)} {k n j:Nat} (h:ss.length=n) (hk:k<=n) (hj:j<k):(alK ss k n)[j]'(by rw [Zia h hk];omega)=some (ss[j]'(by omega)):=by
 unfold alK
 rw [List.getElem_append_left (by simp;omega)]
 simp
theorem Zrz (base bw:Nat) (v vw:Value) (ps:List Nat) (ds:List Db) (way:List Int) (w:World) (h:IsDb w base v ps ds) (hl:ds.length<=400) (hw:Zn w bw 1 vw way.length (way.map (Value.int .u8))) (hwl:way.length<=400) (hwp:∀q,vw.ownBlock=some q->q∉ps)
 (hc:Cyc (Xa ds) way):Calls Tryz.prog 244 #[v,vw] w (fun e w'=>e= .returned (.tuple #[])/\Keep ps w w'/\IsDb w' base v ps (Zbx ds way)):=by
 obtain ⟨i0,hi,hz0,hz1,hz2⟩:=info_parts step_info
 have hst:=Zn1 hc
 have hsl:=Zin ds way
 have hsa:∀i,i<way.length->(Up ds way)[i]? =some ((Va ds 0 (way.getD i 0) (way.getD ((i+1)%way.length) 0) none).getD (0,false)):=fun i hi=>by rw [List.getElem?_eq_getElem (by rw [hsl];exact hi),stepsD_at ds way i hi]
 have HDB:=Lib.hid (fun (W:World) (k:Ext w W)=>h.ext k)
 have HPS:=Lib.hid (show ∀p∈ps,p<w.heap.size from fun p hp=>by
  obtain ⟨i,hi,e⟩:=List.getElem_of_mem hp
  obtain ⟨q,hq,hr⟩:=h.at i (by rw [<-h.len];exact hi)
  rw [List.getElem?_eq_getElem hi,e] at hq
  injection hq with hq
  rw [hq]
  exact Zg hr)
 have HR:=Lib.hid (show Zbx ds way=(Up ds way).foldl (goD (Zfj ds (Up ds way))) ds from rfl)
 have HAM:=Lib.hid (show Zfj ds (Up ds way)=(Up ds way).foldl (fun n s=>min n (Zd1 ds s)) 1099511627776 from rfl)
 obtain ⟨A,cap,rfl,h1,h2,h3,h4⟩:=hw
 have hxs:(madeCells (Value.agg #[.pointer none,.bool false]).cells (way.length*2)).toList=alC ps (List.replicate way.length none):=by
  show (madeCells #[.pointer none,.bool false] (way.length*2)).toList=_
  rw [made2,alC_none]
 have hb2:i0.bytes*way.length<=281474976710656:=by rw [hz2];omega
 have hb3:way.length<=maxLen:=by unfold maxLen;omega
 clear h hc
 go_enter Tryz.func244,Tryz.ntmps244
 go_wp2_with (first
  | (at_make;refine Zaa rfl _ _ 410 rfl w.heap.size 412 i0 _ 2 Tryz.underlying410 hi hz0 hz1 _ _ way.length rfl rfl hb2 hb3 (Nat.le_refl _) _ hxs ?_
     intro w1 e1 hlt1 hown1))
 obtain ⟨ga,hga⟩:∃ga,ga=w.heap.size:=⟨_,rfl⟩
 rw [<-hga] at hown1 ⊢
 have hgw:w.heap.size<=ga:=by omega
 clear hga hxs hb2
 generalize hss:Up ds way=ss at *
 clear hss
 go_loopw [5,6,7,15,16,17,18,19,20,21,22,23,24,25,26,27,28,29,30,31,32,33,34,35,36,37,38,39,40,41] (fun nv _ _ iv _ _ _ _ _ _ _ _ _ _ _ _ _ _ _ _ _ _ _ _ _ _ _ _ _ _ wr=>∃k:Nat,k<=way.length/\iv= .int .i64 k/\nv= .int .i64 ((ss.take k).foldl (fun n s=>min n (Zd1 ds s)) 1099511627776)/\Ext w wr/\wr.ownsRow w.heap.size 412 2 (.slice (some ⟨ga,0,none⟩) way.length way.length) way.length (alC ps (alK ss k way.length))) (fun nv _ _ iv _ _ _ _ _ _ _ _ _ _ _ _ _ _ _ _ _ _ _ _ _ _ _ _ _ _ _=>way.length-(intOf iv).toNat)
 case atStart=>exact ⟨0,Nat.zero_le _,rfl,rfl,e1,by have:=Uj hown1 hgw;simpa [alK] using this⟩
 obtain ⟨k,hk,rfl,rfl,er,hown⟩:=hrel
 by_cases hkn:k<way.length
 ·obtain ⟨⟨sj,sb⟩,hs1,hs2⟩:=hst k hkn
  have hks:k<ss.length:=by omega
  have hs3:=hsa k hkn
  rw [hs1,List.getElem?_eq_getElem hks] at hs3
  injection hs3 with hs3
  simp only [Option.getD_some] at hs3 hs2
  rcases h4 with h4 | ⟨g,rfl,hbw,hlt,hcell⟩
  ·omega
  obtain ⟨m,hm⟩:∃m,m=(k+1)%way.length:=⟨_,rfl⟩
  have hml:m<way.length:=by rw [hm];exact Nat.mod_lt _ (by omega)
  rw [<-hm] at hs1
  have hcw:∀(j:Nat) (hj:j<way.length) (W:World),Ext w W->W.cell? ⟨g,j,none⟩=some (.int .u8 (way.getD j 0)):=fun j hj W kk=>
   (Zf (a:=⟨g,j,none⟩) (kk.block hlt)).trans (hcell j _ (by rw [List.getElem?_map,List.getElem?_eq_getElem hj,List.getD_eq_getElem?_getD,List.getElem?_eq_getElem hj];rfl))
  have ck:=hcw k hkn wr er
  have cm:=hcw m hml wr er
  have hstp:=fun W kk=>step_any base v ps ds (way.getD k 0) (way.getD m 0) W (HDB.out W kk) hl
  rw [hs1] at hstp
  have hmst:=fun W kk=>most_any base v ps ds sj sb W (HDB.out W kk) hs2
  have hAS:=alK_set (n:=way.length) hsl hkn
  rw [hs3] at hAS
  have hAL:=Zia (k:=k) (n:=way.length) hsl hk
  have hF:(ss.take (k+1)).foldl (fun n s=>min n (Zd1 ds s)) 1099511627776=min ((ss.take k).foldl (fun n s=>min n (Zd1 ds s)) 1099511627776) (Zd1 ds (sj,sb)):=by
   rw [List.take_succ_eq_append_getElem hks,List.foldl_append,hs3];rfl
  obtain ⟨am,ham⟩:∃am,am=(ss.take k).foldl (fun n s=>min n (Zd1 ds s)) 1099511627776:=⟨_,rfl⟩
  rw [<-ham] at hF ⊢
  obtain ⟨p,hp⟩:∃p,ps[sj]? =some p:=(HDB.out w (Ext.refl _)).at sj hs2 |>.imp fun _ h=>h.1
  have hSV:Zb9 ps (some (sj,sb))= .agg #[.pointer (some ⟨p,0,none⟩),.bool sb]:=by unfold Zb9;rw [Vw hp]
  rw [hSV] at hstp hmst
  have HS3:=Lib.hid hs3
  have HALS:=Lib.hid (fun x y e=>alC_set ps (alK ss k way.length) k (by omega) (some (sj,sb)) x y e)
  have HSC:=Lib.hid (Vw hp sb)
  have HAS:=Lib.hid hAS
  have HF:=Lib.hid hF
  have hrem:((k:Int)+1).tmod (way.length:Int)=(m:Int):=by rw [hm];norm_cast
  generalize way.getD k 0=pk at *
  generalize way.getD m 0=pm at *
  generalize Zd1 ds (sj,sb)=mo at *
  have k0:(0:Int)<=(k:Int):=by omega
  have k1:(k:Int)<(way.length:Int):=by omega
  have m0:(0:Int)<=(m:Int):=by omega
  have m1:(m:Int)<(way.length:Int):=by omega
  have k2:decide ((k:Int)<(way.length:Int))=true:=by simpa using hkn
  clear hcell hcw hs3 hst hsa hF hAS hm ham hSV hp hs1
  go_wp2_with fail
  refine (hstp wr er).mono ?_
  rintro e w4 ⟨rfl,e4⟩
  have er4:=Xt er e4
  have hown4:=Zo hown e4
  obtain ⟨cur4,hrow4⟩:=Us hown4
  have hcl4:=Yc hown4
  have hth:w4.there ga (k*2) 2:=fun j hj=>by
   refine ⟨?_,frozen_of_row _ ga _ _ _ hrow4⟩
   have hlt:k*2+j<(alC ps (alK ss k way.length)).length:=by rw [Znm,hAL];omega
   rw [hcl4.2 _ _ (List.getElem?_eq_getElem hlt)]
   rfl
  have hown5:=Zad (Zad hown4 (k*2) (.pointer (some ⟨p,0,none⟩))) (k*2+1) (.bool sb)
  rw [HALS.out _ _ HSC.out,HAS.out] at hown5
  have hb5:Below w.heap.size w ((w4.setCell ⟨ga,k*2,none⟩ (.pointer (some ⟨p,0,none⟩))).setCell ⟨ga,k*2+1,none⟩ (.bool sb)):=Below.setCell (Below.setCell er4 (p:=⟨ga,k*2,none⟩) hgw _) (p:=⟨ga,k*2+1,none⟩) hgw _
  have HW5:=Lib.hid (show w4.setCells ga (k*2) #[.pointer (some ⟨p,0,none⟩),.bool sb].toList=(w4.setCell ⟨ga,k*2,none⟩ (.pointer (some ⟨p,0,none⟩))).setCell ⟨ga,k*2+1,none⟩ (.bool sb) from rfl)
  generalize (w4.setCell ⟨ga,k*2,none⟩ (.pointer (some ⟨p,0,none⟩))).setCell ⟨ga,k*2+1,none⟩ (.bool sb)=W5 at *
  have hAL1:=Zia (k:=k+1) (n:=way.length) hsl hkn
  have hat5:=alK_at (n:=way.length) (k:=k+1) (j:=k) hsl hkn (by omega)
  rw [HS3.out] at hat5
  have ld5:(loadVar 412 ⟨ga,k*2,none⟩).run Tryz.prog W5= .ok (.agg #[.pointer (some ⟨p,0,none⟩),.bool sb]) W5:=
   Zs W5 ga (k*2) 412 [.pointer (some ⟨p,0,none⟩),.bool sb] _ (fun j u hu=>by
    have hj:j<2:=(List.getElem?_eq_some_iff.1 hu).1
    refine (Yc hown5).2 _ _ ?_
    rw [Znn ps _ k j (by rw [hAL1];omega) hj,hat5,HSC.out]
    exact hu) Tryz.underlying412 rfl (by kernel_rfl)
  clear hown hown4 hrow4 hcl4 hstp er4 e4 hAL hAL1 hat5 ck cm
  go_wp2_with (first
   | (refine Zd7 rfl rfl 412 _ _ rfl ga (k*2) #[.pointer (some ⟨p,0,none⟩),.bool sb] rfl rfl hth (by kernel_rfl) (by simp [Value.oneCell']) ?_
      rw [HW5.out])
   | (refine Zd rfl 412 _ _ _ rfl rfl ld5 ?_))
  refine (hmst W5 hb5).mono ?_
  rintro e w6 ⟨rfl,e6⟩
  have er6:=Xt (show Ext w W5 from hb5) e6
  have hown6:=Zo hown5 e6
  clear hown5 hmst ld5 hth HALS HSC
  by_cases hmo:mo<am
  focus
   have hmo':decide (mo<am)=true:=by simpa using hmo
   have HMN:=Lib.hid (show min am mo=mo by omega)
  rotate_left
  focus
   have hmo':decide (mo<am)=false:=by simpa using hmo
   have HMN:=Lib.hid (show min am mo=am by omega)
  all_goals
   clear hmo
   go_wp2
   exact ⟨⟨k+1,by omega,by go_num,by rw [HF.out,HMN.out],er6,hown6⟩,by simp [intOf];omega⟩
 have hk':k=way.length:=by omega
 subst hk'
 rw [<-hsl,List.take_length,<-HAM.out,hsl]
 have hown0:=hown
 obtain ⟨am,ham⟩:∃am,am=Zfj ds ss:=⟨_,rfl⟩
 rw [<-ham] at HR ⊢
 have hk3:decide ((way.length:Int)<(way.length:Int))=false:=by simp
 have hgap:ga∉ps:=fun hm=>by have:=HPS.out ga hm;omega
 have HPK:=Lib.hid (fun (x:Nat) (hx:x∈ps)=>HPS.out x hx)
 clear ham hown h4 h3
 go_wp2_with fail
 go_loopw [9,44,45,46,47,48,49,50,51] (fun _ iv _ _ _ _ _ _ _ wq=>∃k:Nat,k<=way.length/\iv= .int .i64 k/\Keep ps wr wq/\IsDb wq base v ps ((ss.take k).foldl (goD am) ds)) (fun _ iv _ _ _ _ _ _ _ _=>way.length-(intOf iv).toNat)
 case atStart=>exact ⟨0,Nat.zero_le _,rfl,Keep.refl _ _,HDB.out _ er⟩
 obtain ⟨k,hk,rfl,kq,hdb⟩:=hrel
 by_cases hkn:k<way.length
 ·obtain ⟨⟨sj,sb⟩,hs1,hs2⟩:=hst k hkn
  have hks:k<ss.length:=by omega
  have hs3:=hsa k hkn
  rw [hs1,List.getElem?_eq_getElem hks] at hs3
  injection hs3 with hs3
  simp only [Option.getD_some] at hs3 hs2
  have hlen:∀l:List (Nat×Bool),(l.foldl (goD am) ds).length=ds.length:=fun l=>by
   have:∀(l:List (Nat×Bool)) (d:List Db),(l.foldl (goD am) d).length=d.length:=fun l=>by
    induction l with
    | nil=>intro d;rfl
    | cons s l ih=>intro d;rw [List.foldl_cons,ih,goD_len]
   exact this l ds
  have HF:=Lib.hid (show (ss.take (k+1)).foldl (goD am) ds=goD am ((ss.take k).foldl (goD am) ds) (sj,sb) by rw [List.take_succ_eq_append_getElem hks,List.foldl_append,hs3];rfl)
  have hjl:sj<((ss.take k).foldl (goD am) ds).length:=by rw [hlen];exact hs2
  obtain ⟨p,hp⟩:∃p,ps[sj]? =some p:=(HDB.out w (Ext.refl _)).at sj hs2 |>.imp fun _ h=>h.1
  have hSV:Zb9 ps (some (sj,sb))= .agg #[.pointer (some ⟨p,0,none⟩),.bool sb]:=by unfold Zb9;rw [Vw hp]
  have hgo:=fun W (kk:Ext wr W)=>dgoes_any base v ps _ sj sb am W (hdb.ext kk) hjl
  rw [hSV] at hgo
  have hownq:=Zf1 hown0 kq (fun q hq=>by
   injection hq with hq
   rw [<-hq]
   exact hgap)
  have hatq:=alK_at (n:=way.length) (k:=way.length) (j:=k) hsl (Nat.le_refl _) hkn
  rw [hs3] at hatq
  have hALq:=Zia (k:=way.length) (n:=way.length) hsl (Nat.le_refl _)
  have ldq:(loadVar 412 ⟨ga,k*2,none⟩).run Tryz.prog wr= .ok (.agg #[.pointer (some ⟨p,0,none⟩),.bool sb]) wr:=
   Zs wr ga (k*2) 412 [.pointer (some ⟨p,0,none⟩),.bool sb] _ (fun j u hu=>by
    have hj:j<2:=(List.getElem?_eq_some_iff.1 hu).1
    refine (Yc hownq).2 _ _ ?_
    rw [Znn ps _ k j (by rw [hALq];omega) hj,hatq,Vw hp]
    exact hu) Tryz.underlying412 rfl (by kernel_rfl)
  have hzr:=Zb wr (.cells #[.pointer none,.bool false] 412)
  have ezr:=Zc wr (.cells #[.pointer none,.bool false] 412)
  have k0:(0:Int)<=(k:Int):=by omega
  have k1:(k:Int)<(way.length:Int):=by omega
  have k2:decide ((k:Int)<(way.length:Int))=true:=by simpa using hkn
  clear hst hsa hs1 hs3 hlen hp hSV hownq hatq hALq hjl
  go_wp2_with (first
   | (refine Zd rfl 412 _ _ _ rfl rfl ldq ?_)
   | (refine Zd rfl 412 _ _ _ rfl rfl lds ?_)
   | (refine Ze rfl rfl 412 _ _ rfl wr.heap.size _ rfl rfl 412 _ hzr (by kernel_rfl) (by rfl) (by rfl) ?_
      intro w5 hb5 ho5 hs5
      have e5:Ext wr w5:=hb5 _ _ (Nat.le_refl _) ezr
      have lds:=run_loadVar_row (P:=Tryz.prog) w5 wr.heap.size _ 412 _ _ _ hs5 Tryz.underlying412 rfl (by kernel_rfl)))
  refine (hgo w5 e5).mono ?_
  rintro e w6 ⟨rfl,k6,hdb6⟩
  clear hgo ldq lds hs5
  go_wp2
  exact ⟨⟨k+1,by omega,by go_num,(kq.trans (Kx e5)).trans k6,by rw [HF.out];exact hdb6⟩,by simp [intOf];omega⟩
 have hk':k=way.length:=by omega
 subst hk'
 rw [<-hsl,List.take_length,<-HR.out] at hdb
 go_wp2
 exact bodyPost_end (results_none (by kernel_rfl) _ _ _) rfl ⟨rfl,(Kx er).trans kq,hdb⟩
theorem rclip_any (base n:Nat) (v:Value) (xs:List Value) (w:World) (h:Zn w base 3 v n xs):Calls Tryz.prog 220 #[v] w (fun e w'=>∃v',e= .returned v'/\w'=w/\Zn w' base 3 v' n xs):=by
 obtain ⟨A,cap,rfl,h1,h2,h3,h4⟩:=h
 rcases h4 with rfl | ⟨g,rfl,hb,hlt,hc⟩
 ·cases A
  rotate_left
  focus rename_i a
  all_goals
   go_enter Tryz.func220,Tryz.ntmps220
   go_wp2
   go_ret
   exact ⟨_,rfl,rfl,_,_,rfl,Nat.le_refl _,by unfold maxLen;omega,h3,.inl rfl⟩
 have hn63:(n:Int)<=9223372036854775807:=by unfold maxLen at h2;omega
 go_enter Tryz.func220,Tryz.ntmps220
 go_wp2
 go_ret
 exact ⟨_,rfl,rfl,_,_,rfl,Nat.le_refl _,Nat.le_trans h1 h2,h3,.inr ⟨g,rfl,hb,hlt,hc⟩⟩
theorem ptr_info:(Tryz.prog.info? 363).map (fun i=>(i.zero,i.size,i.bytes))=some (some (.pointer none),1,8):=by kernel_rfl
def Znf (x:Fw):Db:=(x.1,x.2.1,x.2.2,0)
def Zcb (ds:List Db):List Fw:=(ds.filter fun d=>decide (0<d.2.2.1)).map (fun d=>(d.1,d.2.1,d.2.2.1))
theorem Zq8 (ds:List Db) (k:Nat) (hk:k<ds.length):Zcb (ds.take (k+1))=Zcb (ds.take k)++(if 0<(ds[k]'hk).2.2.1 then [((ds[k]'hk).1,(ds[k]'hk).2.1,(ds[k]'hk).2.2.1)] else []):=by
 unfold Zcb
 rw [List.take_succ_eq_append_getElem hk,List.filter_append,List.map_append]
 congr 1
 by_cases h:0<(ds[k]'hk).2.2.1
 ·simp [h]
 simp [h]
theorem Zcz (l k:List Fw):Xq (l++k)=Xq l++Xq k:=by unfold Xq;rw [List.flatMap_append]
theorem Zrb {l:List Fw} {quota:Int} (h:Zei l=true) (hq:0<=quota):Y5 l quota=
 if (Vi quota (quota.toNat+1) (l.map Znf) 0).1≠0 then (13,[],0) else (0,Zcb (Vi quota (quota.toNat+1) (l.map Znf) 0).2.1,(Vi quota (quota.toNat+1) (l.map Znf) 0).2.2):=by
 unfold Y5
 rw [if_neg (by rw [h];simp;omega)]
 rfl
theorem ends_may {l:List Fw} (h:Zei l=true):Zsh (l.map Znf):=by
 intro d hd
 obtain ⟨x,hx,rfl⟩:=List.mem_map.1 hd
 have:=Zlr h x hx
 unfold Zkr at this
 rw [decide_eq_true_eq] at this
 unfold Znf
 simp only
 omega
theorem Zqi {es:List Ed} (hok:EOk es):(Vx es).length<=16:=by
 unfold Vx
 by_cases h:(Vp es 16 Zp Zp 0).2=0
 ·rw [if_pos h];simp
 rw [if_neg h]
 have hr:=Zsa hok h
 generalize Zy (Vp es 16 Zp Zp 0).1 16 (Vp es 16 Zp Zp 0).2=x at *
 generalize (Vp es 16 Zp Zp 0).1=a at *
 obtain ⟨h1,h2⟩:=Znj hr 17 [] (Zjz a x) rfl
 simp only [List.length_nil,Zy] at h1 h2
 obtain ⟨k1,k2,k3⟩:=Zpq hr h1 h2
 have hl:=Zj0 hr h1
 rw [rot_len _ _ (Nat.le_of_lt (Zm5 k3)),List.length_reverse]
 exact hl
theorem Zmf (w:World) (cs:List Value) (t:TypeId):∀(j:Nat) (u:Value),cs[j]? =some u->(w.alloc (.cells cs.toArray t)).cell? ((⟨w.heap.size,0,none⟩:Addr).add j)=some u:=by
 intro j u hu
 have hadd:(⟨w.heap.size,0,none⟩:Addr).add j=⟨w.heap.size,j,none⟩:=by unfold Addr.add;split<;>simp_all
 rw [hadd]
 exact Za (Zb w _) (by simpa using hu)
theorem Zqk (base:Nat) (v:Value) (l:List Fw) (quota:Int) (w:World) (h:Zn w base 3 v l.length (Xq l)) (hl:l.length<=300) (hq63:quota<=9223372036854775807):
 Calls Tryz.prog 188 #[v,.int .i64 quota] w (fun e w'=>∃v',e= .returned (.tuple #[v',.int .i64 (Y5 l quota).2.2,.int .i64 (Y5 l quota).1])/\Ext w w'/\Zn w' w.heap.size 3 v' (Y5 l quota).2.1.length (Xq (Y5 l quota).2.1)):=by
 have hmy:=rmay_any base v l w h
 obtain ⟨i0,hi,hz0,hz1,hz2⟩:=info_parts ptr_info
 obtain ⟨A,cap,rfl,h1,h2,h3,h4⟩:=h
 have hnil:∀W,Zn W w.heap.size 3 (.slice none 0 0) 0 (Xq []):=fun W=>Zn.of_own (World.ownsRow_nil W w.heap.size 285 3)
 by_cases hm:Zei l=true
 ·rw [hm] at hmy
  by_cases hq:quota<0
  ·have hq':decide (quota<0)=true:=by simpa using hq
   have HE:=Lib.hid (show Y5 l quota=(1,[],0) by unfold Y5;rw [if_pos (.inr hq)])
   clear hq
   go_enter Tryz.func188,Tryz.ntmps188
   go_wp2_with fail
   refine hmy.mono ?_
   rintro e w1 ⟨rfl,e1⟩
   go_wp2
   go_ret3
   rw [HE.out]
   exact ⟨_,rfl,e1,hnil _⟩
  have hq':decide (quota<0)=false:=by simpa using hq
  have hq0:0<=quota:=by omega
  have HE:=Lib.hid (Zrb hm hq0)
  have hends:=ends_may hm
  have hxs:(madeCells (Value.pointer none).cells (l.length*1)).toList=List.replicate l.length (.pointer none):=Y8 _ _
  have hb2:i0.bytes*l.length<=281474976710656:=by rw [hz2];omega
  have hb3:l.length<=maxLen:=by unfold maxLen;omega
  clear hq hm
  go_enter Tryz.func188,Tryz.ntmps188
  go_wp2_with fail
  refine hmy.mono ?_
  rintro e w1 ⟨rfl,e1⟩
  go_wp2_with (first
   | (at_make;refine Zaa rfl _ _ 362 rfl w.heap.size 363 i0 _ 1 Tryz.underlying362 hi hz0 hz1 _ _ l.length rfl rfl hb2 hb3 e1.size _ hxs ?_
      intro w2 e2 hlt2 hown2))
  obtain ⟨ga,hga⟩:∃ga,ga=w1.heap.size:=⟨_,rfl⟩
  rw [<-hga] at hown2 hlt2 ⊢
  have hgw:w.heap.size<=ga:=by have:=e1.size;omega
  have E2:=Xt e1 e2
  clear hga hxs hb2 hmy e1 e2
  go_loopw [8,9,25,26,27,28,29,30,31,32,33,34,35,36] (fun _ _ iv _ _ _ _ _ _ _ _ _ _ _ wr=>∃(k:Nat) (ps:List Nat),k<=l.length/\iv= .int .i64 k/\ps.length=k/\Ext w wr/\wr.ownsRow w.heap.size 363 1 (.slice (some ⟨ga,0,none⟩) l.length l.length) l.length (Zhr ps++List.replicate (l.length-k) (.pointer none))/\
   (∀(i p:Nat) (x:Fw),ps[i]? =some p->l[i]? =some x->wr.heap[p]? =some (Obj.cells (dbC (Znf x)).toArray 365 (0,0)))/\ps.Nodup/\(∀p∈ps,ga<p/\p<wr.heap.size)) (fun _ _ iv _ _ _ _ _ _ _ _ _ _ _ _=>l.length-(intOf iv).toNat)
  case atStart=>exact ⟨0,[],Nat.zero_le _,rfl,rfl,E2,hown2,by simp,by simp,by simp⟩
  obtain ⟨k,ps,hk,rfl,hpl,er,hown,hrows,hnd,hlow⟩:=hrel
  by_cases hkn:k<l.length
  ·rcases h4 with h4 | ⟨g,rfl,hb,hlt,hcell⟩
   ·omega
   have hld:=Ze3 wr g k l hkn (fun j u hu=>(Zf (er.block hlt)).trans (hcell j u hu))
   have hlk:=List.getElem?_eq_getElem hkn
   generalize l[k]'hkn=x at *
   obtain ⟨a,b,n⟩:=x
   simp only [Xu,D.Xu] at hld
   have hzr:=Zb wr (.cells #[.int .u8 0,.int .u8 0,.int .i64 0] 285)
   have ezr:=Zc wr (.cells #[.int .u8 0,.int .u8 0,.int .i64 0] 285)
   have k0:(0:Int)<=(k:Int):=by omega
   have k1:(k:Int)<(l.length:Int):=by omega
   have k2:decide ((k:Int)<(l.length:Int))=true:=by simpa using hkn
   go_wp2_with (first
    | (refine Zd rfl 285 _ _ _ rfl rfl hld ?_)
    | (refine Zd rfl 285 _ _ _ rfl rfl lds ?_)
    | (refine Ze rfl rfl 285 _ _ rfl wr.heap.size _ rfl rfl 285 _ hzr (by kernel_rfl) (by rfl) (by rfl) ?_
       intro w5 hb5 ho5 hs5
       have e5:Ext wr w5:=hb5 _ _ (Nat.le_refl _) ezr
       have lds:=run_loadVar_row (P:=Tryz.prog) w5 wr.heap.size _ 285 _ _ _ hs5 Tryz.underlying285 rfl (by kernel_rfl)
       have ownU:=(Zo hown e5).alloc (.cells #[.int .u8 a,.int .u8 b,.int .i64 n,.int .i64 0] 365)
       obtain ⟨curU,hrU⟩:=Us ownU
       have cU:=(Yc ownU).2 k (.pointer none) (by
        rw [List.getElem?_append_right (by unfold Zhr;rw [List.length_map];omega),List.getElem?_replicate,if_pos (by unfold Zhr;rw [List.length_map];omega)])
       have fU:=frozen_of_row _ ga k _ _ hrU))
   have e5U:=Xt e5 (Zc w5 (.cells #[.int .u8 a,.int .u8 b,.int .i64 n,.int .i64 0] 365))
   have hpU:=Zb w5 (.cells #[.int .u8 a,.int .u8 b,.int .i64 n,.int .i64 0] 365)
   have hsU:=size_alloc w5 (.cells #[.int .u8 a,.int .u8 b,.int .i64 n,.int .i64 0] 365)
   have hs0:=e5.size
   have hgl:ga<w5.heap.size:=by have:=(Yc hown).1;omega
   have kU:Keep [ga] (w5.alloc (.cells #[.int .u8 a,.int .u8 b,.int .i64 n,.int .i64 0] 365)) ((w5.alloc (.cells #[.int .u8 a,.int .u8 b,.int .i64 n,.int .i64 0] 365)).setCell ⟨ga,k,none⟩ (.pointer (some ⟨w5.heap.size,0,none⟩))):=(Keep.refl _ _).setCell (Or.inl (by simp)) _
   have ownV:=Zad ownU k (.pointer (some ⟨w5.heap.size,0,none⟩))
   have hxs:(Zhr ps++List.replicate (l.length-k) (Value.pointer none)).set k (.pointer (some ⟨w5.heap.size,0,none⟩))=Zhr (ps++[w5.heap.size])++List.replicate (l.length-(k+1)) (.pointer none):=by
    have hpp:(Zhr ps).length=k:=by unfold Zhr;rw [List.length_map];exact hpl
    rw [List.set_append_right _ _ (by omega),hpp,Nat.sub_self,show l.length-k=(l.length-(k+1))+1 by omega,List.replicate_succ,List.set_cons_zero]
    unfold Zhr
    simp
   rw [hxs] at ownV
   refine ⟨⟨k+1,ps++[w5.heap.size],by omega,by go_num,by simp [hpl],Below.setCell (Xt er e5U) (p:=⟨ga,k,none⟩) hgw _,ownV,fun i p x hp hx=> ?_,?_,fun p hp=> ?_⟩,by simp [intOf];omega⟩
   ·by_cases hik:i<ps.length
    ·rw [List.getElem?_append_left hik] at hp
     have hpm:=hlow p (List.mem_of_getElem? hp)
     exact kU.at (e5U.at (hrows i p x hp hx)) (by simp;omega)
    have hi':i=ps.length:=by
     have:=(List.getElem?_eq_some_iff.1 hp).1
     simp at this
     omega
    subst hi'
    rw [List.getElem?_append_right (Nat.le_refl _),Nat.sub_self] at hp
    simp only [List.getElem?_cons_zero,Option.some.injEq] at hp
    subst hp
    rw [hpl,hlk] at hx
    injection hx with hx
    rw [<-hx]
    exact kU.at hpU (by simp;omega)
   ·rw [List.nodup_append]
    refine ⟨hnd,by simp,fun p hp q hq=> ?_⟩
    have:=(hlow p hp).2
    simp at hq
    omega
   rw [World.size_setCell,hsU]
   rcases List.mem_append.1 hp with hp | hp
   ·have:=hlow p hp
    omega
   simp at hp
   omega
  have hk':k=l.length:=by omega
  subst hk'
  rw [Nat.sub_self,List.replicate_zero,List.append_nil] at hown
  have hdb0:IsDb wr w.heap.size (.slice (some ⟨ga,0,none⟩) l.length l.length) ps (l.map Znf):=by
   refine ⟨by rw [List.length_map];exact hpl,by rw [hpl];exact Zn.of_own hown,fun i p d hp hd=> ?_,hnd,fun p hp=>by have:=hlow p hp;omega,fun q hq hm=> ?_⟩
   ·rw [List.getElem?_map] at hd
    obtain ⟨x,hx,rfl⟩:=Option.map_eq_some_iff.1 hd
    exact hrows i p x hp hx
   have hq:ga=q:=by injection hq
   have:=hlow q hm
   omega
  have hln:(l.map Znf).length<=300:=by rw [List.length_map];exact hl
  have hgl0:=(Yc hown).1
  clear hrows hown h4 h3 hb3
  generalize hds0:l.map Znf=ds0 at *
  have HLL:=Lib.hid (show ds0.length=l.length by rw [<-hds0,List.length_map])
  have HPL:=Lib.hid hpl
  clear hds0 hpl
  go_wp2_with fail
  go_loopw [4,5,10,37,38,39,40,41,42,43,67,68,69,70,71,72,73,74,75] (fun lv mv _ _ _ _ _ _ _ _ _ _ _ _ _ _ _ _ _ wq=>∃(m:Nat) (ds:List Db),lv= .slice none 0 0/\mv= .int .i64 m/\(m:Int)<=quota/\Ext w wq/\ga<wq.heap.size/\(∀p∈ps,p<wq.heap.size)/\IsDb wq w.heap.size (.slice (some ⟨ga,0,none⟩) l.length l.length) ps ds/\Zsh ds/\ds.length=l.length/\Vi quota (quota.toNat+1) ds0 0=Vi quota (quota.toNat+1-m) ds m) (fun lv mv _ _ _ _ _ _ _ _ _ _ _ _ _ _ _ _ _ _=>quota.toNat-(intOf mv).toNat)
  case atStart=>exact ⟨0,ds0,rfl,rfl,by omega,er,hgl0,fun p hp=>(hlow p hp).2,hdb0,hends,HLL.out,rfl⟩
  obtain ⟨m,ds,rfl,rfl,hmq,er,hgl,hpsl,hdb,hen,hdl,hgo⟩:=hrel
  have hed:=edges_any _ _ ps ds wr hdb (by omega)
  have hEok:=ends_ok hen
  have hel:=Zjx ds
  have hrl:=Zqi hEok
  obtain ⟨hcyc,hring⟩:=roundR_ok hEok
  have hgs:Vi quota (quota.toNat+1-m) ds m=if Vx (Xa ds)=[] then (0,ds,(m:Int)) else if (m:Int)=quota then (13,ds,(m:Int)) else Vi quota (quota.toNat+1-(m+1)) (Zbx ds (Vx (Xa ds))) ((m:Int)+1):=by
   rw [show quota.toNat+1-m=(quota.toNat+1-(m+1))+1 by omega]
   rfl
  have HGO:=Lib.hid (hgo.trans hgs)
  clear hgo hgs
  go_wp2_with fail
  refine hed.mono ?_
  rintro e w2 ⟨v1,rfl,e2,hown2⟩
  have hrd:=round_any _ v1 (Xa ds) w2 (Zn.of_own hown2) hEok (by omega)
  go_wp2_with fail
  refine hrd.mono ?_
  rintro e w3 ⟨vw,rfl,e3,hslw⟩
  have hdb3:=hdb.ext (Xt e2 e3)
  have er3:=Xt er (Xt e2 e3)
  have hs2:=e2.size
  have hs3:=e3.size
  clear hed hrd hown2 hdb
  have hslw2:=hslw
  obtain ⟨A',cap',rfl,hw1,hw2,hw3,hw4⟩:=hslw
  by_cases hway:Vx (Xa ds)=[]
  ·have HG2:=Lib.hid (show Vi quota (quota.toNat+1) ds0 0=(0,ds,(m:Int)) by rw [HGO.out,if_pos hway])
   rw [hway] at hw1 hw3 hw4 hslw2 ⊢
   have cl:=fun n v' xs W h=>rclip_any w.heap.size n v' xs W h
   clear hw1 hw2 hw3 hw4 hslw2 hway HGO hcyc hring hrl
   have hat:=hdb3.at
   have hsl3:=hdb3.sl
   have HPL3:=Lib.hid hdb3.len
   have hgl3:ga<w3.heap.size:=by omega
   go_wp2_with fail
   go_loopw [4,12,46,47,48,49,50,51,52,53,54,55,56,57,58,59,60,61,62,63] (fun sv _ iv _ _ _ _ _ _ _ _ _ _ _ _ _ _ _ _ _ wq=>∃k:Nat,k<=l.length/\iv= .int .i64 k/\Ext w3 wq/\wq.ownsRow w3.heap.size 285 3 sv (Zcb (ds.take k)).length (Xq (Zcb (ds.take k)))) (fun sv _ iv _ _ _ _ _ _ _ _ _ _ _ _ _ _ _ _ _ _=>l.length-(intOf iv).toNat)
   case atStart=>exact ⟨0,Nat.zero_le _,rfl,Ext.refl _,World.ownsRow_nil _ _ _ _⟩
   obtain ⟨k,hk,rfl,e4,hown⟩:=hrel
   by_cases hkn:k<l.length
   ·have hkd:k<ds.length:=by omega
    obtain ⟨p,hp,hr0⟩:=hat k hkd
    have hrow:=e4.at hr0
    have hcp3:w3.cell? ⟨ga,k,none⟩=some (.pointer (some ⟨p,0,none⟩)):=by
     obtain ⟨A2,c2,hv,hget⟩:=hsl3.get
     obtain ⟨g',hg',_,_,u,hu,hcu⟩:=hget k (by rw [HPL3.out,hdl];exact hkn)
     injection hv with hv _ _
     rw [hg'] at hv
     injection hv with hv
     have hga:ga=g':=by injection hv
     unfold Zhr at hu
     rw [List.getElem?_map,hp] at hu
     simp only [Option.map_some,Option.some.injEq] at hu
     rw [hga,hcu,<-hu]
    have hcp:=(Zf (a:=⟨ga,k,none⟩) (e4.block hgl3)).trans hcp3
    have hls:=Zq8 ds k hkd
    have hlk:(Zcb (ds.take k)).length<=k:=by
     unfold Zcb
     rw [List.length_map]
     have:=List.length_filter_le (fun d:Db=>decide (0<d.2.2.1)) (ds.take k)
     simp at this
     omega
    generalize ds[k]'hkd=d at *
    obtain ⟨a,b,n,tk⟩:=d
    simp only [dbC] at hrow
    simp only at hls
    have HLS:=Lib.hid hls
    have q2:=Za (j:=2) hrow rfl
    have ldf:(loadVar 285 ⟨p,0,none⟩).run Tryz.prog wr= .ok (.agg #[.int .u8 a,.int .u8 b,.int .i64 n]) wr:=
     Zs wr p 0 285 [.int .u8 a,.int .u8 b,.int .i64 n] _ (fun j u hu=>by
      refine Za hrow ?_
      rw [Nat.zero_add]
      match j,hu with
      | 0,hu=>exact hu
      | 1,hu=>exact hu
      | 2,hu=>exact hu) Tryz.underlying285 rfl (by kernel_rfl)
    have hsw:=e4.size
    obtain ⟨i1,hi1,hy0,hy1,hy2⟩:=info_parts fw_info
    have hcn:=Zmf wr [.int .u8 a,.int .u8 b,.int .i64 n] 285
    have hone:∀u∈[Value.int .u8 a,.int .u8 b,.int .i64 n],u.oneCell'=true:=fun u hu=>by simp at hu;rcases hu with rfl | rfl | rfl<;>rfl
    have hbw:w3.heap.size<=(wr.alloc (.cells #[.int .u8 a,.int .u8 b,.int .i64 n] 285)).heap.size:=by rw [size_alloc];omega
    generalize Zcb (ds.take k)=lf at *
    have hm1:lf.length+1<=maxLen:=by unfold maxLen;omega
    have hm2:(lf.length+1)*16<=140737488355328:=by omega
    clear hls hp hr0 hcp3
    by_cases hn:0<n
    ·have hn':decide (0<n)=true:=by simpa using hn
     have HL2:=Lib.hid (show Zcb (ds.take (k+1))=lf++[(a,b,n)] by rw [HLS.out,if_pos hn])
     clear hn HLS
     go_wp2_with (first
      | (refine Zd rfl 285 _ _ _ rfl rfl ldf ?_)
      | (at_builtin;refine wpList_append_own _ rfl _ _ 279 rfl w3.heap.size 285 i1 (.agg #[.int .u8 0,.int .u8 0,.int .i64 0]) 3 16 Tryz.underlying279 hi1 hy0 hy1 hy2 rfl (by decide) _ _ _ rfl (hown.alloc _) ⟨wr.heap.size,0,none⟩ 1 1 [.int .u8 a,.int .u8 b,.int .i64 n] rfl rfl hcn hone hm1 hm2 hbw ?_
         intro v' w5 hown' hgrow' hnil'))
     refine ⟨⟨k+1,by omega,by go_num,?_,?_⟩,by simp [intOf];omega⟩
     ·exact (Below.alloc e4 hsw _).grown hgrow' hbw (fun q hq=>(hown.lt q hq).1)
     rw [HL2.out,Zcz,List.length_append]
     exact hown'
    have hn':decide (0<n)=false:=by simpa using hn
    have HL2:=Lib.hid (show Zcb (ds.take (k+1))=lf by rw [HLS.out,if_neg hn,List.append_nil])
    clear hn HLS
    go_wp2
    exact ⟨⟨k+1,by omega,by go_num,e4,by rw [HL2.out];exact hown⟩,by simp [intOf];omega⟩
   have hk':k=l.length:=by omega
   subst hk'
   rw [<-hdl,List.take_length] at hown
   have hk3:decide ((l.length:Int)<(l.length:Int))=false:=by simp
   have HEE:=Lib.hid (show Y5 l quota=(0,Zcb ds,(m:Int)) by rw [HE.out,HG2.out];simp)
   clear hat hsl3
   go_wp2_with fail
   refine (cl _ _ _ wr (Zn.of_own (Uj hown er3.size))).mono ?_
   rintro e w6 ⟨v',rfl,rfl,hsl6⟩
   go_wp2
   go_ret3
   rw [HEE.out]
   exact ⟨_,rfl,Xt er3 e4,hsl6⟩
  rw [if_neg hway] at HGO
  generalize Vx (Xa ds)=way at *
  have hwl0:0<way.length:=List.length_pos_iff.2 hway
  have hwn:((way.length:Int)==0)=false:=by rw [beq_eq_false_iff_ne];omega
  obtain ⟨gw,rfl,hgw2,_,_⟩:∃g,A'=some ⟨g,0,none⟩/\w2.heap.size<=g/\g<w3.heap.size/\True:=by
   rcases hw4 with hw4 | ⟨g,h5,h6,h7,_⟩
   ·omega
   exact ⟨g,h5,h6,h7,trivial⟩
  have hwp:∀q,(Value.slice (some ⟨gw,0,none⟩) way.length cap').ownBlock=some q->q∉ps:=fun q hq hm=>by
   have:=hpsl q hm
   have hq:gw=q:=by injection hq
   omega
  by_cases hmm:(m:Int)=quota
  ·have HG2:=Lib.hid (show Vi quota (quota.toNat+1) ds0 0=(13,ds,(m:Int)) by rw [HGO.out,if_pos hmm])
   have HEE:=Lib.hid (show Y5 l quota=(13,[],0) by rw [HE.out,HG2.out];simp)
   have hmm':((m:Int)==quota)=true:=by simpa using hmm
   clear hw1 hw2 hw3 hw4 hslw2 hway HGO hcyc hring hrl hmm HG2
   go_wp2
   go_ret3
   rw [HEE.out]
   exact ⟨_,rfl,er3,hnil _⟩
  have HG2:=Lib.hid (show Vi quota (quota.toNat+1) ds0 0=Vi quota (quota.toNat+1-(m+1)) (Zbx ds way) ((m:Int)+1) by rw [HGO.out,if_neg hmm])
  have hmm':((m:Int)==quota)=false:=by simpa using hmm
  have hdr:=Zrz w.heap.size w2.heap.size _ _ ps ds way w3 hdb3 (by omega) hslw2 (by omega) hwp hcyc
  have her:=Zrv hen way
  have hm1:(m:Int)+1<=quota:=by omega
  have hm63:(m:Int)+1<=9223372036854775807:=by omega
  clear hw1 hw2 hw3 hw4 hslw2 hway HGO hcyc hring hrl hmm hdb3
  go_wp2_with fail
  refine hdr.mono ?_
  rintro e w4 ⟨rfl,k4,hdb4⟩
  go_wp2
  refine ⟨⟨m+1,Zbx ds way,rfl,by go_num,by omega,(Keep.trans_fresh (S:=[]) (Kx er3) k4 (fun p hp=>.inr (by have:=hlow p hp;omega))).ext,by have:=k4.size;omega,fun p hp=>by have:=hpsl p hp;have:=k4.size;omega,hdb4,her.1,by rw [her.2];exact hdl,HG2.out⟩,by simp [intOf];omega⟩
 rw [Bool.not_eq_true] at hm
 rw [hm] at hmy
 have HE:=Lib.hid (show Y5 l quota=(1,[],0) by unfold Y5;rw [if_pos (.inl hm)])
 clear hm
 go_enter Tryz.func188,Tryz.ntmps188
 go_wp2_with fail
 refine hmy.mono ?_
 rintro e w1 ⟨rfl,e1⟩
 go_wp2
 go_ret3
 rw [HE.out]
 exact ⟨_,rfl,e1,hnil _⟩
end Go.Proofs.YtipjchbdogmccaaGreat
