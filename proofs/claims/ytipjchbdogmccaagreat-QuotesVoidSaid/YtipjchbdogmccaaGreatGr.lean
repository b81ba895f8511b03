/- The graph: what lies in memory; a capacity; a push. The graph, further: a push. The graph, further: a copy. The graph, further: of a ledger. -/
import Derived.Test.YtipjchbdogmccaaGreatBk6
set_option maxHeartbeats 1600000
set_option maxRecDepth 100000
namespace Go.Proofs.YtipjchbdogmccaaGreat
open Go.RowKit Go.Rg Go.BigFrame
def Uh (c:List Int):Array Value:=(c.map (Value.int .i64)++[Value.bool true]).toArray
structure IsG (w:World) (p:Nat) (c:List Int):Prop where
 row:w.heap[p]? =some (.cells (Uh c) 335 (0,0))
 len:c.length=289
theorem IsG.keep {S:List Nat} {w w':World} {p:Nat} {c:List Int} (h:IsG w p c) (k:Keep S w w') (hp:p∉S):IsG w' p c:=⟨k.at h.row hp,h.len⟩
theorem IsG.ext {w w':World} {p:Nat} {c:List Int} (h:IsG w p c) (k:Ext w w'):IsG w' p c:=⟨k.at h.row,h.len⟩
theorem IsG.ltp {w:World} {p:Nat} {c:List Int} (h:IsG w p c):p<w.heap.size:=Zg h.row
theorem IsG.cell {w:World} {p:Nat} {c:List Int} (h:IsG w p c) (j:Nat) (hj:j<289):w.cell? ⟨p,j,none⟩=some (.int .i64 (c.getD j 0)):=by
 refine Za h.row ?_
 have hl:=h.len
 unfold Uh
 rw [List.getElem?_toArray,List.getElem?_append_left (by simpa [hl] using hj),List.getElem?_map,List.getD_eq_getElem?_getD,List.getElem?_eq_getElem (by omega)]
 rfl
theorem IsG.made {w:World} {p:Nat} {c:List Int} (h:IsG w p c):w.cell? ⟨p,289,none⟩=some (.bool true):=by
 refine Za h.row ?_
 have hl:=h.len
 unfold Uh
 rw [List.getElem?_toArray,List.getElem?_append_right (by simp [hl])]
 simp [hl]
theorem IsG.free {w:World} {p:Nat} {c:List Int} (h:IsG w p c) (j:Nat):w.frozen? ⟨p,j,none⟩=false:=frozen_of_row w p j _ _ h.row
theorem IsG.set {w:World} {p:Nat} {c:List Int} (h:IsG w p c) (j:Nat) (hj:j<289) (x:Int):IsG (w.setCell ⟨p,j,none⟩ (.int .i64 x)) p (c.set j x):=by
 have hl:=h.len
 refine ⟨?_,by simpa using hl⟩
 have:=heap_setCell_same w p j _ _ (.int .i64 x) h.row
 rw [this]
 unfold Uh
 rw [List.setIfInBounds_toArray,List.set_append_left _ _ (by simpa [hl] using hj),List.map_set]
theorem Zel (p:Nat) (c:List Int) (w:World) (h:IsG w p c):Calls Tryz.prog 255 #[.pointer (some ⟨p,0,none⟩)] w (fun e w'=>e= .returned (.bool true)/\w'=w):=by
 have cm:=h.made
 go_enter Tryz.func255,Tryz.ntmps255
 go_wp2
 go_ret
 exact ⟨rfl,rfl⟩
theorem Zo2 (p:Int) (w:World):Calls Tryz.prog 287 #[.int .u8 p] w (fun e w'=>e= .returned (.bool (Zm p))/\w'=w):=by
 by_cases h1:1<=p
 focus
  have hv:Zm p=decide (p<=16):=by unfold Zm;rw [Bool.eq_iff_iff];simp [h1]
  rw [hv]
 rotate_left
 focus
  have hv:Zm p=false:=by unfold Zm;simp [h1]
  rw [hv]
  have h1':decide (1<=p)=false:=by simpa using h1
 all_goals
  go_enter Tryz.func287,Tryz.ntmps287
  go_wp2
  go_ret
  exact ⟨rfl,rfl⟩
def gAt (a b:Int):Nat:=a.toNat*17+b.toNat
def Yi (c:List Int) (a b:Int):Int:=if Zm a=true/\Zm b=true then c.getD (gAt a b) 0 else 0
theorem Zh9 (p:Nat) (c:List Int) (a b:Int) (w:World) (h:IsG w p c):Calls Tryz.prog 258 #[.pointer (some ⟨p,0,none⟩),.int .u8 a,.int .u8 b] w (fun e w'=>e= .returned (.int .i64 (Yi c a b))/\w'=w):=by
 have ct:=fun w h=>Zel p c w h
 have ma:=Zo2 a
 have mb:=Zo2 b
 by_cases ha:Zm a=false
 ·have hr:Yi c a b=0:=by unfold Yi;rw [if_neg (by simp [ha])]
  rw [hr]
  rw [ha] at ma
  clear hr ha
  go_enter Tryz.func258,Tryz.ntmps258
  go_wp2_with fail
  refine (ct _ h).mono ?_
  rintro e w' ⟨rfl,rfl⟩
  go_wp2_with fail
  refine (ma _).mono ?_
  rintro e w' ⟨rfl,rfl⟩
  go_wp2
  go_ret
  exact ⟨rfl,rfl⟩
 rw [Bool.not_eq_false] at ha
 have ha2:=ha
 unfold Zm at ha2
 rw [decide_eq_true_eq] at ha2
 rw [ha] at ma
 by_cases hb:Zm b=false
 focus
  have hr:Yi c a b=0:=by unfold Yi;rw [if_neg (by simp [hb])]
  rw [hr]
  rw [hb] at mb
  clear hr ha hb ha2
 rotate_left
 focus
  rw [Bool.not_eq_false] at hb
  have hb2:=hb
  unfold Zm at hb2
  rw [decide_eq_true_eq] at hb2
  rw [hb] at mb
  have hr:Yi c a b=c.getD (gAt a b) 0:=by unfold Yi;rw [if_pos ⟨ha,hb⟩]
  rw [hr]
  unfold gAt
  obtain ⟨ja,rfl⟩:=Int.eq_ofNat_of_zero_le (show 0<=a by omega)
  obtain ⟨jb,rfl⟩:=Int.eq_ofNat_of_zero_le (show 0<=b by omega)
  simp only [Int.toNat_natCast]
  have hc:=h.cell (ja*17+jb) (by omega)
  clear hr ha hb
  generalize c.getD (ja*17+jb) 0=v at hc ⊢
 all_goals
  go_enter Tryz.func258,Tryz.ntmps258
  go_wp2_with fail
  refine (ct _ h).mono ?_
  rintro e w' ⟨rfl,rfl⟩
  go_wp2_with fail
  refine (ma _).mono ?_
  rintro e w' ⟨rfl,rfl⟩
  go_wp2_with fail
  refine (mb _).mono ?_
  rintro e w' ⟨rfl,rfl⟩
  go_wp2
  go_ret
  exact ⟨rfl,rfl⟩
def Vz (c:List Int) (a b n:Int):List Int:=(c.set (gAt a b) (c.getD (gAt a b) 0-n)).set (gAt b a) ((c.set (gAt a b) (c.getD (gAt a b) 0-n)).getD (gAt b a) 0+n)
def Vn (c:List Int) (a b n:Int):Int×List Int:=if n<1 then (1,c) else if Yi c a b<n then (11,c) else (0,Vz c a b n)
structure WFG (c:List Int):Prop where
 len:c.length=289
 pos:∀k,0<=c.getD k 0
 two:∀a b:Nat,a<=16->b<=16->c.getD (a*17+b) 0+c.getD (b*17+a) 0<=4398046511104
theorem gpush_any (p:Nat) (c:List Int) (a b n:Int) (w:World) (h:IsG w p c) (hw:WFG c):Calls Tryz.prog 219 #[.pointer (some ⟨p,0,none⟩),.int .u8 a,.int .u8 b,.int .i64 n] w
 (Znq (.int .i64 (Vn c a b n).1) [p] (fun w'=>IsG w' p (Vn c a b n).2) w):=by
 have ct:=fun w h=>Zel p c w h
 have cc:=fun w h=>Zh9 p c a b w h
 by_cases hn:n<1
 ·have hr:Vn c a b n=(1,c):=by unfold Vn;rw [if_pos hn]
  rw [hr]
  clear hr cc
  go_enter Tryz.func219,Tryz.ntmps219
  go_wp2_with fail
  refine (ct _ h).mono ?_
  rintro e w' ⟨rfl,rfl⟩
  go_wp2
  go_ret
  exact ⟨rfl,Keep.refl _ _,h⟩
 by_cases hg:Yi c a b<n
 ·have hr:Vn c a b n=(11,c):=by unfold Vn;rw [if_neg hn,if_pos hg]
  rw [hr]
  clear hr
  generalize Yi c a b=cap at *
  go_enter Tryz.func219,Tryz.ntmps219
  go_wp2_with fail
  refine (ct _ h).mono ?_
  rintro e w' ⟨rfl,rfl⟩
  go_wp2_with fail
  refine (cc _ h).mono ?_
  rintro e w' ⟨rfl,rfl⟩
  go_wp2
  go_ret
  exact ⟨rfl,Keep.refl _ _,h⟩
 have hr:Vn c a b n=(0,Vz c a b n):=by unfold Vn;rw [if_neg hn,if_neg hg]
 rw [hr]
 have hp:Zm a=true/\Zm b=true:=by
  by_cases hp:Zm a=true/\Zm b=true
  ·exact hp
  unfold Yi at hg;rw [if_neg hp] at hg;omega
 have hcap:Yi c a b=c.getD (gAt a b) 0:=by unfold Yi;rw [if_pos hp]
 obtain ⟨ha2,hb2⟩:=hp
 unfold Zm at ha2 hb2
 rw [decide_eq_true_eq] at ha2 hb2
 obtain ⟨ja,rfl⟩:=Int.eq_ofNat_of_zero_le (show 0<=a by omega)
 obtain ⟨jb,rfl⟩:=Int.eq_ofNat_of_zero_le (show 0<=b by omega)
 unfold Vz
 have hgab:gAt (↑ja) (↑jb)=ja*17+jb:=by unfold gAt;simp
 have hgba:gAt (↑jb) (↑ja)=jb*17+ja:=by unfold gAt;simp
 rw [hcap] at hg cc
 rw [hgab] at hg cc
 rw [hgab,hgba]
 have hb1:=hw.pos (ja*17+jb)
 have hb3:=hw.two ja jb (by omega) (by omega)
 have hb4:=hw.pos (jb*17+ja)
 have hc0:=h.cell (ja*17+jb) (by omega)
 have hb5:0<=(c.set (ja*17+jb) (c.getD (ja*17+jb) 0-n)).getD (jb*17+ja) 0/\(c.set (ja*17+jb) (c.getD (ja*17+jb) 0-n)).getD (jb*17+ja) 0<=4398046511104:=by
  by_cases he:ja*17+jb=jb*17+ja
  ·rw [<-he,List.getD_eq_getElem?_getD,List.getElem?_set_self (by have:=hw.len;omega)]
   simp only [Option.getD_some]
   omega
  rw [List.getD_eq_getElem?_getD,List.getElem?_set_ne he,<-List.getD_eq_getElem?_getD]
  omega
 generalize hc':c.set (ja*17+jb) (c.getD (ja*17+jb) 0-n)=c1 at *
 generalize hv0:c.getD (ja*17+jb) 0=v0 at *
 generalize hv1:c1.getD (jb*17+ja) 0=v1 at *
 have l0:=h.ltp
 have hgt:decide (v0<n)=false:=by simp;omega
 have hn1:decide (n<1)=false:=by simp;omega
 have hb6:v0<=4398046511104:=by omega
 have hb7:1<=n:=by omega
 have hb8:n<=v0:=by omega
 obtain ⟨hb9,hb10⟩:=hb5
 have HC:=Lib.hid hc'
 have HV:=Lib.hid hv1
 clear hr hcap hv0 hv1 hc' hb3 hb4 hgab hgba
 go_enter Tryz.func219,Tryz.ntmps219
 go_wp2_with fail
 refine (ct _ h).mono ?_
 rintro e w' ⟨rfl,rfl⟩
 go_wp2_with fail
 refine (cc _ h).mono ?_
 rintro e w' ⟨rfl,rfl⟩
 go_wp2
 refine Zh Zl 14 [] (by kernel_rfl) (by kernel_rfl) ?_
 intro w1 hw1
 have d0:∀q:ExtOf w1,q.to.cell? ⟨p,ja*17+jb,none⟩=some (.int .i64 v0):=fun q=>(Zf ((Xt hw1 q.h).block l0)).trans hc0
 simp only [Zk,Rg.hsB,Nat.reduceAdd,↓reduceIte]
 repeat (go_big_quiet_step (fail))
 refine wpQuiet_nil ?_
 refine Zj (by kernel_rfl) ?_
 intro w2 e2 e2'
 simp only [Rg.puB]
 have g2:=h.ext e2
 have f2:=g2.free (ja*17+jb)
 have c2:=g2.cell (ja*17+jb) (by omega)
 have g3:=g2.set (ja*17+jb) (by omega) (v0-n)
 rw [HC.out] at g3
 have k3:Keep [p] w' (w2.setCell ⟨p,ja*17+jb,none⟩ (.int .i64 (v0-n))):=(Kx e2).setCell (Or.inl (by simp)) _
 clear d0 hc0
 go_wp2
 generalize w2.setCell ⟨p,ja*17+jb,none⟩ (.int .i64 (v0-n))=w3 at g3 k3 ⊢
 have hc3:=g3.cell (jb*17+ja) (by omega)
 rw [HV.out] at hc3
 have l3:=g3.ltp
 clear hw1 c2 f2
 refine Zh Zl 14 [] (by kernel_rfl) (by kernel_rfl) ?_
 intro w1 hw1
 have d0:∀q:ExtOf w1,q.to.cell? ⟨p,jb*17+ja,none⟩=some (.int .i64 v1):=fun q=>(Zf ((Xt hw1 q.h).block l3)).trans hc3
 simp only [Zk,Rg.hsB,Nat.reduceAdd,↓reduceIte]
 repeat (go_big_quiet_step (fail))
 refine wpQuiet_nil ?_
 refine Zj (by kernel_rfl) ?_
 intro w4 e4 e4'
 simp only [Rg.puB]
 have g4:=g3.ext e4
 have f4:=g4.free (jb*17+ja)
 have c4:=g4.cell (jb*17+ja) (by omega)
 have g5:=g4.set (jb*17+ja) (by omega) (v1+n)
 have k5:Keep [p] w' (w4.setCell ⟨p,jb*17+ja,none⟩ (.int .i64 (v1+n))):=(k3.trans (Kx e4)).setCell (Or.inl (by simp)) _
 clear d0
 go_wp2
 go_ret
 exact ⟨rfl,k5,g5⟩
def Zo4:Array Value:=(List.replicate 289 (Value.int .i64 0)++[Value.bool false]).toArray
theorem Zo5 (c:List Int) (h:c.length=289):(Uh c).size=290:=by unfold Uh;simp [h]
theorem Zrj (c:List Int):(Uh c).toList.all (·.oneCell')=true:=by
 unfold Uh
 simp [Value.oneCell']
def RetG (c:List Int) (w:World) (e:Ending) (w':World):Prop:=∃p,e= .returned (.pointer (some ⟨p,0,none⟩))/\Ext w w'/\IsG w' p c/\w.heap.size<=p
theorem gcopy_any (p:Nat) (c:List Int) (w:World) (h:IsG w p c):Calls Tryz.prog 216 #[.pointer (some ⟨p,0,none⟩)] w (RetG c w):=by
 have ct:=fun w h=>Zel p c w h
 have hsz:=Zo5 c h.len
 have h1:=Zrj c
 have ld:(loadVar 335 ⟨p,0,none⟩).run Tryz.prog w= .ok (.agg (Uh c)) w:=run_loadVar_row w p _ _ _ _ _ h.row Tryz.underlying335 rfl (by rw [hsz];kernel_rfl)
 have h0:=Zb w (.cells Zo4 335)
 have e0:=Zc w (.cells Zo4 335)
 have hz:Zo4.size=290:=by unfold Zo4;simp
 generalize hgc:Uh c=gc at hsz h1 ld
 generalize hgz:Zo4=gz at h0 e0 hz
 have HG:=Lib.hid hgc
 have HZ:=Lib.hid hgz
 clear hgc hgz
 go_enter Tryz.func216,Tryz.ntmps216
 go_wp2_with fail
 refine (ct _ h).mono ?_
 rintro e w' ⟨rfl,rfl⟩
 go_wp2_with (first
  | (refine Zd rfl 335 _ _ _ rfl rfl ld ?_)
  | (refine Zd6 (o:=⟨some 3,_,_,_,_,_⟩) rfl (.pointer (some ⟨w'.heap.size,0,none⟩)) (w'.alloc (.cells gz 335)) (by rw [<-HZ.out];kernel_rfl) ?_)
  | (refine Ze rfl rfl 335 _ _ rfl w'.heap.size _ rfl rfl 335 _ h0 (by rw [hsz];kernel_rfl) (by rw [hz,hsz]) h1 ?_;intro w3 hb3 _ hs3))
 go_ret
 exact ⟨_,rfl,hb3 _ _ (Nat.le_refl _) e0,⟨by rw [HG.out];exact hs3,h.len⟩,Nat.le_refl _⟩
def Jt (L:Led) (cur a:Int) (bs:List Int) (g:List Int):List Int:=bs.foldl (fun g b=>g.set (gAt a b) (Xo L a b cur)) g
def ofK (L:Led) (cur:Int) (ps:List Int):List Int:=ps.foldl (fun g a=>Jt L cur a (Zx L) g) (List.replicate 289 0)
def ofR (L:Led) (cur:Int):List Int:=ofK L cur (Zx L)
theorem Zg1 (L:Led) (k:Nat) (hk:k<(Zx L).length):∃j:Nat,j<17/\(Zx L)[k]'hk=(j:Int):=by
 have hm:=List.getElem_mem hk
 unfold Zx Zhs at hm
 obtain ⟨j,hj,he⟩:=List.mem_map.1 hm
 exact ⟨j,by simpa using (List.mem_filter.1 hj).1,he.symm⟩
theorem Zn.get {w:World} {base n:Nat} {v:Value} {xs:List Value} (h:Zn w base 1 v n xs):∃A cap,v= .slice A n cap/\∀k,k<n->∃g,A=some ⟨g,0,none⟩/\base<=g/\g<w.heap.size/\∃u,xs[k]? =some u/\w.cell? ⟨g,k,none⟩=some u:=by
 obtain ⟨A,cap,hv,h1,h2,h3,h4⟩:=h
 refine ⟨A,cap,hv,fun k hk=> ?_⟩
 rcases h4 with h4 | ⟨g,hA,hb,hlt,hc⟩
 ·omega
 have hl:k<xs.length:=by omega
 exact ⟨g,hA,hb,hlt,xs[k],List.getElem?_eq_getElem hl,hc k _ (List.getElem?_eq_getElem hl)⟩
theorem of_any (p m:Nat) (L:Led) (cur:Int) (w:World) (h:IsLed w p m L) (hwf:WF L):Calls Tryz.prog 169 #[.pointer (some ⟨p,0,none⟩),.int .u8 cur] w (RetG (ofR L cur) w):=by
 have cr:=fun a b w (h:IsLed w p m L)=>Zn4 p m L a b cur w h hwf
 have cp:=fun w (h:IsLed w p m L)=>Zg0 p m L w h
 have h0:=Zb w (.cells (Uh (List.replicate 289 0)) 335)
 have e0:=Zc w (.cells (Uh (List.replicate 289 0)) 335)
 have sz:=size_alloc w (.cells (Uh (List.replicate 289 0)) 335)
 generalize hgc:Uh (List.replicate 289 0)=gc at h0 e0 sz
 have HG:=Lib.hid hgc
 generalize hW:w.alloc (.cells gc 335)=W at h0 e0 sz
 have HW:=Lib.hid hW
 clear hgc hW
 go_enter Tryz.func169,Tryz.ntmps169
 go_wp2_with (first
  | (refine Zd6 (o:=⟨some 11,_,_,_,_,_⟩) rfl (.agg gc) w (by rw [<-HG.out];kernel_rfl) ?_)
  | (refine Zd6 (o:=⟨some 12,_,_,_,_,_⟩) rfl (.pointer (some ⟨w.heap.size,0,none⟩)) W (by rw [<-HW.out,<-HG.out];kernel_rfl) ?_))
 refine (cp _ (h.ext e0)).mono ?_
 rintro e w2 ⟨v,rfl,e2,hsl⟩
 obtain ⟨A,cap,rfl,hget⟩:=hsl.get
 have hlen:((Zx L).length:Int)<=9223372036854775807:=by have:=Zod L 17;unfold Zx;omega
 have hG2:IsG w2 w.heap.size (List.replicate 289 0):=⟨by rw [HG.out];exact e2.at h0,by simp⟩
 have hL2:IsLed w2 p m L:=(h.ext e0).ext e2
 have lw:w.heap.size<W.heap.size:=by omega
 have lw2:W.heap.size<=w2.heap.size:=e2.size
 have hrd:∀wr,Keep [w.heap.size] w2 wr->∀k,(hk:k<(Zx L).length)->∃g,A=some ⟨g,0,none⟩/\∃j:Nat,j<17/\(Zx L)[k]'hk=(j:Int)/\wr.cell? ⟨g,k,none⟩=some (.int .u8 j):=by
  intro wr hk k hkn
  obtain ⟨g,hA,hb,hlt,u,hu,hc⟩:=hget k hkn
  obtain ⟨j,hj,hp⟩:=Zg1 L k hkn
  rw [List.getElem?_map,List.getElem?_eq_getElem hkn,hp] at hu
  simp only [Option.map_some,Option.some.injEq] at hu
  subst hu
  refine ⟨g,hA,j,hj,hp,?_⟩
  rw [Zf (hk.block g hlt (by simp;omega))]
  exact hc
 clear hget h0
 go_wp2
 go_loopw [17] (fun i wr=>∃k:Nat,k<=(Zx L).length/\i= .int .i64 k/\Keep [w.heap.size] w2 wr/\IsG wr w.heap.size (ofK L cur ((Zx L).take k))) (fun i _=>(Zx L).length-(intOf i).toNat)
 case atStart=>exact ⟨0,Nat.zero_le _,rfl,Keep.refl _ _,hG2⟩
 obtain ⟨k,hk,rfl,k2,hGk⟩:=hrel
 by_cases hkn:k<(Zx L).length
 ·obtain ⟨g,rfl,ja,hja,hpa,hca⟩:=hrd wr k2 k hkn
  go_wp2
  go_loopw [23] (fun i wq=>∃t:Nat,t<=(Zx L).length/\i= .int .i64 t/\Keep [w.heap.size] w2 wq/\IsG wq w.heap.size (Jt L cur ja ((Zx L).take t) (ofK L cur ((Zx L).take k)))) (fun i _=>(Zx L).length-(intOf i).toNat)
  case atStart=>exact ⟨0,Nat.zero_le _,rfl,k2,hGk⟩
  obtain ⟨t,ht,rfl,k3,hGt⟩:=hrel
  by_cases htn:t<(Zx L).length
  ·obtain ⟨g',hg',jb,hjb,hpb,hcb⟩:=hrd wr k3 t htn
   simp only [Option.some.injEq,Addr.mk.injEq,and_true] at hg'
   subst hg'
   have hLq:IsLed wr p m L:=hL2.keep k3 (by have:=h.ltp;simp;omega) (by have:=h.ltm;simp;omega)
   have hrow:Jt L cur ja ((Zx L).take (t+1)) (ofK L cur ((Zx L).take k))=(Jt L cur ja ((Zx L).take t) (ofK L cur ((Zx L).take k))).set (ja*17+jb) (Xo L ja jb cur):=by
    rw [List.take_succ_eq_append_getElem htn,hpb]
    unfold Jt
    rw [List.foldl_append]
    have hgg:gAt ja jb=ja*17+jb:=by unfold gAt;simp
    simp only [List.foldl_cons,List.foldl_nil,hgg]
   have HR:=Lib.hid hrow
   clear hrow
   generalize Jt L cur ja ((Zx L).take t) (ofK L cur ((Zx L).take k))=cg at hGt HR
   go_wp2
   have crq:=fun w h=>cr ja jb w h
   generalize hrm:Xo L ja jb cur=rm at HR crq
   clear hrm
   have lp:=hGt.ltp
   clear hpa hpb hca hcb hrd
   refine Zh Zl 12 [] (by kernel_rfl) (by kernel_rfl) ?_
   intro w1 hw1
   have hLqq:∀q:ExtOf w1,IsLed q.to p m L:=fun q=>hLq.ext (Xt hw1 q.h)
   simp only [Zk,Rg.hsB,Nat.reduceAdd,↓reduceIte]
   repeat (go_big_quiet_step ((go_at_call 221;exact Ret.cls (crq _ (hLqq _)))))
   refine wpQuiet_nil ?_
   refine Zj (by kernel_rfl) ?_
   intro w4 e4 e4'
   simp only [Rg.puB]
   have g4:=hGt.ext e4
   have f4:=g4.free (ja*17+jb)
   have c4:=g4.cell (ja*17+jb) (by omega)
   have g5:=g4.set (ja*17+jb) (by omega) rm
   have k5:Keep [w.heap.size] w2 (w4.setCell ⟨w.heap.size,ja*17+jb,none⟩ (.int .i64 rm)):=(k3.trans (Kx e4)).setCell (Or.inl (by simp)) _
   go_wp2
   exact ⟨⟨t+1,by omega,by go_num,k5,by rw [HR.out];exact g5⟩,by simp [intOf];omega⟩
  have ht':t=(Zx L).length:=by omega
  subst ht'
  rw [List.take_length] at hGt
  go_wp2
  refine ⟨⟨k+1,by omega,by go_num,k3,?_⟩,by simp [intOf];omega⟩
  rw [List.take_succ_eq_append_getElem hkn,hpa]
  unfold ofK at hGt ⊢
  rw [List.foldl_append]
  exact hGt
 have hk':k=(Zx L).length:=by omega
 subst hk'
 rw [List.take_length] at hGk
 go_wp2
 go_ret
 exact ⟨_,rfl,(Keep.trans_fresh (S:=[]) (Kx (Xt e0 e2)) k2 (by simp)).ext,hGk,Nat.le_refl _⟩
end Go.Proofs.YtipjchbdogmccaaGreat
