/- Journals: a command done; walked. Journals: a command done; walked. -/
import Derived.Test.YtipjchbdogmccaaGreatJw9
namespace Go.Proofs.YtipjchbdogmccaaGreat
open Go.RowKit Go.Rg Go.BigFrame
theorem Vv.keepS {S:List Nat} {w w':World} {size n:Nat} {v:Value} {xs:List Value} (h:Vv w size v n xs) (k:Keep S w w') (hS:n≠0->∀b,v.ownBlock=some b->b∉S):Vv w' size v n xs:=by
 obtain ⟨A,cap,rfl,h1,h2,h3,h4⟩:=h
 refine ⟨A,cap,rfl,h1,h2,h3,?_⟩
 by_cases hn:n=0
 ·exact .inl hn
 rcases h4 with h4 | ⟨g,off,rfl,hlt,hc⟩
 ·exact .inl h4
 have hk:=k.block g hlt (hS hn g rfl)
 exact .inr ⟨g,off,rfl,Nat.lt_of_lt_of_le hlt k.size,fun j u hu=>(Zd (a:=⟨g,off+j,none⟩) hk).trans (hc j u hu)⟩
def Zn8 (w:World) (S:List Nat):Prop:=∀x∈S,∃cs t fr,w.heap[x]? =some (.cells cs t fr)/\t≠203/\t≠205/\t≠153
theorem IsM.keepOff {w w':World} {S:List Nat} {q p m pb:Nat} {g:Option Nat} {L:Led} {B:Bk} (h:IsM w q p m pb g L B) (k:Keep S w w') (hS:Zn8 w S) (hq:q∉S):IsM w' q p m pb g L B:=by
 refine h.keep k hq (fun hx=> ?_) (fun hx=> ?_) (fun hx=> ?_) (fun y hy hx=> ?_)
 ·obtain ⟨cs,t,fr,hr,h1,h2,h3⟩:=hS p hx
  exact (Ze1 h.led hr h1).1 (by simp)
 ·obtain ⟨cs,t,fr,hr,h1,h2,h3⟩:=hS m hx
  exact (Ze1 h.led hr h1).2 (by simp)
 ·obtain ⟨cs,t,fr,hr,h1,h2,h3⟩:=hS pb hx
  exact (Zcg h.book hr h2 h3).1 (by simp)
 obtain ⟨cs,t,fr,hr,h1,h2,h3⟩:=hS y hx
 exact (Zcg h.book hr h2 h3).2 y hy (by simp)
theorem Xn.ne_q {w:World} {jb q p m pb:Nat} {g:Option Nat} {L:Led} {B:Bk} {mv ev:Value} {f f2:Int->Int->Int} {many:Int} (h:Xn w jb mv f f2 many ev) (hM:IsM w q p m pb g L B):jb≠q:=by
 rintro rfl
 have h1:=hM.row
 rw [show w.heap[jb]? =_ from h] at h1
 simp only [Option.some.injEq,Obj.cells.injEq] at h1
 exact absurd h1.2.1 (by decide)
theorem Xn.ne_ev {w:World} {jb base n:Nat} {mv ev v:Value} {f f2:Int->Int->Int} {many:Int} {xs:List Value} (h:Xn w jb mv f f2 many ev) (ho:w.ownsRow base 84 7 v n xs):v.ownBlock≠some jb:=Yc ho h (by decide)
theorem IsM.ne_ev {w:World} {q p m pb base n:Nat} {g:Option Nat} {L:Led} {B:Bk} {v:Value} {xs:List Value} (h:IsM w q p m pb g L B) (ho:w.ownsRow base 84 7 v n xs):v.ownBlock≠some q:=Yc ho h.row (by decide)
theorem Zjr {w:World} {jb:Nat} {mv ev:Value} {f f2:Int->Int->Int} {many:Int} (h:Xn w jb mv f f2 many ev):Zn8 w [jb]:=by
 intro x hx
 obtain rfl:x=jb:=by simpa using hx
 exact ⟨_,_,_,h,by decide,by decide,by decide⟩
theorem offM_q {w:World} {q p m pb:Nat} {g:Option Nat} {L:Led} {B:Bk} (h:IsM w q p m pb g L B):Zn8 w [q]:=by
 intro x hx
 obtain rfl:x=q:=by simpa using hx
 exact ⟨_,_,_,h.row,by decide,by decide,by decide⟩
theorem Zrt {w:World} {base n:Nat} {v:Value} {xs:List Value} (ho:w.ownsRow base 84 7 v n xs):Zn8 w v.ownBlock.toList:=by
 intro x hx
 rcases ho.2 with ⟨rfl,_⟩ | ⟨b,cap,cur,rfl,hb,hg,_⟩
 ·simp [Value.ownBlock] at hx
 obtain rfl:b=x:=by simpa [Value.ownBlock,eq_comm] using hx
 exact ⟨_,_,_,hg,by decide,by decide,by decide⟩
theorem Zn8.app {w:World} {S S':List Nat} (h:Zn8 w S) (h':Zn8 w S'):Zn8 w (S++S'):=fun x hx=>by
 rcases List.mem_append.1 hx with hx | hx
 ·exact h x hx
 exact h' x hx
def RetJ (base jb q:Nat) (ev:Value) (J:Jn) (l:List Stp) (w:World) (e:Ending) (w':World):Prop:=
 ∃vg q' p' m' pb' g' ev',e= .returned (.agg #[.int .i64 (Yd l J.L J.B).1.1,.int .i64 (Yd l J.L J.B).1.2.1,vg])/\FrA (fun x=>x=jb\/x=q\/ev.ownBlock=some x) w w'/\
  Zt w' w.heap.size 2 vg (Yd l J.L J.B).1.2.2.length (gtC (Yd l J.L J.B).1.2.2)/\IsJ w' base jb q' p' m' pb' g' ev' (jdo l J)/\(q'=q\/w.heap.size<=q')/\(ev'.ownBlock=ev.ownBlock\/∃x,ev'.ownBlock=some x/\w.heap.size<=x)
def dsc (r:Nat):Deferred:={ target:= .collected r,args:=#[] }
structure DoI (w8:World) (base jb q:Nat) (ev0:Value) (J:Jn) (l:List Stp) (k:Nat) (L:Led) (B:Bk) (gl:List Gt) (es:List En) (ev:Value) (p m pb:Nat) (g:Option Nat) (rs:List Nat) (W:World):Prop where
 fr:FrA (fun x=>x=jb\/x=q\/ev0.ownBlock=some x) w8 W
 row:Xn W jb (.pointer (some ⟨q,0,none⟩)) (Z1 J.L0) (Z1 L) (J.many+1) ev
 mac:IsM W q p m pb g L B
 own:W.ownsRow base 84 7 ev es.length (Yf es)
 evb:ev.ownBlock=ev0.ownBlock\/∃x,ev.ownBlock=some x/\w8.heap.size<=x
 at_:AtK l J.L J.B k L B gl
 eq:es++Zdh (J.many+1) (l.drop k) (k:Int) L B=J.es++Zdh (J.many+1) l 0 J.L J.B
 le:es.length<=J.es.length+153*k
 hs:HsOk L B
 rn:rs.Nodup
 rs:∀r∈rs,w8.heap.size<=r/\W.heap[r]? =some (.deferred (some []))
theorem Zma {F:Fence} {n:Nat} {P:Program} {fn:Func} {tmps:Array Value} {R:Ending->World->Prop}:∀(rs:List Nat) (W:World),rs.Nodup->(∀r∈rs,W.heap[r]? =some (.deferred (some [])))->
 (∀W',Keep rs W W'->LeavesInM F n P fn tmps R [] .returning W')->LeavesInM F n P fn tmps R (rs.map dsc) .returning W
 | [],W,_,_,h=>h W (Keep.refl _ _)
 | r::rs,W,hn,hr,h=>by
   rw [List.nodup_cons] at hn
   have kf:Keep [r] W (W.putObj r (.deferred none)):=Yg _ (by simp)
   refine ⟨by simp,.inl ⟨r,_,rfl,run_takeDeferred (hr r (by simp)),Zma rs _ hn.2 (fun x hx=>kf.at (hr x (by simp [hx])) (by simp;rintro rfl;exact hn.1 hx)) fun W' k=>h W' ?_⟩⟩
   exact (kf.mono (by simp)).trans (k.mono (fun x hx=>by simp [hx]))
theorem Zff:∀(vs:List Value) (o:Nat) (w:World) (b:Nat) (cs:List Value) (t:TypeId),w.heap[b]? =some (.cells cs.toArray t (0,0))->o+vs.length<=cs.length->
 (w.setCells b o vs).heap[b]? =some (.cells (cs.take o++(vs++cs.drop (o+vs.length))).toArray t (0,0))/\Keep [b] w (w.setCells b o vs)
 | [],o,w,b,cs,t,h,_=>by
   refine ⟨?_,Keep.refl _ _⟩
   show w.heap[b]? =_
   rw [h,List.nil_append,List.length_nil,Nat.add_zero,List.take_append_drop]
 | v::vs,o,w,b,cs,t,h,hl=>by
   rw [List.length_cons] at hl
   have h1:=heap_setCell_same w b o _ _ v h
   rw [List.setIfInBounds_toArray] at h1
   obtain ⟨h2,k2⟩:=Zff vs (o+1) (w.setCell ⟨b,o,none⟩ v) b (cs.set o v) t h1 (by rw [List.length_set];omega)
   have kb:Keep [b] w (w.setCell ⟨b,o,none⟩ v):=(Keep.refl _ _).setCell (Or.inl (by simp)) _
   refine ⟨?_,kb.trans k2⟩
   show ((w.setCell ⟨b,o,none⟩ v).setCells b (o+1) vs).heap[b]? =_
   rw [h2,List.take_succ_eq_append_getElem (by rw [List.length_set];omega),List.getElem_set_self,List.take_set_of_le (Nat.le_refl o),List.drop_set_of_lt (show o<o+1+vs.length by omega),List.length_cons,show o+1+vs.length=o+(vs.length+1) by omega,List.append_assoc]
   rfl
theorem Xn.set_now {w:World} {jb:Nat} {mv ev:Value} {f g:Int->Int->Int} {many:Int} (h:Xn w jb mv f g many ev) (g':Int->Int->Int):
 Xn (w.setCells jb 154 (Xl g').toArray.toList) jb mv f g' many ev/\Keep [jb] w (w.setCells jb 154 (Xl g').toArray.toList):=by
 have hl:(Xl g').toArray.toList.length=153:=by simp [Z3]
 obtain ⟨h1,h2⟩:=Zff (Xl g').toArray.toList 154 w jb (X8 mv f g many ev) _ h (by rw [hl,Zj8];omega)
 refine ⟨?_,h2⟩
 unfold Xn
 rw [h1]
 have e1:(X8 mv f g many ev).take 154=mv::Xl f:=by
  unfold X8
  rw [show (154:Nat)=153+1 from rfl,List.take_succ_cons,List.take_append,Z3,List.take_of_length_le (by rw [Z3];omega)]
  simp
 have e2:(X8 mv f g many ev).drop 307=[.int .i64 many,ev]:=by
  unfold X8
  rw [show (307:Nat)=306+1 from rfl,List.drop_succ_cons,List.drop_append,Z3,List.drop_of_length_le (by rw [Z3];omega),List.nil_append,List.drop_append,Z3,List.drop_of_length_le (by rw [Z3];omega)]
  rfl
 rw [hl,e1,e2]
 simp [X8]
theorem Xn.there_now {w:World} {jb:Nat} {mv ev:Value} {f g:Int->Int->Int} {many:Int} (h:Xn w jb mv f g many ev):w.there jb 154 153:=fun j hj=>by
 refine ⟨?_,h.free _⟩
 rw [cell_of_row w jb (154+j) _ _ _ h]
 have:154+j<(X8 mv f g many ev).length:=by rw [Zj8];omega
 simp [this]
structure RdJ (wk:World) (base jb:Nat) (mv:Value) (f g:Int->Int->Int) (many:Int) (ev0:Value) (es:List En) (M:List (Int×Int)) (E:Int×Int->En) (s:Nat) (W:World):Prop where
 fr:FrA (fun x=>x=jb\/ev0.ownBlock=some x) wk W
 own:∃ev,Xn W jb mv f g many ev/\W.ownsRow base 84 7 ev (es.length+s) (Yf (es++(M.take s).map E))/\(ev.ownBlock=ev0.ownBlock\/∃x,ev.ownBlock=some x/\wk.heap.size+2<=x)
 le:s<=M.length
theorem RdJ.keep {wk:World} {base jb:Nat} {mv:Value} {f g:Int->Int->Int} {many:Int} {ev0:Value} {es:List En} {M:List (Int×Int)} {E:Int×Int->En} {s:Nat} {W W':World} (h:RdJ wk base jb mv f g many ev0 es M E s W) (k:Keep [wk.heap.size,wk.heap.size+1] W W')
 (hj:jb<wk.heap.size) (he:∀x,ev0.ownBlock=some x->x<wk.heap.size):RdJ wk base jb mv f g many ev0 es M E s W':=by
 obtain ⟨ev,h1,h2,h3⟩:=h.own
 refine ⟨Zv h.fr k (fun x hx=>by simp at hx;right;omega),⟨ev,k.at h1 (by simp;omega),U8 (A:=fun x=>x∈[wk.heap.size,wk.heap.size+1]) h2 ⟨k.os,k.tape,k.output,k.size,fun i hi hA=>k.block i hi hA⟩ (fun b hb hA=> ?_),h3⟩,h.le⟩
 simp at hA
 rcases h3 with h3 | ⟨x,h3,hx⟩
 ·have:=he b (h3▸hb)
  omega
 rw [h3] at hb
 simp only [Option.some.injEq] at hb
 omega
set_option maxRecDepth 100000 in
set_option maxHeartbeats 51200000 in
theorem jdo_any (base jb q p m pb:Nat) (g:Option Nat) (ev:Value) (J:Jn) (l:List Stp) (va:Value) (w:World) (h:IsJ w base jb q p m pb g ev J) (ha:Vv w 10 va l.length (Vr l)) (hin:∀s∈l,Zf4 s)
 (hsep:l.length≠0->∀b,va.ownBlock=some b->b≠jb/\b≠q/\ev.ownBlock≠some b) (hb:base<=w.heap.size) (hl:J.es.length<=900000) (hm0:0<=J.many) (hm1:J.many<=1000000) (hs:HsOk J.L J.B):
 Calls Tryz.prog 41 #[.pointer (some ⟨jb,0,none⟩),.agg #[va]] w (RetJ base jb q ev J l w):=by
 obtain ⟨W,hW,e0,h0,h1,hsz⟩:=rows2 w #[.pointer (some ⟨jb,0,none⟩)] #[va] 77 42
 subst hW
 have hjq:=h.row.lt
 have hqq:=Ze h.mac.row
 refine (callsIn_wide (n:=0)).1 ?_
 refine callsIn_of_wp_marks Tryz.func41 rfl trivial ?_ rfl
 refine wpIn_wide.2 ?_
 simp only [Tryz.ntmps41,List.size_toArray,List.length_cons,List.length_nil,Nat.reduceAdd,Nat.reduceSub,Array.replicate_succ,Array.replicate_zero,List.push_toArray,List.append_toArray,List.nil_append,List.cons_append]
 go_wp2_with (first
  | (refine Zm rfl 38 rfl (.cells #[.int .i64 0,.int .i64 0,.slice none 0 0] 38) _ rfl (by go_simp) ?_
     intro w2 e2 h2
     have c0:w2.cell? ⟨w.heap.size,0,none⟩=_:=Za (j:=0) (e2.at h0) rfl))
 rw [hsz] at h2
 have E2:=Xt e0 e2
 have k0:=e2.at h0
 have k1:=e2.at h1
 refine (Jy w2 jb _ _ _ _ _ (h.ext E2).row).mono ?_
 rintro e w3 ⟨rfl,e3⟩
 have E3:=Xt E2 e3
 have k0:=e3.at k0
 have k1:=e3.at k1
 have k2:=e3.at h2
 have hJ3:=h.ext E3
 clear c0 h0 h1 h2 e0 e2 e3 E2
 have c0:w3.cell? ⟨w.heap.size,0,none⟩=_:=Za (j:=0) k0 rfl
 have ck:=hJ3.row.ck
 have cf:=hJ3.row.free 307
 have hmw:J.many+1<=9223372036854775807:=by omega
 have hmw0: -9223372036854775808<=J.many+1:=by omega
 have cm:=hJ3.row.cm
 go_wp2_with fail
 have kb:Keep [jb] w3 (w3.setCell ⟨jb,307,none⟩ (.int .i64 (J.many+1))):=(Keep.refl _ _).setCell (Or.inl (by simp)) _
 have row4:=hJ3.row.set_k (J.many+1)
 have mac4:=hJ3.mac.keepOff kb (Zjr hJ3.row) (by simpa using (hJ3.row.ne_q hJ3.mac).symm)
 have own4:=U8 (A:=fun x=>x=jb) hJ3.own ⟨kb.os,kb.tape,kb.output,kb.size,fun k hk hA=>kb.block k hk (by simpa using hA)⟩ (fun b hb2 he=>by subst he;exact hJ3.row.ne_ev hJ3.own hb2)
 have ha4:=(ha.ext E3).keepS kb (fun hn b hb2 hm=>(hsep hn b hb2).1 (by simpa using hm))
 have k0:=kb.at k0 (by simp;omega)
 have k1:=kb.at k1 (by simp;omega)
 have k2:=kb.at k2 (by simp;omega)
 have hlt24:=Ze k2
 have fr4:FrA (fun x=>x=jb\/x=q\/ev.ownBlock=some x) w (w3.setCell ⟨jb,307,none⟩ (.int .i64 (J.many+1))):=Zv (FrA.of_ext E3) kb (fun x hx=>.inl (.inl (by simpa using hx)))
 have hs34:=kb.size
 have hs3:=E3.size
 clear c0 ck cf cm hJ3 kb E3
 generalize w3.setCell ⟨jb,307,none⟩ (.int .i64 (J.many+1))=w4 at *
 refine (Zl8 q p m pb g J.L J.B w4 mac4).mono ?_
 rintro e w5 ⟨q2,p2,m2,pb2,g2,rfl,e5,nx5,hq2⟩
 have ha5:=ha4.ext e5
 have k15:=e5.at k1
 have ld1:=run_loadVar_row (P:=Tryz.prog) w5 (w.heap.size+1) _ 42 _ _ _ k15 Tryz.underlying42 rfl (by kernel_rfl)
 go_wp2_with (refine Zf rfl 42 _ _ _ rfl rfl ld1 ?_)
 have hap:=Zd8 q2 p2 m2 pb2 g2 J.L J.B l va w5 nx5 ha5 hin
 obtain ⟨R,hR⟩:∃R,Yd l J.L J.B=R:=⟨_,rfl⟩
 rw [hR] at hap
 have HR:=Lib.hid hR
 clear hR
 refine hap.mono ?_
 rintro e w6 ⟨vg,p3,m3,pb3,g3,rfl,f6,sg6,nx6⟩
 obtain ⟨⟨er,at_,gl⟩,L3,B3⟩:=R
 simp only at sg6 nx6
 have sg6':=sg6
 obtain ⟨G,gc,rfl,_⟩:=sg6'
 have e46:=FrA.ext0 e5 f6 (fun x hx=>by omega)
 clear hap ld1 k15 ha5 nx5 f6
 by_cases he:er=0
 ·have he':(er !=0)=false:=by simpa using he
  subst he
  go_wp2_with (first
   | (refine Zm rfl 38 rfl (.cells #[.int .i64 0,.int .i64 0,.slice none 0 0] 38) _ rfl (by go_simp) ?_
      intro w7 e7 h7)
   | (refine Zg rfl rfl 38 _ _ rfl w6.heap.size _ rfl rfl 38 _ h7 (by kernel_rfl) (by rfl) (by rfl) ?_
      intro w8 hb8 ho8 h8
      have z0:w8.cell? ⟨w6.heap.size,0,none⟩=_:=Za (j:=0) h8 rfl
      have e68:Ext w6 w8:=hb8 _ _ (Nat.le_refl _) e7
      have e48:=Xt e46 e68
      have row8:=row4.ext e48
      have mac8:=mac4.ext e48
      have own8:=Zq own4 e48
      have ha8:=ha4.ext e48
      have k0:=e48.at k0
      have k1:=e48.at k1
      have k2:=e48.at k2
      have nx8:=nx6.ext e68
      have sg8:=sg6.ext e68
      have fr8:=fr4.trans (FrA.of_ext e48)
      have hs48:=e48.size
      have hs56:=e46.size
      have hs68:=e68.size
      have hs5:=e5.size
      have hlt8:=Ze h8
      clear row4 mac4 own4 ha4 nx6 sg6 fr4 e48 e46 e5 hb8 ho8 h7 e7
      obtain ⟨A,cap,rfl,q1,q2',q3,q4⟩:=ha8
      have hn63:(l.length:Int)<=9223372036854775807:=by unfold maxLen at q2';omega
      have z1:w8.cell? ⟨w.heap.size+1,0,none⟩=_:=Za (j:=0) k1 rfl))
  clear z0 z1
  obtain ⟨Rel,hRel⟩:∃Rel:Act->World->Prop,∀a' wr,Rel a' wr↔∃(k:Nat) (L:Led) (B:Bk) (gk:List Gt) (es:List En) (ev':Value) (p' m' pb':Nat) (g':Option Nat) (rs:List Nat),DoI w8 base jb q ev J l k L B gk es ev' p' m' pb' g' rs wr/\a'={ tmps:=#[a'.tmps.getD 0 undef,a'.tmps.getD 1 undef,.pointer (some ⟨w.heap.size,0,none⟩),a'.tmps.getD 3 undef,.pointer (some ⟨w.heap.size+1+1,0,none⟩),.pointer (some ⟨q2,0,none⟩),.pointer (some ⟨w6.heap.size,0,none⟩),a'.tmps.getD 7 undef,a'.tmps.getD 8 undef,a'.tmps.getD 9 undef,a'.tmps.getD 10 undef,a'.tmps.getD 11 undef,a'.tmps.getD 12 undef,a'.tmps.getD 13 undef,a'.tmps.getD 14 undef,a'.tmps.getD 15 undef,a'.tmps.getD 16 undef,a'.tmps.getD 17 undef,a'.tmps.getD 18 undef,a'.tmps.getD 19 undef,a'.tmps.getD 20 undef,a'.tmps.getD 21 undef,a'.tmps.getD 22 undef,a'.tmps.getD 23 undef,a'.tmps.getD 24 undef,a'.tmps.getD 25 undef,a'.tmps.getD 26 undef,a'.tmps.getD 27 undef,a'.tmps.getD 28 undef,a'.tmps.getD 29 undef,a'.tmps.getD 30 undef,a'.tmps.getD 31 undef,a'.tmps.getD 32 undef,a'.tmps.getD 33 undef,a'.tmps.getD 34 undef,a'.tmps.getD 35 undef,.slice A l.length cap,.int .i64 (l.length:Int),.int .i64 (k:Int),a'.tmps.getD 39 undef,a'.tmps.getD 40 undef,a'.tmps.getD 41 undef,a'.tmps.getD 42 undef,a'.tmps.getD 43 undef,a'.tmps.getD 44 undef,a'.tmps.getD 45 undef,a'.tmps.getD 46 undef,a'.tmps.getD 47 undef,a'.tmps.getD 48 undef,a'.tmps.getD 49 undef,a'.tmps.getD 50 undef,a'.tmps.getD 51 undef,a'.tmps.getD 52 undef,a'.tmps.getD 53 undef,a'.tmps.getD 54 undef,a'.tmps.getD 55 undef,a'.tmps.getD 56 undef,a'.tmps.getD 57 undef,a'.tmps.getD 58 undef,a'.tmps.getD 59 undef,a'.tmps.getD 60 undef,a'.tmps.getD 61 undef,a'.tmps.getD 62 undef,a'.tmps.getD 63 undef,a'.tmps.getD 64 undef,a'.tmps.getD 65 undef,a'.tmps.getD 66 undef,a'.tmps.getD 67 undef,a'.tmps.getD 68 undef,a'.tmps.getD 69 undef,a'.tmps.getD 70 undef,a'.tmps.getD 71 undef,a'.tmps.getD 72 undef,a'.tmps.getD 73 undef,a'.tmps.getD 74 undef,a'.tmps.getD 75 undef,a'.tmps.getD 76 undef,a'.tmps.getD 77 undef,a'.tmps.getD 78 undef,a'.tmps.getD 79 undef,a'.tmps.getD 80 undef,a'.tmps.getD 81 undef,a'.tmps.getD 82 undef,a'.tmps.getD 83 undef,a'.tmps.getD 84 undef,a'.tmps.getD 85 undef,a'.tmps.getD 86 undef,a'.tmps.getD 87 undef,a'.tmps.getD 88 undef,a'.tmps.getD 89 undef,a'.tmps.getD 90 undef,a'.tmps.getD 91 undef,a'.tmps.getD 92 undef,a'.tmps.getD 93 undef,a'.tmps.getD 94 undef,a'.tmps.getD 95 undef,a'.tmps.getD 96 undef,a'.tmps.getD 97 undef,a'.tmps.getD 98 undef,a'.tmps.getD 99 undef,a'.tmps.getD 100 undef,a'.tmps.getD 101 undef,a'.tmps.getD 102 undef,a'.tmps.getD 103 undef,a'.tmps.getD 104 undef,a'.tmps.getD 105 undef,a'.tmps.getD 106 undef,a'.tmps.getD 107 undef,a'.tmps.getD 108 undef,a'.tmps.getD 109 undef,a'.tmps.getD 110 undef,a'.tmps.getD 111 undef,a'.tmps.getD 112 undef],defers:=rs.map dsc }:=⟨_,fun _ _=>Iff.rfl⟩
  have HRel:=Lib.hid hRel
  clear hRel
  refine wp_loop Rel (fun a' _=>l.length-(intOf (a'.tmps.getD 38 undef)).toNat) ?_ ?_
  ·exact (HRel.out _ _).2 ⟨0,J.L,J.B,[],J.es,ev,p,m,pb,g,[],⟨(FrA.of_ext (Ext.refl _)),row8,mac8,own8,.inl rfl,AtK.start l J.L J.B,by simp,Nat.le_refl _,hs,List.nodup_nil,fun r hr=>by simp at hr⟩,rfl⟩
  rintro a wr hrel
  obtain ⟨k,L,B,gk,es,ev',p',m',pb',g',rs,hI,hact⟩:=(HRel.out _ _).1 hrel
  clear hrel
  obtain ⟨U,hU⟩:∃U:Nat->Value,∀i,a.tmps.getD i undef=U i:=⟨_,fun _=>rfl⟩
  simp only [hU] at hact
  clear hU
  subst hact
  have hnA:∀x,w.heap.size<=x->¬(x=jb\/x=q\/ev.ownBlock=some x):=fun x hx hA=>by
   rcases hA with rfl | rfl | hA
   ·omega
   ·omega
   have:=(h.own.lt x hA).2
   omega
  have k0r:=hI.fr.at k0 (hnA _ (by omega))
  have k2r:=hI.fr.at k2 (hnA _ (by omega))
  have h8r:=hI.fr.at h8 (hnA _ (by omega))
  have c0:wr.cell? ⟨w.heap.size,0,none⟩=_:=Za (j:=0) k0r rfl
  have hrs:=hI.fr.size
  by_cases hkn:k<l.length
  ·rcases q4 with q4 | ⟨ga,off,rfl,hlt0,hcl0⟩
   ·omega
   have hn8:¬(l.length=0\/8<l.length):=fun hh=>by
    have h3:=HR.out
    rw [Zbf hh] at h3
    simp at h3
   have hs0:(Z0 (l[k]'hkn) L B).2.1=0:=by
    by_cases e0:(Z0 (l[k]'hkn) L B).2.1=0
    ·exact e0
    have h3:=hI.at_.bad hn8 hkn e0
    rw [HR.out] at h3
    simp only [Prod.mk.injEq] at h3
    exact absurd h3.1.1.symm e0
   have hga:¬(ga=jb\/ga=q\/ev.ownBlock=some ga):=fun hA=>by
    have h3:=hsep (by omega) ga rfl
    rcases hA with rfl | rfl | hA
    ·exact h3.1 rfl
    ·exact h3.2.1 rfl
    exact h3.2.2 hA
   have hcl:∀j u,(Vr l)[j]? =some u->wr.cell? ⟨ga,off+j,none⟩=some u:=fun j u hu=>(Zd (a:=⟨ga,off+j,none⟩) (hI.fr.block ga hlt0 hga)).trans (hcl0 j u hu)
   have hld:=load_st wr ga off k l hkn hcl
   have hkw:=hin _ (List.getElem_mem hkn)
   have hnx:=hI.at_.next hkn hs0
   have hdr:Zdh (J.many+1) (l.drop k) (k:Int) L B=U1 (J.many+1) (k:Int) (l[k]'hkn).kd L (Z0 (l[k]'hkn) L B).2.2.1++Zdh (J.many+1) (l.drop (k+1)) ((k+1:Nat):Int) (Z0 (l[k]'hkn) L B).2.2.1 (Z0 (l[k]'hkn) L B).2.2.2:=by
    rw [List.drop_eq_getElem_cons hkn,Zdh,show ((k+1:Nat):Int)=(k:Int)+1 by omega]
   have hk1:(0:Int)<=(k:Int):=by omega
   have hk2:(k:Int)<(l.length:Int):=by omega
   have heq:=hI.eq
   rw [hdr] at heq
   have HEQ:=Lib.hid heq
   have HNX:=Lib.hid hnx
   have HHS:=Lib.hid (hI.hs.step (l[k]'hkn))
   clear heq hnx hdr hcl
   generalize hsx:(l[k]'hkn)=s at *
   obtain ⟨kd,pa,pbb,ca,cb,am,mx,nu,de,sq⟩:=s
   simp only [Stp.agg] at hld
   go_wp2_with (first
    | (refine Zf rfl 30 _ _ _ rfl rfl hld ?_)
    | (refine Zm rfl 3 rfl (.cells #[.int .i64 0] 3) _ rfl (by go_simp) ?_
       intro wa ea hka)
    | (refine Zm rfl 30 rfl (.cells #[.int .u8 0,.int .u8 0,.int .u8 0,.int .u8 0,.int .u8 0,.int .i64 0,.int .i64 0,.int .i64 0,.int .i64 0,.int .u64 0] 30) _ rfl (by go_simp) ?_
       intro wb eb hkb
       have hka:=eb.at hka
       have c7:wb.cell? ⟨wr.heap.size,0,none⟩=_:=Za (j:=0) hka rfl
       have f7:=frozen_of_row _ _ 0 _ _ hka
       have kb7:Keep [wr.heap.size] wb (wb.setCell ⟨wr.heap.size,0,none⟩ (.int .i64 (k:Int))):=(Keep.refl _ _).setCell (Or.inl (by simp)) _
       have hkb:=kb7.at hkb (by simp;have:=Ze (show wa.heap[wr.heap.size]? =_ from by assumption);omega))
    | (refine Zg rfl rfl 30 _ _ rfl wa.heap.size _ rfl rfl 30 _ hkb (by kernel_rfl) (by rfl) (by rfl) ?_
       intro wc hbc hoc hkc))
   have hla:=Ze (eb.at (show wa.heap[wr.heap.size]? =_ by assumption))
   have hlab:=Ze (show wa.heap[wr.heap.size]? =_ by assumption)
   have eac:Ext wr wc:=hbc _ _ ea.size (Keep.trans_fresh (S:=[]) (Kx (Xt ea eb)) kb7 (fun x hx=>by simp at hx;right;omega)).ext
   have k7c:wc.heap[wr.heap.size]? =some (.cells #[.int .i64 (k:Int)] 3 (0,0)):=(hoc _ (by omega)).trans (heap_setCell_same wb _ 0 _ _ _ hka)
   have k0c:=eac.at k0r
   have rowc:=hI.row.ext eac
   have macc:=hI.mac.ext eac
   have ownc:=Zq hI.own eac
   obtain ⟨b8,hb8e⟩:∃b8,b8=wa.heap.size:=⟨_,rfl⟩
   rw [<-hb8e] at hkc ⊢
   have hb8l:wr.heap.size<b8:=by omega
   clear hld hka hkb c7 f7 kb7 hbc hoc ea eb hb8e hla hlab c0
   refine Zh Zk 7 [5,6] (by kernel_rfl) (by kernel_rfl) ?_
   intro w1 hw1
   have c0u:=fun u:ExtOf w1=>Za (j:=0) ((Xt hw1 u.h).at k0c) rfl
   have cmu:∀u:ExtOf w1,u.to.cell? ⟨jb,0,none⟩=_:=fun u=>(rowc.ext (Xt hw1 u.h)).cm
   have ldS:∀wq,Cls w1 wq->(loadVar 30 ⟨b8,0,none⟩).run Tryz.prog wq= .ok (.agg #[.int .u8 kd,.int .u8 pa,.int .u8 pbb,.int .u8 ca,.int .u8 cb,.int .i64 am,.int .i64 mx,.int .i64 nu,.int .i64 de,.int .u64 sq]) wq:=by
    rintro _ ⟨u,rfl⟩
    exact run_loadVar_row (P:=Tryz.prog) u.to b8 _ 30 _ _ _ ((Xt hw1 u.h).at hkc) Tryz.underlying30 rfl (by kernel_rfl)
   simp only [Zj,Rg.hsB,Nat.reduceBEq,Nat.reduceAdd,↓reduceIte]
   repeat (first | go_big_quiet_step (fail) | (go_big_quiet_want;(refine Yz 30 _ _ _ rfl rfl ldS ?_);go_big_quiet_on;simp only [Act.put,Rg.puB]))
   refine wpQuiet_nil ?_
   refine Y1 5 _ (.cells (Vr [(⟨kd,pa,pbb,ca,cb,am,mx,nu,de,sq⟩:Stp)]).toArray 30) (fun p=>.slice (some ⟨p,0,none⟩) 1 1) (by intro w;kernel_rfl) rfl (by kernel_rfl) (by decide) rfl ?_
   intro xb wX h0X hX hxb0 hxb hxbb
   refine Xu 6 _ (.agg #[.slice (some ⟨xb,0,none⟩) 1 1]) rfl (by kernel_rfl) (by decide) rfl (fun w' _=>by kernel_rfl) ?_
   intro wY h0Y hY
   refine Zi (by kernel_rfl) ?_
   intro we ede ede'
   simp only [Act.put,Rg.puB]
   clear c0u cmu ldS
   go_wp2_with fail
   have hse:=(Xt hY ede').at hxbb
   have ede:Ext wc we:=ede
   have hsl:Zt we 0 10 (.slice (some ⟨xb,0,none⟩) 1 1) 1 (Vr [(⟨kd,pa,pbb,ca,cb,am,mx,nu,de,sq⟩:Stp)]):=Zcu hse rfl (by decide) (Nat.zero_le _)
   have hap:=Zd8 q p' m' pb' g' L B [(⟨kd,pa,pbb,ca,cb,am,mx,nu,de,sq⟩:Stp)] _ we (macc.ext ede) hsl.arg (fun s hs=>by rw [List.mem_singleton.1 hs];exact hkw)
   rw [apply_one,if_neg (by rw [hs0];simp)] at hap
   obtain ⟨sm,hsm⟩:∃sm,Z0 (⟨kd,pa,pbb,ca,cb,am,mx,nu,de,sq⟩:Stp) L B=sm:=⟨_,rfl⟩
   rw [hsm] at hs0 hap HEQ HNX HHS
   obtain ⟨sg,se,Ls,Bs⟩:=sm
   simp only at hs0 hap
   clear hsm
   refine hap.mono ?_
   rintro e wf ⟨vg,pf,mf,pbf,gf,rfl,ff,sgf,macf⟩
   simp only at macf
   obtain ⟨Gf,gcf,rfl,_⟩:=sgf
   have hjq2:=rowc.ne_q macc
   have hevq:∀b,ev'.ownBlock=some b->b≠q:=fun b hb2 he=>by subst he;exact macc.ne_ev ownc hb2
   have rowf:Xn wf jb _ _ _ _ _:=ff.at (rowc.ext ede) hjq2
   have ownf:=U8 (Zq ownc ede) ff hevq
   have k0f:=ff.at (ede.at k0c) (by omega)
   have k7f:=ff.at (ede.at k7c) (by omega)
   have k8f:=ff.at (ede.at hkc) (by omega)
   have frf:FrA (fun x=>x=jb\/x=q\/ev.ownBlock=some x) w8 wf:=(hI.fr.trans (FrA.of_ext (Xt eac ede))).trans (ff.mono fun x hx=>.inr (.inl hx))
   have hrsf:∀r∈rs,w8.heap.size<=r/\wf.heap[r]? =some (.deferred (some [])):=fun r hr=>⟨(hI.rs r hr).1,ff.at (ede.at (eac.at (hI.rs r hr).2)) (by have:=(hI.rs r hr).1;omega)⟩
   have hszf:b8<wf.heap.size:=Ze k8f
   have hsrf:wr.heap.size<=wf.heap.size:=by omega
   have HRN:=Lib.hid hI.rn
   have HVB:=Lib.hid hI.evb
   have HLE:=Lib.hid hI.le
   have hwl:WF L:=hI.hs.ok.wf
   clear hap hsl hse ff hX h0X hxbb hxb hxb0 hY h0Y ede ede' k7c hkc k0c rowc macc ownc eac hw1 hI
   have c0:wf.cell? ⟨w.heap.size,0,none⟩=_:=Za (j:=0) k0f rfl
   have cm:=rowf.cm
   go_wp2_with fail
   refine (Zlp q pf mf pbf gf Ls Bs wf macf).mono ?_
   rintro e wg ⟨vS,rfl,eg,hsS⟩
   have hps:=Zei _ vS Ls Bs wg hsS macf.ok.wf
   obtain ⟨vS1,vS2,vS3,rfl,_⟩:=hsS
   clear c0 cm
   go_wp2_with fail
   refine hps.mono ?_
   rintro e wh ⟨rfl,eh⟩
   have efh:=Xt eg eh
   have c0:wh.cell? ⟨w.heap.size,0,none⟩=_:=Za (j:=0) (efh.at k0f) rfl
   clear hps eg eh
   go_wp2_with (first
    | (refine Zm rfl 97 rfl (.cells (Xl fun _ _=>0).toArray 97) _ rfl (by kernel_rfl) ?_
       intro wi ei hib)
    | (refine Zg rfl rfl 97 _ _ rfl wh.heap.size _ rfl rfl 97 _ hib (by rw [U2,List.size_toArray,Z3]) (by rfl) (by rw [Array.all_toList];exact Zd6 _) ?_
       intro wj hbj hoj hjb
       have ehj:Ext wh wj:=hbj _ _ (Nat.le_refl _) ei
       have c0:wj.cell? ⟨w.heap.size,0,none⟩=_:=Za (j:=0) (ehj.at (efh.at k0f)) rfl))
   refine (Zsc (some ⟨wh.heap.size,0,none⟩) (some ⟨jb,154,none⟩) wj).mono ?_
   rintro e wk ⟨rfl,ek,hx1,hx2⟩
   clear c0
   go_wp2_with fail
   have efk:=Xt (Xt efh ehj) ek
   have rowk:=rowf.ext efk
   have ownk:=Zq ownf efk
   have k0k:=efk.at k0f
   have k7k:=efk.at k7f
   have k8k:=efk.at k8f
   have hjk:=ek.at hjb
   have hevlt:∀b,ev'.ownBlock=some b->b<wf.heap.size:=fun b hb2=>(ownf.lt b hb2).2
   have hsfh:=efh.size
   have hshj:=ehj.size
   have hsjk:=ek.size
   have hx2l:=Ze hx2
   have hbil:=Ze hjb
   have hjbk:=rowk.lt
   have hjbf:=rowf.lt
   have hwls:WF Ls:=macf.ok.wf
   obtain ⟨M,hM⟩:∃M,Zbh (Z1 Ls) (Z1 L)=M:=⟨_,rfl⟩
   have hit:=Zpt wj.heap.size (wj.heap.size+1) wh.heap.size 0 jb 154 (Z1 Ls) (Z1 L)
   rw [hM] at hit
   have HDM:=Lib.hid (show U1 (J.many+1) (k:Int) kd L Ls=M.map (enA (J.many+1) (k:Int) kd L Ls) by rw [diffE_map,hM])
   have hnx:∀x,wf.heap.size<=x->¬(x=jb\/ev'.ownBlock=some x):=fun x hx hA=>by
    rcases hA with rfl | hA
    ·omega
    have:=hevlt x hA
    omega
   have hmvb:∀s A,RdJ wk base jb (.pointer (some ⟨q,0,none⟩)) (Z1 J.L0) (Z1 L) (J.many+1) ev' es M (enA (J.many+1) (k:Int) kd L Ls) s A->MvB wj.heap.size (wj.heap.size+1) wh.heap.size 0 jb 154 (Z1 Ls) (Z1 L) A:=fun s A hs=>by
    obtain ⟨ev2,hr2,_,_⟩:=hs.own
    exact ⟨hs.fr.at hx1 (hnx _ (by omega)),hs.fr.at hx2 (hnx _ (by omega)),fun p c hp hc=>by rw [Nat.zero_add];exact Zb0 (hs.fr.at hjk (hnx _ (by omega))) hp hc,fun p c hp hc=>hr2.cn hp hc⟩
   have hI0:RdJ wk base jb (.pointer (some ⟨q,0,none⟩)) (Z1 J.L0) (Z1 L) (J.many+1) ev' es M (enA (J.many+1) (k:Int) kd L Ls) 0 wk:=⟨FrA.of_ext (Ext.refl _),⟨ev',rowk,by simpa using ownk,.inl rfl⟩,Nat.zero_le _⟩
   have frk0:=frf.trans (FrA.of_ext efk)
   have mack:=macf.ext efk
   have hrsk:∀r∈rs,r<wf.heap.size/\wk.heap[r]? =some (.deferred (some [])):=fun r hr=>⟨Ze (hrsf r hr).2,efk.at (hrsf r hr).2⟩
   clear ek hjb ehj efh efk
   refine (wpIn_wide (n:=0)).1 ?_
   refine U6 rfl (enters_of Tryz.func121 (by kernel_rfl) rfl) rfl hit
    (RdJ wk base jb (.pointer (some ⟨q,0,none⟩)) (Z1 J.L0) (Z1 L) (J.many+1) ev' es M (enA (J.many+1) (k:Int) kd L Ls)) (fun _ _=>False)
    (fun s A B hs hk=>hs.keep hk hjbk (fun x hx=>by have:=hevlt x hx;omega)) (fun cd A B hs hk=>hs) hmvb
    (fun s A B B' x hx _ _=>hx) hI0 ?asg ?asgk ?assign ?body ?done ?stop
   case asg=>exact fun x a W=>∃(a0:Int×Int) (eb:Nat),x=Zqx a0/\W.heap[eb]? =some (.cells #[.int .u8 a0.1,.int .u8 a0.2] 177 (0,0))/\wk.heap.size+2<=eb/\a={ tmps:=#[a.tmps.getD 0 undef,a.tmps.getD 1 undef,.pointer (some ⟨w.heap.size,0,none⟩),a.tmps.getD 3 undef,a.tmps.getD 4 undef,a.tmps.getD 5 undef,a.tmps.getD 6 undef,.pointer (some ⟨wr.heap.size,0,none⟩),.pointer (some ⟨b8,0,none⟩),.pointer (some ⟨wh.heap.size,0,none⟩),.pointer (some ⟨eb,0,none⟩),a.tmps.getD 11 undef,a.tmps.getD 12 undef,a.tmps.getD 13 undef,a.tmps.getD 14 undef,a.tmps.getD 15 undef,a.tmps.getD 16 undef,a.tmps.getD 17 undef,a.tmps.getD 18 undef,a.tmps.getD 19 undef,a.tmps.getD 20 undef,a.tmps.getD 21 undef,a.tmps.getD 22 undef,a.tmps.getD 23 undef,a.tmps.getD 24 undef,a.tmps.getD 25 undef,a.tmps.getD 26 undef,a.tmps.getD 27 undef,a.tmps.getD 28 undef,a.tmps.getD 29 undef,a.tmps.getD 30 undef,a.tmps.getD 31 undef,a.tmps.getD 32 undef,a.tmps.getD 33 undef,a.tmps.getD 34 undef,a.tmps.getD 35 undef,a.tmps.getD 36 undef,a.tmps.getD 37 undef,a.tmps.getD 38 undef,a.tmps.getD 39 undef,a.tmps.getD 40 undef,a.tmps.getD 41 undef,a.tmps.getD 42 undef,a.tmps.getD 43 undef,a.tmps.getD 44 undef,a.tmps.getD 45 undef,a.tmps.getD 46 undef,a.tmps.getD 47 undef,a.tmps.getD 48 undef,a.tmps.getD 49 undef,a.tmps.getD 50 undef,a.tmps.getD 51 undef,a.tmps.getD 52 undef,a.tmps.getD 53 undef,a.tmps.getD 54 undef,a.tmps.getD 55 undef,a.tmps.getD 56 undef,a.tmps.getD 57 undef,a.tmps.getD 58 undef,a.tmps.getD 59 undef,a.tmps.getD 60 undef,a.tmps.getD 61 undef,a.tmps.getD 62 undef,a.tmps.getD 63 undef,a.tmps.getD 64 undef,a.tmps.getD 65 undef,a.tmps.getD 66 undef,a.tmps.getD 67 undef,a.tmps.getD 68 undef,a.tmps.getD 69 undef,a.tmps.getD 70 undef,a.tmps.getD 71 undef,a.tmps.getD 72 undef,a.tmps.getD 73 undef,a.tmps.getD 74 undef,a.tmps.getD 75 undef,a.tmps.getD 76 undef,a.tmps.getD 77 undef,a.tmps.getD 78 undef,a.tmps.getD 79 undef,a.tmps.getD 80 undef,a.tmps.getD 81 undef,a.tmps.getD 82 undef,a.tmps.getD 83 undef,a.tmps.getD 84 undef,a.tmps.getD 85 undef,a.tmps.getD 86 undef,a.tmps.getD 87 undef,a.tmps.getD 88 undef,a.tmps.getD 89 undef,a.tmps.getD 90 undef,a.tmps.getD 91 undef,a.tmps.getD 92 undef,a.tmps.getD 93 undef,a.tmps.getD 94 undef,a.tmps.getD 95 undef,a.tmps.getD 96 undef,a.tmps.getD 97 undef,a.tmps.getD 98 undef,a.tmps.getD 99 undef,a.tmps.getD 100 undef,a.tmps.getD 101 undef,a.tmps.getD 102 undef,a.tmps.getD 103 undef,a.tmps.getD 104 undef,a.tmps.getD 105 undef,a.tmps.getD 106 undef,a.tmps.getD 107 undef,a.tmps.getD 108 undef,a.tmps.getD 109 undef,a.tmps.getD 110 undef,a.tmps.getD 111 undef,a.tmps.getD 112 undef],defers:=[] }
   case asgk=>
    rintro x a W W' ⟨y,eb,h1,h2,h3,h4⟩ hk
    exact ⟨y,eb,h1,hk.at h2 (by simp;omega),h3,h4⟩
   case assign=>
    rintro lp s A x W K ⟨y,_,rfl⟩ hsz hK
    have ea:=Zc W (.cells #[.int .u8 y.1,.int .u8 y.2] 177)
    have ha2:=Zb W (.cells #[.int .u8 y.1,.int .u8 y.2] 177)
    unfold Zqx
    refine Vc (by kernel_rfl) (by rintro ⟨_,_,hh⟩;exact hh) ?_
    go_wp2
    exact hK _ _ ea ⟨y,W.heap.size,rfl,ha2,by omega,rfl⟩
   case body=>
    rintro s A W x aX hIA hk ⟨a0,hy,rfl⟩ hsz ⟨a1,eb,hxy,heb,hle,hact⟩
    obtain ⟨V,hV⟩:∃V:Nat->Value,∀i,aX.tmps.getD i undef=V i:=⟨_,fun _=>rfl⟩
    simp only [hV] at hact
    clear hV
    subst hact
    have hyy:a1=a0:=by
     obtain ⟨x1,x2⟩:=a1
     obtain ⟨y1,y2⟩:=a0
     simp [Zqx] at hxy
     simp [hxy]
    subst hyy
    have hI2:=hIA.keep hk hjbk (fun x hx=>by have:=hevlt x hx;omega)
    obtain ⟨ev2,hr2,ho2,hv2⟩:=hI2.own
    have frk:=hI2.fr
    have hs2:s<M.length:=(List.getElem?_eq_some_iff.1 hy).1
    have hmem:=Zo9.1 (List.mem_filter.1 (show a1∈Zbh (Z1 Ls) (Z1 L) from hM▸List.mem_of_getElem? hy)).1
    have htk:Yf (es++(M.take (s+1)).map (enA (J.many+1) (k:Int) kd L Ls))=Yf (es++(M.take s).map (enA (J.many+1) (k:Int) kd L Ls))++(enA (J.many+1) (k:Int) kd L Ls a1).cells:=by
     rw [List.take_succ_eq_append_getElem hs2,List.map_append,<-List.append_assoc,Zhs]
     have h5:=List.getElem?_eq_getElem hs2
     rw [hy] at h5
     injection h5 with h5
     rw [<-h5]
     simp [Yf]
    obtain ⟨pa0,cu0⟩:=a1
    simp only at hmem heb
    obtain ⟨pn,rfl⟩:∃n:Nat,pa0=(n:Int):=⟨pa0.toNat,by omega⟩
    obtain ⟨cn,rfl⟩:∃n:Nat,cu0=(n:Int):=⟨cu0.toNat,by omega⟩
    have hp17:pn<17:=by omega
    have hc9:cn<9:=by omega
    have hp1:(0:Int)<=(pn:Int):=by omega
    have hp2:(pn:Int)<17:=by omega
    have hc1:(0:Int)<=(cn:Int):=by omega
    have hc2:(cn:Int)<9:=by omega
    have k0W:=frk.at k0k (fun hA=>by rcases hA with hA | hA;omega;exact Yc ownk k0k (by decide) hA)
    have k7W:=frk.at k7k (fun hA=>by rcases hA with hA | hA;omega;exact Yc ownk k7k (by decide) hA)
    have k8W:=frk.at k8k (fun hA=>by rcases hA with hA | hA;omega;exact Yc ownk k8k (by decide) hA)
    have hjW:=frk.at hjk (hnx _ (by omega))
    have hbiW:=Ze hjW
    have qb:=Zb0 hjW hp17 hc9
    have qn:=hr2.cn hp17 hc9
    have bd1:=Zie hwls (pn:Int) (cn:Int)
    have bd2:=Zie hwl (pn:Int) (cn:Int)
    rw [show (enA (J.many+1) (k:Int) kd L Ls ((pn:Int),(cn:Int))).cells=[.int .i64 (J.many+1),.int .i64 (k:Int),.int .u8 kd,.int .u8 (pn:Int),.int .u8 (cn:Int),.int .i64 (Z1 Ls (pn:Int) (cn:Int)-Z1 L (pn:Int) (cn:Int)),.int .i64 (Z1 Ls (pn:Int) (cn:Int))] from rfl] at htk
    obtain ⟨zi,hzi⟩:∃zi,Z1 Ls (pn:Int) (cn:Int)=zi:=⟨_,rfl⟩
    obtain ⟨zw,hzw⟩:∃zw,Z1 L (pn:Int) (cn:Int)=zw:=⟨_,rfl⟩
    rw [hzi] at qb bd1 htk
    rw [hzw] at qn bd2 htk
    have HTK:=Lib.hid htk
    have HZI:=Lib.hid hzi
    have HZW:=Lib.hid hzw
    have bs1: -9223372036854775808<=zi-zw:=by omega
    have bs2:zi-zw<=9223372036854775807:=by omega
    obtain ⟨A2,cap2,rfl⟩:=Ye ho2
    have ce:=hr2.ce
    have ck:=hr2.ck
    have hszW:wk.heap.size+2<=W.heap.size:=by have:=hk.size;omega
    have hlen2:es.length+s<=1000000:=by
     have h6:=HLE.out
     have h7:M.length<=153:=by rw [<-hM];exact Nat.le_trans (List.length_filter_le _ _) (Nat.le_of_eq Za1)
     have h8:l.length<=8:=by omega
     omega
    clear hzi hzw htk hxy hy hIA hI2 hit hmvb hI0 hjW hmem
    gi_wp2
    refine Vb (by kernel_rfl) (by kernel_rfl) (by rintro ⟨_,_,hh⟩;exact hh) (Vw Zk 7 [] (by kernel_rfl) ?_)
    intro w1 hw1
    have e0u:=fun u:ExtOf w1=>Za (j:=0) ((Xt hw1 u.h).at heb) rfl
    have e1u:=fun u:ExtOf w1=>Za (j:=1) ((Xt hw1 u.h).at heb) rfl
    have qbu:∀u:ExtOf w1,u.to.cell? ⟨wh.heap.size,pn*9+cn,none⟩=some (.int .i64 zi):=fun u=>(Zd ((Xt hw1 u.h).block (by omega))).trans qb
    simp only [Zj,Rg.hsB,Nat.reduceAdd,↓reduceIte]
    repeat (go_big_quiet_step ((fail)))
    refine wpQuiet_nil ?_
    refine Zi (by kernel_rfl) ?_
    intro w9 e9 e9'
    simp only [Rg.puB]
    clear e0u e1u qbu
    have heb9:=e9.at heb
    have k09:=e9.at k0W
    have k79:=e9.at k7W
    have k89:=e9.at k8W
    have hr9:=hr2.ext e9
    have ho9:=Zq ho2 e9
    go_wp2
    gi_wp2
    obtain ⟨SS,hSL⟩:∃SS,(Value.slice A2 (es.length+s) cap2).ownBlock.toList=SS:=⟨_,rfl⟩
    have hns:∀{x:Nat} {cs:Array Value} {t:TypeId} {fr:Nat×Nat},w9.heap[x]? =some (.cells cs t fr)->84≠t->x∉SS:=fun hx ht hm=>by
     rw [<-hSL] at hm
     exact Yc ho9 hx ht (Option.mem_toList.1 hm)
    have n0:=hns heb9 (by decide)
    have n1:=hns k09 (by decide)
    have n2:=hns k79 (by decide)
    have n3:=hns k89 (by decide)
    have n4:=hns hr9 (by decide)
    refine Vb (by kernel_rfl) (by kernel_rfl) (by rintro ⟨_,_,hh⟩;exact hh) (RgK.Vw SS Zk 32 [30,31] (by kernel_rfl) (by kernel_rfl) ?_)
    intro w1 hw1
    have e0u:=fun u:KeepOf SS w1=>Za (j:=0) ((hw1.trans u.h).at heb9 n0) rfl
    have e1u:=fun u:KeepOf SS w1=>Za (j:=1) ((hw1.trans u.h).at heb9 n0) rfl
    have c0u:=fun u:KeepOf SS w1=>Za (j:=0) ((hw1.trans u.h).at k09 n1) rfl
    have c7u:=fun u:KeepOf SS w1=>Za (j:=0) ((hw1.trans u.h).at k79 n2) rfl
    have c8u:=fun u:KeepOf SS w1=>Za (j:=0) ((hw1.trans u.h).at k89 n3) rfl
    have hru:∀u:KeepOf SS w1,Xn u.to jb _ _ _ _ _:=fun u=>(hw1.trans u.h).at hr9 n4
    have ceu:∀u:KeepOf SS w1,u.to.cell? ⟨jb,308,none⟩=_:=fun u=>(hru u).ce
    have cku:∀u:KeepOf SS w1,u.to.cell? ⟨jb,307,none⟩=_:=fun u=>(hru u).ck
    have cnu:∀u:KeepOf SS w1,u.to.cell? ⟨jb,154+pn*9+cn,none⟩=some (.int .i64 zw):=fun u=>((hru u).cn hp17 hc9).trans (by rw [HZW.out])
    simp only [Zj,Rg.hsB,Nat.reduceBEq,Nat.reduceAdd,↓reduceIte]
    repeat (go_big_quiet_step ((fail)))
    refine wpQuiet_nil ?_
    intro hx1
    clear e0u e1u c0u c7u c8u ceu cku cnu hru n0 n1 n2 n3 hw1
    refine RgK.Y1 30 _ (.cells #[.int .i64 (J.many+1),.int .i64 (k:Int),.int .u8 kd,.int .u8 (pn:Int),.int .u8 (cn:Int),.int .i64 (zi-zw),.int .i64 zi] 84) (fun p=>.slice (some ⟨p,0,none⟩) 1 1) (by intro w;go_simp) rfl (by kernel_rfl) (by decide) rfl ?_
    intro xb2 wX h0X hX hxb0 hxb2 hxbb
    have E9X:=Xt hx1 hX
    have hoX:=Zq ho9 E9X
    have hrX:=hr9.ext E9X
    have hszX:=E9X.size
    have hsz9:=e9.size
    obtain ⟨i0,hi,hz0,hz1,hz2⟩:=info_parts Znu
    have hbX:base<=wX.heap.size:=by have:=frk0.size;omega
    refine RgK.Jo 31 _ _ _ _ rfl rfl (by kernel_rfl) (by decide) rfl base 84 i0 (.agg #[.int .i64 0,.int .i64 0,.int .u8 0,.int .u8 0,.int .u8 0,.int .i64 0,.int .i64 0]) 7 40 Tryz.underlying80 hi hz0 hz1 hz2 rfl (by decide) (.slice A2 (es.length+s) cap2) (es.length+s) (Yf (es++(M.take s).map (enA (J.many+1) (k:Int) kd L Ls))) (by kernel_rfl) hoX (fun q hq=>by rw [<-hSL];simp [hq]) xb2 1 1 _ _ _ (by kernel_rfl) hxbb rfl (by simp [Value.oneCell']) (by unfold maxLen;omega) (by omega) hbX ?_
    intro v' w3 h03 h3 hown' hwh3
    obtain ⟨g3,cap3,rfl⟩:=ownsRow_succ hown'
    have hjS:jb∉(Value.slice A2 (es.length+s) cap2).ownBlock.toList:=by rw [hSL];exact n4
    have hr3:Xn w3 jb _ _ _ _ _:=h3.at hrX hjS
    refine RgK.Zi (by kernel_rfl) ?_
    intro wt et et'
    simp only [Act.put,Rg.puB]
    have hrt:=hr3.ext et'
    have hot:=Zq hown' et'
    have ct:=hrt.ce
    have ft:=hrt.free 308
    have hrs3:=hrt.set_e (.slice (some ⟨g3,0,none⟩) (es.length+s+1) cap3)
    have kb3:Keep [jb] wt (wt.setCell ⟨jb,308,none⟩ (.slice (some ⟨g3,0,none⟩) (es.length+s+1) cap3)):=(Keep.refl _ _).setCell (Or.inl (by simp)) _
    have hevW:∀q4,(Value.slice A2 (es.length+s) cap2).ownBlock=some q4->q4≠wk.heap.size/\q4≠wk.heap.size+1:=fun q4 hq4=>by
     rcases hv2 with hv2 | ⟨x,hv2,hx⟩
     ·rw [hv2] at hq4
      have:=hevlt q4 hq4
      omega
     rw [hv2] at hq4
     simp only [Option.some.injEq] at hq4
     omega
    have hs3:=h3.size
    have hst3:=et'.size
    have hD:∀D,D=wk.heap.size\/D=wk.heap.size+1->(wt.setCell ⟨jb,308,none⟩ (.slice (some ⟨g3,0,none⟩) (es.length+s+1) cap3)).heap[D]? =W.heap[D]? :=fun D hDD=>
     (kb3.block D (by rcases hDD with rfl | rfl<;>omega) (by simp;rcases hDD with rfl | rfl<;>omega)).trans ((et'.block (by rcases hDD with rfl | rfl<;>omega)).trans ((h3.block D (by rcases hDD with rfl | rfl<;>omega) (fun hm=>by have:=hevW D (Option.mem_toList.1 hm);rcases hDD with rfl | rfl<;>omega)).trans ((Xt e9 E9X).block (by rcases hDD with rfl | rfl<;>omega))))
    have hr3e:∀b,(Value.slice (some ⟨g3,0,none⟩) (es.length+s+1) cap3).ownBlock=some b->b≠jb:=fun b hb2 he=>by subst he;exact hrt.ne_ev hot hb2
    clear hx1 h0X hX hxb0 hxbb h03 et hns n4 hoX hrX hown' hr3
    go_wp2
    refine ⟨⟨hD _ (.inl rfl),hD _ (.inr rfl)⟩,s+1,⟨?_,⟨_,hrs3,?_,?_⟩,hs2⟩,rfl⟩
    ·refine Zv ((Zv (frk.trans (FrA.of_ext (Xt e9 E9X))) h3 (fun x hx=> ?_)).trans (FrA.of_ext et')) kb3 (fun x hx=>.inl (.inl (by simpa using hx)))
     have hx:=Option.mem_toList.1 hx
     rcases hv2 with hv2 | ⟨y,hv2,hy2⟩
     ·exact .inl (.inr (hv2▸hx))
     rw [hv2] at hx
     simp only [Option.some.injEq] at hx
     exact .inr (by omega)
    ·rw [HTK.out,<-Nat.add_assoc]
     exact U8 (A:=fun x=>x=jb) hot ⟨kb3.os,kb3.tape,kb3.output,kb3.size,fun i hi2 hA=>kb3.block i hi2 (by simpa using hA)⟩ hr3e
    rcases hwh3 with hw3 | hw3
    ·rcases hv2 with hv2 | ⟨y,hv2,hy2⟩
     ·exact .inl (hw3.trans hv2)
     exact .inr ⟨y,hw3.trans hv2,hy2⟩
    obtain ⟨y,hw3,hy3⟩:=hw3
    exact .inr ⟨y,hw3,by omega⟩
   case done=>
    intro s W hend hI2 hD
    obtain ⟨ev2,hr2,ho2,hv2⟩:=hI2.own
    have frk:=hI2.fr
    subst hend
    rw [List.take_length,<-HDM.out] at ho2
    have hML:M.length=(U1 (J.many+1) (k:Int) kd L Ls).length:=by rw [HDM.out,List.length_map]
    have k0W:=frk.at k0k (fun hA=>by rcases hA with hA | hA;omega;exact Yc ownk k0k (by decide) hA)
    have hjW:=frk.at hjk (hnx _ (by omega))
    have c0:W.cell? ⟨w.heap.size,0,none⟩=_:=Za (j:=0) k0W rfl
    have ld97:=run_loadVar_row (P:=Tryz.prog) W wh.heap.size _ 97 _ _ _ hjW Tryz.underlying97 rfl (by rw [U2,List.size_toArray,Z3])
    have htn:W.there jb 154 (Xl (Z1 Ls)).toArray.size:=by rw [List.size_toArray,Z3];exact hr2.there_now
    have hsn:=hr2.set_now (Z1 Ls)
    have hszk:=frk.size
    have kpk:=frk.kp (S:=[jb]++ev'.ownBlock.toList) (fun x hx=>by
     rcases hx with rfl | hx
     ·simp
     simp [hx])
    have macW:=mack.keepOff kpk ((Zjr rowk).app (Zrt ownk)) (fun hm=>by
     simp only [List.mem_append,List.mem_singleton,Option.mem_toList] at hm
     rcases hm with rfl | hm
     ·exact hjq2 rfl
     exact hevq q hm rfl)
    have macX:=macW.keepOff hsn.2 (Zjr hr2) (by simpa using fun e=>hjq2 (Eq.symm e))
    have ownX:=U8 (A:=fun x=>x=jb) ho2 ⟨hsn.2.os,hsn.2.tape,hsn.2.output,hsn.2.size,fun i hi hA=>hsn.2.block i hi (by simpa using hA)⟩ (fun b hb2 he=>by subst he;exact hr2.ne_ev ho2 hb2)
    have frX:=Zv (Zv frk0 kpk (fun x hx=>by
     simp only [List.mem_append,List.mem_singleton,Option.mem_toList] at hx
     rcases hx with rfl | hx
     ·exact .inl (.inl rfl)
     rcases HVB.out with hv | ⟨y,hv,hy⟩
     ·exact .inl (.inr (.inr (hv▸hx)))
     rw [hv] at hx
     simp only [Option.some.injEq] at hx
     exact .inr (by omega))) hsn.2 (fun x hx=>.inl (.inl (by simpa using hx)))
    have hsz8:=frk0.size
    have hevd:∀r∈rs,ev'.ownBlock≠some r:=fun r hr he=>by
     have h1:=(hrsk r hr).2
     rcases ownk.2 with ⟨rfl,_⟩ | ⟨b2,cap2,cur,rfl,_,hg2,_⟩
     ·simp [Value.ownBlock] at he
     simp only [Value.ownBlock,Option.some.injEq] at he
     subst he
     rw [hg2] at h1
     cases h1
    have hrsX:∀r∈wk.heap.size::rs,w8.heap.size<=r/\(W.setCells jb 154 (Xl (Z1 Ls)).toArray.toList).heap[r]? =some (.deferred (some [])):=fun r hr=>by
     rcases List.mem_cons.1 hr with rfl | hr
     ·exact ⟨hsz8,hsn.2.at hD (by simp;omega)⟩
     refine ⟨(hrsf r hr).1,hsn.2.at (frk.at (hrsk r hr).2 (fun hA=> ?_)) (by simp;have:=(hrsf r hr).1;omega)⟩
     rcases hA with rfl | hA
     ·have:=(hrsf r hr).1
      omega
     exact hevd r hr hA
    have hrnX:(wk.heap.size::rs).Nodup:=List.nodup_cons.2 ⟨fun hm=>by have:=(hrsk _ hm).1;omega,HRN.out⟩
    have hevX:ev2.ownBlock=ev.ownBlock\/∃x,ev2.ownBlock=some x/\w8.heap.size<=x:=by
     rcases hv2 with hv2 | ⟨x,hv2,hx⟩
     ·rw [hv2];exact HVB.out
     exact .inr ⟨x,hv2,by omega⟩
    have hleX:(es++U1 (J.many+1) (k:Int) kd L Ls).length<=J.es.length+153*(k+1):=by
     rw [List.length_append]
     have:=HLE.out
     have:=Zg1 (J.many+1) (k:Int) kd L Ls
     omega
    have heqX:=HEQ.out
    try simp only at heqX
    rw [<-List.append_assoc] at heqX
    have hnxX:=HNX.out
    have hhsX:=HHS.out
    try simp only at hnxX hhsX
    rw [hML,<-List.length_append] at ownX
    have hDoI:DoI w8 base jb q ev J l (k+1) Ls Bs (gk++[sg]) (es++U1 (J.many+1) (k:Int) kd L Ls) ev2 pf mf pbf gf (wk.heap.size::rs) (W.setCells jb 154 (Xl (Z1 Ls)).toArray.toList):=
     ⟨frX,hsn.1,macX,ownX,hevX,hnxX,heqX,hleX,hhsX,hrnX,hrsX⟩
    clear frX macX ownX hevX hnxX heqX hleX hhsX hrnX hrsX hsn kpk macW frk hr2 ho2 hv2 hI2 hjW k0W hD hit hmvb hI0
    go_wp2_with (first
     | (refine Zf rfl 97 _ _ _ rfl rfl ld97 ?_)
     | (refine Zeq rfl rfl 97 _ _ rfl jb 154 (Xl (Z1 Ls)).toArray rfl rfl htn (by rw [U2,List.size_toArray,Z3]) (Zd6 _) ?_
        generalize W.setCells jb 154 (Xl (Z1 Ls)).toArray.toList=WX at *))
    refine ⟨(HRel.out _ _).2 ⟨k+1,Ls,Bs,gk++[sg],es++U1 (J.many+1) (k:Int) kd L Ls,ev2,pf,mf,pbf,gf,wk.heap.size::rs,hDoI,?_⟩,by simp [intOf];omega⟩
    rfl
   case stop=>
    rintro cd W hF hD
    exact hF.elim
  have hk':k=l.length:=by have:=hI.at_.le;omega
  subst hk'
  have hn8:¬(l.length=0\/8<l.length):=fun hh=>by
   have h3:=HR.out
   rw [Zbf hh] at h3
   simp at h3
  have hdn:=hI.at_.done hn8
  rw [HR.out] at hdn
  simp only [Prod.mk.injEq] at hdn
  obtain ⟨⟨_,rfl,rfl⟩,rfl,rfl⟩:=hdn
  have heq:=hI.eq
  rw [List.drop_length,Zdh,List.append_nil] at heq
  have cm:=hI.row.cm
  have cf:=hI.row.free 0
  have kbj:Keep [jb] wr (wr.setCell ⟨jb,0,none⟩ (.pointer (some ⟨q2,0,none⟩))):=(Keep.refl _ _).setCell (Or.inl (by simp)) _
  have rowA:=hI.row.set_m (.pointer (some ⟨q2,0,none⟩))
  have h8a:=kbj.at h8r (by simp;omega)
  have k2a:=kbj.at k2r (by simp;omega)
  have ld6:=run_loadVar_row (P:=Tryz.prog) (wr.setCell ⟨jb,0,none⟩ (.pointer (some ⟨q2,0,none⟩))) w6.heap.size _ 38 _ _ _ h8a Tryz.underlying38 rfl (by kernel_rfl)
  have hFA:=hI.fr
  have hEV:=hI.own
  have hRN:=hI.rn
  have hRS:=hI.rs
  have hVB:=hI.evb
  clear hI k0r h8r
  go_wp2_with (first
   | (refine Zf rfl 38 _ _ _ rfl rfl ld6 ?_)
   | (refine Zg rfl rfl 38 _ _ rfl (w.heap.size+1+1) _ rfl rfl 38 _ k2a (by kernel_rfl) (by rfl) (by rfl) ?_
      intro w9 hb9 ho9 h9))
  have kz:Keep [w.heap.size+1+1] (wr.setCell ⟨jb,0,none⟩ (.pointer (some ⟨q2,0,none⟩))) w9:=by
   have kz:=hb9 0 _ (Nat.zero_le _) (Below.refl 0 _)
   exact ⟨kz.os,kz.tape,kz.output,kz.size,fun k _ hk=>ho9 k (by simpa using hk)⟩
  have hjd:jdo l J={ J with many:=J.many+1,es:=es,L:=L3,B:=B3 }:=by unfold jdo;rw [if_neg (by rw [HR.out];simp),HR.out,heq]
  have hsA:=kbj.size
  have hsZ:=kz.size
  have hnr:∀{x:Nat},x<w8.heap.size->x∉rs:=fun hx hm=>by have:=(hRS _ hm).1;omega
  refine Zma rs _ hRN (fun r hr=>kz.at (kbj.at (hRS r hr).2 (fun hm=>by simp at hm;have:=(hRS r hr).1;omega)) (fun hm=>by simp at hm;have:=(hRS r hr).1;omega)) fun W' kW=> ?_
  have hsW:=kW.size
  have F8:FrA (fun x=>(x=jb\/x=q\/ev.ownBlock=some x)\/x=w.heap.size+1+1) w8 W':=
   Zv (Zv (Zv (hFA.mono fun x hx=>.inl hx) kbj (fun x hx=>.inl (.inl (.inl (by simpa using hx))))) kz (fun x hx=>.inl (.inr (by simpa using hx)))) kW (fun x hx=>.inr (hRS x hx).1)
  have hevr:∀b,ev'.ownBlock=some b->b∉rs:=fun b hb2 hm=>by
   have h1:=(hRS b hm).2
   rcases hEV.2 with ⟨rfl,_⟩ | ⟨b2,cap2,cur,rfl,_,hg,_⟩
   ·simp [Value.ownBlock] at hb2
   simp only [Value.ownBlock,Option.some.injEq] at hb2
   subst hb2
   rw [hg] at h1
   cases h1
  have hevj:∀b,ev'.ownBlock=some b->b≠jb:=fun b hb2 he=>by
   subst he
   rcases hVB with hv | ⟨x,hv,hx⟩
   ·rw [hv] at hb2
    exact row8.ne_ev own8 hb2
   rw [hv] at hb2
   simp only [Option.some.injEq] at hb2
   omega
  have hevk:∀b,ev'.ownBlock=some b->b≠w.heap.size+1+1:=fun b hb2 he=>by
   subst he
   rcases hVB with hv | ⟨x,hv,hx⟩
   ·rw [hv] at hb2
    exact Yc own8 k2 (by decide) hb2
   rw [hv] at hb2
   simp only [Option.some.injEq] at hb2
   omega
  have own9:=U8 (A:=fun x=>x=jb) hEV ⟨kbj.os,kbj.tape,kbj.output,kbj.size,fun k hk hA=>kbj.block k hk (by simpa using hA)⟩ hevj
  have own10:=U8 (A:=fun x=>x=w.heap.size+1+1) own9 ⟨kz.os,kz.tape,kz.output,kz.size,fun k hk hA=>kz.block k hk (by simpa using hA)⟩ hevk
  have own11:=U8 (A:=fun x=>x∈rs) own10 ⟨kW.os,kW.tape,kW.output,kW.size,fun k hk hA=>kW.block k hk hA⟩ hevr
  have nxW:IsM W' q2 p3 m3 pb3 g3 L3 B3:=by
   refine nx8.keepOff (S:=([jb]++([q]++ev.ownBlock.toList))++[w.heap.size+1+1]) (F8.kp fun x hx=> ?_) (((Zjr row8).app ((offM_q mac8).app (Zrt own8))).app ?_) ?_
   ·rcases hx with (rfl | rfl | hx) | rfl
    ·simp
    ·simp
    ·simp [hx]
    simp
   ·intro x hx
    obtain rfl:x=w.heap.size+1+1:=by simpa using hx
    exact ⟨_,_,_,k2,by decide,by decide,by decide⟩
   intro hm
   simp only [List.mem_append,List.mem_singleton,Option.mem_toList] at hm
   rcases hm with (rfl | rfl | hm) | hm
   ·omega
   ·omega
   ·have:=(h.own.lt q2 hm).2
    omega
   omega
  refine ⟨_,Zji _ _ _ _ rfl (kW.at h9 (hnr (by omega))) rfl,?_⟩
  refine ⟨_,q2,p3,m3,pb3,g3,ev',by rw [HR.out],?_,?_,?_,.inr (by omega),?_⟩
  ·exact Zv (Zv (Zv (fr8.trans hFA) kbj (fun x hx=>.inl (.inl (by simpa using hx)))) kz (fun x hx=>by simp at hx;right;omega)) kW (fun x hx=>.inr (by have:=(hRS x hx).1;have:=fr8.size;omega))
  ·rw [HR.out]
   exact (sg8.fra2 F8 (fun x hx=>by
    left
    rcases hx with (rfl | rfl | hx) | rfl
    ·omega
    ·omega
    ·have:=(h.own.lt x hx).2
     omega
    omega)).low (by omega)
  ·rw [hjd]
   exact ⟨kW.at (kz.at rowA (by simp;omega)) (hnr (by omega)),nxW,own11⟩
  rcases hVB with hv | ⟨x,hv,hx⟩
  ·exact .inl hv
  exact .inr ⟨x,hv,by omega⟩
 have he':(er !=0)=true:=by simpa using he
 go_wp2_with (first
  | (refine Zm rfl 38 rfl (.cells #[.int .i64 0,.int .i64 0,.slice none 0 0] 38) _ rfl (by go_simp) ?_
     intro w7 e7 h7)
  | (refine Zg rfl rfl 38 _ _ rfl w6.heap.size _ rfl rfl 38 _ h7 (by kernel_rfl) (by rfl) (by rfl) ?_
     intro w8 hb8 ho8 h8
     have z0:w8.cell? ⟨w6.heap.size,0,none⟩=_:=Za (j:=0) h8 rfl
     have ld6:=run_loadVar_row (P:=Tryz.prog) w8 w6.heap.size _ 38 _ _ _ h8 Tryz.underlying38 rfl (by kernel_rfl)
     have e68:Ext w6 w8:=hb8 _ _ (Nat.le_refl _) e7
     have e48:=Xt e46 e68
     have row8:=row4.ext e48
     have mac8:=mac4.ext e48
     have own8:=Zq own4 e48
     have ha8:=ha4.ext e48
     have k0:=e48.at k0
     have k1:=e48.at k1
     have k2:=e48.at k2
     have nx8:=nx6.ext e68
     have sg8:=sg6.ext e68
     have fr8:=fr4.trans (FrA.of_ext e48)
     have hs48:=e48.size
     have hs56:=e46.size
     have hs68:=e68.size
     have hs5:=e5.size
     have hlt8:=Ze h8
     clear row4 mac4 own4 ha4 nx6 sg6 fr4 e48 e46 e5 hb8 ho8 h7 e7
     )
  | (refine Zf rfl 38 _ _ _ rfl rfl ld6 ?_)
  | (refine Zg rfl rfl 38 _ _ rfl (w.heap.size+1+1) _ rfl rfl 38 _ k2 (by kernel_rfl) (by rfl) (by rfl) ?_
     intro w9 hb9 ho9 h9))
 have kz:Keep [w.heap.size+1+1] w8 w9:=by
  have kz:=hb9 0 w8 (Nat.zero_le _) (Below.refl 0 w8)
  exact ⟨kz.os,kz.tape,kz.output,kz.size,fun k _ hk=>ho9 k (by simpa using hk)⟩
 have hfr:FrA (fun x=>x=w.heap.size+1+1) w8 w9:=⟨kz.os,kz.tape,kz.output,kz.size,fun k hk hA=>kz.block k hk (by simpa using hA)⟩
 have hof:Zn8 w8 [w.heap.size+1+1]:=fun x hx=>by
  obtain rfl:x=w.heap.size+1+1:=by simpa using hx
  exact ⟨_,_,_,k2,by decide,by decide,by decide⟩
 have hjd:jdo l J={ J with many:=J.many+1 }:=by unfold jdo;rw [if_pos (by rw [HR.out];exact he)]
 refine ⟨_,Zji _ _ _ _ rfl h9 rfl,_,q,p,m,pb,g,ev,by rw [HR.out],Zv fr8 kz (fun x hx=>by simp at hx;right;omega),?_,?_,.inl rfl,.inl rfl⟩
 ·rw [HR.out]
  exact (sg8.fra2 hfr (fun x hx=>by omega)).low (by omega)
 rw [hjd]
 exact ⟨kz.at row8 (by simp;omega),mac8.keepOff kz hof (by simp;omega),U8 own8 hfr (fun b hb2 he2=>by subst he2;exact Yc own8 k2 (by decide) hb2)⟩
end Go.Proofs.YtipjchbdogmccaaGreat
