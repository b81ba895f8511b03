/- The best offers of two currencies: Best. The best offers: All, the sort, Best. -/
import Derived.Test.YtipjchbdogmccaaGreatCmpD
import Derived.Test.YtipjchbdogmccaaGreatSortW
import Derived.Test.YtipjchbdogmccaaGreatSort
import Derived.Test.YtipjchbdogmccaaGreatBk
import Derived.Deep.MidRow
import Derived.OwnWalk
set_option maxHeartbeats 3200000
set_option maxRecDepth 100000
namespace Go.Proofs.YtipjchbdogmccaaGreat
open Go.RowKit Go.Rg Go.BigFrame
def SeqB (l:List Off):Prop:=∀x∈l,∀y∈l,x.seq=y.seq->x=y
theorem clipO_any (base n:Nat) (v:Value) (xs:List Value) (w:World) (h:Zn w base 7 v n xs):Calls Tryz.prog 107 #[v] w (fun e w'=>∃v',e= .returned v'/\w'=w/\Zn w' base 7 v' n xs):=by
 obtain ⟨A,cap,rfl,h1,h2,h3,h4⟩:=h
 rcases h4 with rfl | ⟨g,rfl,hb,hlt,hc⟩
 ·cases A
  rotate_left
  focus rename_i a
  all_goals
   go_enter Tryz.func107,Tryz.ntmps107
   go_wp2
   go_ret
   exact ⟨_,rfl,rfl,_,_,rfl,Nat.le_refl _,by unfold maxLen;omega,h3,.inl rfl⟩
 have hn63:(n:Int)<=9223372036854775807:=by unfold maxLen at h2;omega
 go_enter Tryz.func107,Tryz.ntmps107
 go_wp2
 go_ret
 exact ⟨_,rfl,rfl,_,_,rfl,Nat.le_refl _,Nat.le_trans h1 h2,h3,.inr ⟨g,rfl,hb,hlt,hc⟩⟩
def RetOffs (l:List Off) (w:World) (e:Ending) (w':World):Prop:=∃v,e= .returned v/\Ext w w'/\Zhk w' w.heap.size v l
theorem Zpw (p:Nat) (g:Option Nat) (B:Bk) (w:World) (h:IsBook w p g B):Calls Tryz.prog 57 #[.pointer (some ⟨p,0,none⟩)] w (RetOffs B.offs w):=by
 go_enter Tryz.func57,Tryz.ntmps57
 go_wp2_with fail
 refine (V1 p g B _ h).mono ?_
 rintro e w2 ⟨rfl,e2⟩
 have h2:=h.ext e2
 obtain ⟨v,c0,hv,hown⟩:=h2.cell0
 obtain ⟨A,cap,rfl⟩:=Z7 hown
 have hcl:=Zep 0 _ B.offs w2 (Zn.of_own hown) (by have:=h.few;omega)
 go_wp2_with fail
 refine hcl.mono ?_
 rintro e w3 ⟨v3,rfl,e3,hown3⟩
 go_wp2_with fail
 refine (clipO_any w2.heap.size _ _ _ _ (Zn.of_own hown3)).mono ?_
 rintro e w4 ⟨v4,rfl,rfl,hs4⟩
 go_wp2
 go_ret
 obtain ⟨A2,cap2,q0,q1,q2,q3,q4⟩:=hs4
 have s2:=e2.size
 refine ⟨_,rfl,Xt e2 e3,A2,cap2,q0,q1,q2,q3,?_⟩
 rcases q4 with q4 | ⟨g',q4,q5,q6⟩
 ·exact .inl q4
 exact .inr ⟨g',q4,by omega,q6⟩
theorem Ud {α:Type} [Inhabited α] {lt:α->α->Bool} {d:Array α} (h:Go.Sort.SortedIn lt 0 d.size d):d.toList.Pairwise (fun a b=>lt b a=false):=by
 rw [List.pairwise_iff_getElem]
 intro i j hi hj hij
 have hj':j<d.size:=by simpa using hj
 have hi':i<d.size:=by simpa using hi
 have:=h i j (Nat.zero_le _) hij hj'
 rw [getElem!_pos d j hj',getElem!_pos d i hi'] at this
 simpa using this
theorem sort_any (base:Nat) (v:Value) (l:List Off) (w:World) (hr:∀o∈l,X1 o) (hs:SeqB l) (hl:l.length<=64) (hown:w.ownsRow base 339 7 v l.length (Zi l)):
 Calls Tryz.prog 223 #[v,.func (.func 224) #[] #[]] w fun e w'=>e= .returned (.tuple #[])/\Keep v.ownBlock.toList w w'/\w'.ownsRow base 339 7 v l.length (Zi (Jb ltO l)):=by
 rcases hown.2 with ⟨rfl,h0⟩ | ⟨g,cap,cur,rfl,hb,hg,hc1,hc2,hsz,htake⟩
 ·have:l=[]:=List.eq_nil_of_length_eq_zero h0
  subst this
  refine (AnyF.slices_SortFunc_none Tryz.sortRanked none 0 (.func (.func 224) #[] #[]) w).mono ?_
  rintro e w' ⟨rfl,rfl⟩
  exact ⟨rfl,Keep.refl _ _,hown⟩
 cases hle:l with
 | nil=>
   subst hle
   refine (AnyF.slices_SortFunc_none Tryz.sortRanked (some ⟨g,0,none⟩) cap (.func (.func 224) #[] #[]) w).mono ?_
   rintro e w' ⟨rfl,rfl⟩
   exact ⟨rfl,Keep.refl _ _,hown⟩
 | cons o0 l0=>
   rw [<-hle]
   have:Inhabited {o:Off // o∈l}:=⟨⟨o0,by rw [hle];simp⟩⟩
   have hin:∀o∈l,o.num<=9223372036854775807/\o.den<=9223372036854775807:=by
    intro o ho
    have:=hr o ho
    unfold X1 Xl at this
    rw [decide_eq_true_eq] at this
    omega
   have hO:Go.Sort.SWO (ltOf fun x y:{o:Off // o∈l}=>Zr2 x.1 y.1):=
    { irrefl:=fun x=>Zqz x.1 (hr _ x.2)
      trans:=fun x y z h1 h2=>ltO_trans x.1 y.1 z.1 (hr _ x.2) (hr _ y.2) (hr _ z.2) h1 h2
      ntrans:=fun x y z h1 h2=>Zej x.1 y.1 z.1 (hr _ x.2) (hr _ y.2) (hr _ z.2) h1 h2 }
   have hcells:l.attach.flatMap (fun x:{o:Off // o∈l}=>x.1.cells)=Zi l:=by
    unfold Zi
    rw [<-List.flatMap_map (f:=fun x:{o:Off // o∈l}=>x.1) (g:=Off.cells),List.attach_map_subtype_val]
   have hsz':l.attach.toArray.size=l.length:=by simp
   have hH:=Zgi (fun x:{o:Off // o∈l}=>x.1.cells) 7 (fun _=>rfl) w g cur 339 l.attach.toArray hg (by rw [hsz',List.toList_toArray,hcells];exact htake) (by rw [hsz',hsz];omega)
   have hcall:=AnyQ.slices_SortFunc Tryz.sortRanked 7 Tryz.isAgg339 Tryz.sizeOf339 (fun x:{o:Off // o∈l}=>x.1.cells) (fun _=>rfl) (fun x v hv=>by
    simp only [Off.cells,List.mem_cons,List.not_mem_nil,or_false] at hv
    rcases hv with rfl | rfl | rfl | rfl | rfl | rfl | rfl<;>rfl) (fun x y=>Zr2 x.1 y.1) hO 224 #[] g 0 cap l.attach.toArray w (enters_of Tryz.func224 (by kernel_rfl) rfl)
    (D.cmpLays l hin g _ w) hH (Zg hg) (by rw [hsz'];omega)
   rw [hsz'] at hcall
   refine hcall.mono ?_
   rintro e w' ⟨rfl,d',n,os,hp,hso,rfl⟩
   have hps:d'.size=l.length:=by rw [hp.1];simp
   have hperm:d'.toList.Perm l.attach:=by
    have h1:=hp.2.2
    have e1:d'.extract 0 l.length=d':=by rw [<-hps];simp
    have e2:l.attach.toArray.extract 0 l.length=l.attach.toArray:=by
     have:l.length=l.attach.toArray.size:=hsz'.symm
     rw [this,Array.extract_size]
    rw [e1,e2] at h1
    simpa using h1
   have hlist:d'.toList.map (fun x=>x.1)=Jb ltO l:=by
    have p1:(d'.toList.map (fun x:{o:Off // o∈l}=>x.1)).Perm l:=by
     have:=hperm.map (fun x:{o:Off // o∈l}=>x.1)
     rwa [List.attach_map_subtype_val] at this
    refine Zbw _ _ (p1.trans (X4 ltO l).symm) ?_ (Uq (p:=X1) Zls Zej l hr) ?_
    ·rw [<-hps] at hso
     have:=Ud hso
     rw [List.pairwise_map]
     exact this
    intro x hx y hy h1 h2
    have hx':=p1.subset hx
    have hy':=p1.subset hy
    exact hs x hx' y hy' (ltO_total (hr x hx') (hr y hy') h1 h2)
   obtain ⟨k1,cur',h1,h2,h3⟩:=Zcg (fun x:{o:Off // o∈l}=>x.1.cells) 7 (fun _=>rfl) w g n cur 339 d' os hg (by rw [hps,hsz];omega)
   refine ⟨rfl,k1,by rw [Yj,(X4 ltO l).length_eq],.inr ⟨g,cap,cur',rfl,hb,h1,hc1,hc2,by rw [h2,hsz],?_⟩⟩
   rw [<-hps,h3,<-hlist]
   unfold Zi
   rw [List.flatMap_map]
theorem Zn6:(Tryz.prog.info? 339).map (fun i=>(i.zero,i.size,i.bytes))=some (some Zw.agg,7,40):=by kernel_rfl
section
variable {P:Program}
theorem Zhm {ops:Array Oper} {rest:List Oper} {o:Oper} {a:Act} {w:World} {Q:Exit->Act->World->Prop} (hgd:o.guard=none) (hd:o.dst=none) (ty:TypeId) (x y:Operand) (hop:o.op= .store ty x y)
 (g off:Nat) (cells:Array Value) (hx:a.eval x= .pointer (some ⟨g,off,none⟩)) (hy:a.eval y= .agg cells) (t:TypeId) (cur:Array Value) (hg:w.heap[g]? =some (.cells cur t (0,0)))
 (hi:(P.info? ty).map (·.size)=some cells.size) (hle:off+cells.size<=cur.size) (h1:∀v∈cells.toList,v.oneCell'=true)
 (h:wpList P ops Q rest a (w.setRow g (cur.toList.take off++cells.toList++cur.toList.drop (off+cells.size)).toArray)):wpList P ops Q (o::rest) a w:=
 wpList_plain hgd fun K hK=>by
  have hs:=run_storeCells_at (P:=P) g off t cells.toList 0 cur w hg (by simpa using hle) h1
  have hrun:(storeVar ty ⟨g,off,none⟩ (.agg cells)).run P w= .ok () (w.setRow g (cur.toList.take off++cells.toList++cur.toList.drop (off+cells.size)).toArray):=by
   cases hq:P.info? ty with
   | none=>simp [hq] at hi
   | some i=>
     have hsz:cells.size=i.size:=by simp [hq] at hi;omega
     simp only [Nat.add_zero,Array.length_toList] at hs
     simp [storeVar,sizeOf,typeInfo,hq,Value.cells,hsz,hs]
  unfold Oper.wp execOp
  simp only [hop,hx,hy,Instr.storeAt,Instr.sureAddr,Sem.run_bind,Sem.run_pure,Result.andThen_ok,hrun]
  have hk:=hK _ _ h
  show K (a.put o.dst undef) _
  rw [hd]
  exact hk
end
theorem Zor (w:World) (g k:Nat) (l:List Off) (hk:k<l.length) (h:∀j u,(Zi l)[j]? =some u->w.cell? ⟨g,j,none⟩=some u):
 (loadVar 339 ⟨g,k*7,none⟩).run Tryz.prog w= .ok (l[k]'hk).agg w:=
 Zs w g (k*7) 339 (l[k]'hk).cells _ (fun j u hu=>by
  have hj:j<7:=(List.getElem?_eq_some_iff.1 hu).1
  exact h _ _ ((Y7 l k j hk hj).trans hu)) Tryz.underlying339 rfl (by kernel_rfl)
theorem Uv (w:World) (cs:List Value) (t:TypeId):∀j u,cs[j]? =some u->(w.alloc (.cells cs.toArray t)).cell? ((⟨w.heap.size,0,none⟩:Addr).add j)=some u:=fun j u hu=>by
 rw [Addr.add_mid,Nat.zero_add]
 exact Za (Zb _ _) (by simpa using hu)
theorem Zpd {α:Type} (F:α->Bool) (l:List α) (k:Nat) (hk:k<l.length):(l.take (k+1)).filter F=(l.take k).filter F++(if F (l[k]'hk) then [l[k]'hk] else []):=by
 rw [List.take_succ_eq_append_getElem hk,List.filter_append]
 congr 1
 cases h:F (l[k]'hk)<;>simp [h]
theorem Xk (l m:List Off):Zi (l++m)=Zi l++Zi m:=by unfold Zi;rw [List.flatMap_append]
theorem Zpu (p:Nat) (g:Option Nat) (B:Bk) (sell buy:Int) (w:World) (h:IsBook w p g B) (hok:∀o∈B.offs,Xr o=true) (hsq:SeqB B.offs):
 Calls Tryz.prog 176 #[.pointer (some ⟨p,0,none⟩),.int .u8 sell,.int .u8 buy] w (Zsg (X0 B.offs sell buy) w):=by
 obtain ⟨i0,hi,hz0,hz1,hz2⟩:=info_parts Zn6
 obtain ⟨i1,hi1,hy0,hy1,hy2⟩:=info_parts Zbi
 have hal:=Zpw p g B w h
 have hfew:=h.few
 have hro:∀o∈B.offs,X1 o:=fun o ho=>by
  have h3:=hok o ho
  unfold Xr at h3
  rw [decide_eq_true_eq] at h3
  exact h3.2.2.2.2.2.2.2.2.2
 obtain ⟨F,hF⟩:∃F:Off->Bool,F=fun o=>o.sell==sell&&o.buy==buy:=⟨_,rfl⟩
 have hbr:X0 B.offs sell buy=Jb ltO (B.offs.filter F):=by rw [hF];rfl
 rw [hbr]
 have HF:=Lib.hid hF
 clear hbr hF h hok
 generalize B.offs=l at *
 go_enter Tryz.func176,Tryz.ntmps176
 go_wp2_with fail
 refine hal.mono ?_
 rintro e w1 ⟨v1,rfl,e1,hsl⟩
 obtain ⟨A,cap,rfl,q1,q2,q3,q4⟩:=hsl
 clear hal
 have hn63:(l.length:Int)<=9223372036854775807:=by omega
 go_wp2
 go_loopw [7,16] (fun v i wr=>∃(k:Nat) (ao:Option Addr) (cv:Nat),k<=l.length/\i= .int .i64 k/\v= .slice ao ((l.take k).filter F).length cv/\wr.ownsRow w1.heap.size 339 7 v ((l.take k).filter F).length (Zi ((l.take k).filter F))/\Below w1.heap.size w1 wr)
  (fun _ i _=>l.length-(intOf i).toNat)
 case atStart=>exact ⟨0,none,0,Nat.zero_le _,rfl,rfl,World.ownsRow_nil _ _ _ _,Below.refl _ _⟩
 obtain ⟨k,ao,cv,hk,rfl,rfl,hown,hnx⟩:=hrel
 have hsize:=hnx.size
 by_cases hkn:k<l.length
 focus
  rcases q4 with q4 | ⟨ga,rfl,hba,hlta,hca⟩
  ·omega
  focus
   have hld:=Zbn wr ga k l hkn (fun j u hu=>by rw [Zf (hnx.block ga hlta)];exact hca j u hu)
   have htk:=Zpd F l k hkn
   have hfl:((l.take k).filter F).length<=32:=Nat.le_trans (List.length_filter_le _ _) (Nat.le_trans (List.length_take_le _ _) (by omega))
   have hFo:F (l[k]'hkn)=((l[k]'hkn).sell==sell&&(l[k]'hkn).buy==buy):=by rw [HF.out]
   generalize (l[k]'hkn)=o at *
   obtain ⟨o0,o1,o2,o3,o4,o5,o6⟩:=o
   simp only [Off.agg] at hld
   have hz6:=Zb wr (.cells #[.int .u64 0,.int .u8 0,.int .u8 0,.int .u8 0,.int .i64 0,.int .i64 0,.int .i64 0] 153)
   have ez6:=Zc wr (.cells #[.int .u64 0,.int .u8 0,.int .u8 0,.int .u8 0,.int .i64 0,.int .i64 0,.int .i64 0] 153)
   clear hca
   cases hs1:(o2==sell)
   focus have HT:=Lib.hid (show (l.take (k+1)).filter F=(l.take k).filter F by rw [htk,hFo,hs1];simp)
   rotate_left
   focus
    cases hs2:(o3==buy)
    focus have HT:=Lib.hid (show (l.take (k+1)).filter F=(l.take k).filter F by rw [htk,hFo,hs1,hs2];simp)
    rotate_left
    ·have HT:=Lib.hid (show (l.take (k+1)).filter F=(l.take k).filter F++[⟨o0,o1,o2,o3,o4,o5,o6⟩] by rw [htk,hFo,hs1,hs2];simp)
     clear htk hFo
     have hlen7:=Yj ((l.take k).filter F)
     go_wp2_with (first
      | (refine Zd rfl 153 _ _ _ rfl rfl hld ?_)
      | (refine Ze rfl rfl 153 _ _ rfl wr.heap.size _ rfl rfl 153 _ hz6 (by kernel_rfl) (by rfl) (by rfl) ?_
         intro w6 hb6 _ hs6
         have e6:Ext wr w6:=hb6 _ _ (Nat.le_refl _) ez6
         have s6:=e6.size
         have c0:=Za (j:=0) hs6 rfl
         have c1:=Za (j:=1) hs6 rfl
         have c2:=Za (j:=2) hs6 rfl
         have c3:=Za (j:=3) hs6 rfl
         have c4:=Za (j:=4) hs6 rfl
         have c5:=Za (j:=5) hs6 rfl
         have c6:=Za (j:=6) hs6 rfl)
      | (at_builtin;refine wpList_append_own _ rfl _ _ 338 rfl w1.heap.size 339 i0 Zw.agg 7 40 Tryz.underlying338 hi hz0 hz1 hz2 rfl (by decide) _ _ _ rfl ((Zo hown e6).alloc _) ⟨w6.heap.size,0,none⟩ 1 1 (Off.cells ⟨o0,o1,o2,o3,o4,o5,o6⟩) rfl rfl (Uv w6 (Off.cells ⟨o0,o1,o2,o3,o4,o5,o6⟩) _) (fun x hx=>by simp only [Off.cells,List.mem_cons,List.not_mem_nil,or_false] at hx;rcases hx with rfl | rfl | rfl | rfl | rfl | rfl | rfl<;>rfl) (by unfold maxLen;omega) (by omega) (by simp;omega) ?_;intro v' w7 hown' hgrow7 hnil7))
     obtain ⟨g3,cap3,hv3⟩:∃g3 cap3,v'= .slice (some ⟨g3,0,none⟩) (((l.take k).filter F).length+1) cap3:=by
      rcases hown'.2 with ⟨_,h⟩ | ⟨g3,cap3,_,h,_⟩
      ·omega
      exact ⟨g3,cap3,h⟩
     have hb7:=((hnx.trans (Below.mono e6 hnx.size)).alloc (by omega) (.cells (Off.cells ⟨o0,o1,o2,o3,o4,o5,o6⟩).toArray 339)).grown hgrow7 (by simp;omega) (fun q hq=>(hown.lt q hq).1)
     refine ⟨⟨k+1,some ⟨g3,0,none⟩,cap3,by omega,by go_num,by rw [hv3,HT.out];simp,?_,hb7⟩,by simp [intOf];omega⟩
     rw [HT.out,Xk,List.length_append]
     have:Zi [⟨o0,o1,o2,o3,o4,o5,o6⟩]=Off.cells ⟨o0,o1,o2,o3,o4,o5,o6⟩:=by simp [Zi]
     rw [this]
     exact hown'
 rotate_left 2
 ·have hk':k=l.length:=by omega
  subst hk'
  rw [List.take_length] at hown
  rw [List.take_length]
  clear q4
  have hfl:(l.filter F).length<=32:=Nat.le_trans (List.length_filter_le _ _) (by omega)
  have hso:=sort_any w1.heap.size _ (l.filter F) wr (fun o ho=>hro o (List.mem_filter.1 ho).1) (fun x hx y hy hxy=>hsq x (List.mem_filter.1 hx).1 y (List.mem_filter.1 hy).1 hxy) (by omega) hown
  have hSl:(Jb ltO (l.filter F)).length=(l.filter F).length:=(X4 _ _).length_eq
  have hE0:Keep [] w wr:=Kx (Xt e1 hnx)
  have hs1:=e1.size
  have hlo:=fun q hq=>(hown.lt q hq).1
  clear hown hro hsq HF
  generalize Jb ltO (l.filter F)=S at *
  generalize l.filter F=fl at *
  go_wp2_with fail
  refine hso.mono ?_
  rintro e w8 ⟨rfl,k8,hown8⟩
  have hsl8:=Zn.of_own hown8
  obtain ⟨A8,cap8,hv8,r1,r2,r3,r4⟩:=hsl8
  injection hv8 with hv8 _ hv9
  subst hv8 hv9
  have hE8:Keep [] w w8:=Keep.trans_fresh hE0 k8 (fun x hx=>by right;have:=hlo x (by simpa using hx);omega)
  clear hso hE0 hown8 k8
  go_wp2_with (at_make;refine wpList_make_full _ rfl _ _ 45 rfl w8.heap.size 153 i1 Zw.agg 7 Tryz.underlying45 hi1 hy0 hy1 _ _ _ _ fl.length rfl rfl rfl rfl (by rw [hy2];omega) (by unfold maxLen;omega) (Nat.le_refl _) ?_;intro w9 hown9 hg9)
  obtain ⟨cur9,hc9,hz9⟩:∃cur,w9.heap[w8.heap.size]? =some (.cells cur 153 (0,0))/\cur.size=fl.length*7:=by
   rcases hown9.2 with ⟨hh,_⟩ | ⟨g',cap',cur',hh,_,hh2,_,_,hsz,_⟩
   ·simp at hh
   injection hh with a1 a2 a3
   injection a1 with a1
   injection a1 with a1
   subst a1 a3
   exact ⟨cur',hh2,hsz⟩
  have e9:Ext w8 w9:=(Below.refl w8.heap.size w8).grown hg9 (Nat.le_refl _) (by simp)
  have hE9:Keep [] w w9:=hE8.trans (Kx e9)
  have hs8:=hE8.size
  clear hown9 hg9
  go_loopw [42] (fun i wr2=>∃k:Nat,k<=fl.length/\i= .int .i64 k/\(∃cur,wr2.heap[w8.heap.size]? =some (.cells cur 153 (0,0))/\cur.size=fl.length*7/\cur.toList.take (k*7)=Zi (S.take k))/\Keep [w8.heap.size] w9 wr2) (fun i _=>fl.length-(intOf i).toNat)
  case atStart=>exact ⟨0,Nat.zero_le _,rfl,⟨cur9,hc9,hz9,by simp [Zi]⟩,Keep.refl _ _⟩
  obtain ⟨k,hk,rfl,⟨cur,hc,hz,ht⟩,k2⟩:=hrel
  have hfn63:(fl.length:Int)<=9223372036854775807:=by omega
  by_cases hkn:k<fl.length
  ·rcases r4 with r4 | ⟨gs,rfl,hbs,hlts,hcs⟩
   ·omega
   have hkS:k<S.length:=by omega
   have hcw:∀j u,(Zi S)[j]? =some u->wr.cell? ⟨gs,j,none⟩=some u:=fun j u hu=>by
    rw [Zf ((k2.block gs (by have:=e9.size;omega) (by simp;omega)).trans (e9.block hlts))];exact hcs j u hu
   have hld:=Zor wr gs k S hkS hcw
   have htk:Zi (S.take (k+1))=Zi (S.take k)++(S[k]'hkS).cells:=by rw [List.take_succ_eq_append_getElem hkS,Xk];simp [Zi]
   have HT:=Lib.hid htk
   have HTK:=Lib.hid ht
   clear htk ht hcs hcw
   generalize (S[k]'hkS)=o at *
   obtain ⟨o0,o1,o2,o3,o4,o5,o6⟩:=o
   simp only [Off.agg] at hld
   have hz6:=Zb wr (.cells #[.int .u64 0,.int .u8 0,.int .u8 0,.int .u8 0,.int .i64 0,.int .i64 0,.int .i64 0] 339)
   have ez6:=Zc wr (.cells #[.int .u64 0,.int .u8 0,.int .u8 0,.int .u8 0,.int .i64 0,.int .i64 0,.int .i64 0] 339)
   go_wp2_with (first
    | (refine Zd rfl 339 _ _ _ rfl rfl hld ?_)
    | (refine Ze rfl rfl 339 _ _ rfl wr.heap.size _ rfl rfl 339 _ hz6 (by kernel_rfl) (by rfl) (by rfl) ?_
       intro w10 hb10 _ hs10
       have e10:Ext wr w10:=hb10 _ _ (Nat.le_refl _) ez6
       have c0:=Za (j:=0) hs10 rfl
       have c1:=Za (j:=1) hs10 rfl
       have c2:=Za (j:=2) hs10 rfl
       have c3:=Za (j:=3) hs10 rfl
       have c4:=Za (j:=4) hs10 rfl
       have c5:=Za (j:=5) hs10 rfl
       have c6:=Za (j:=6) hs10 rfl
       have hc10:=e10.at hc)
    | (refine Zhm rfl rfl 153 _ _ rfl w8.heap.size (k*7) #[.int .u64 o0,.int .u8 o1,.int .u8 o2,.int .u8 o3,.int .i64 o4,.int .i64 o5,.int .i64 o6] rfl rfl 153 cur hc10 (by kernel_rfl) (by show k*7+7<=cur.size;omega) (fun u hu=>by simp at hu;rcases hu with rfl | rfl | rfl | rfl | rfl | rfl | rfl<;>rfl) ?_))
   refine ⟨⟨k+1,by omega,by go_num,⟨_,setRow_heap _ _ _ _ _ _ hc10,?_,?_⟩,k2.trans ((Kx e10).trans ⟨rfl,rfl,rfl,by simp [World.setRow],fun i _ hi=>setRow_other _ _ _ _ (by simpa using hi)⟩)⟩,by simp [intOf];omega⟩
   ·simp;omega
   have hl1:(cur.toList.take (k*7)++(#[Value.int .u64 o0,.int .u8 o1,.int .u8 o2,.int .u8 o3,.int .i64 o4,.int .i64 o5,.int .i64 o6]:Array Value).toList).length=(k+1)*7:=by simp;omega
   have hq:=List.take_left' (l₂:=cur.toList.drop (k*7+7)) hl1
   rw [List.append_assoc] at hq
   refine hq.trans ?_
   rw [HT.out,HTK.out]
   rfl
  have hk':k=fl.length:=by omega
  subst hk'
  go_wp2
  go_ret
  refine ⟨_,rfl,(Keep.trans_fresh hE9 k2 (fun x hx=>by right;simp at hx;omega)).ext,?_⟩
  rw [hSl]
  refine ⟨by rw [Yj,hSl],.inr ⟨_,_,cur,rfl,by omega,hc,Nat.le_refl _,by unfold maxLen;omega,hz,?_⟩⟩
  rw [ht,<-hSl,List.take_length]
 all_goals
  clear htk hFo
  have hsell:=hs1
  go_wp2_with (first
   | (refine Zd rfl 153 _ _ _ rfl rfl hld ?_)
   | (refine Ze rfl rfl 153 _ _ rfl wr.heap.size _ rfl rfl 153 _ hz6 (by kernel_rfl) (by rfl) (by rfl) ?_
      intro w6 hb6 _ hs6
      have e6:Ext wr w6:=hb6 _ _ (Nat.le_refl _) ez6
      have c0:=Za (j:=0) hs6 rfl
      have c1:=Za (j:=1) hs6 rfl
      have c2:=Za (j:=2) hs6 rfl
      have c3:=Za (j:=3) hs6 rfl
      have c4:=Za (j:=4) hs6 rfl
      have c5:=Za (j:=5) hs6 rfl
      have c6:=Za (j:=6) hs6 rfl))
  exact ⟨⟨k+1,ao,cv,by omega,by go_num,by rw [HT.out],by rw [HT.out];exact Zo hown e6,hnx.trans (Below.mono e6 hnx.size)⟩,by simp [intOf];omega⟩
end Go.Proofs.YtipjchbdogmccaaGreat
