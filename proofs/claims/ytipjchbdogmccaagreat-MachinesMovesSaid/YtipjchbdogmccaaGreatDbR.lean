/- Debts that go round, walked: all that goes round. Debts that go round, walked: all that goes round these parties. Debts that go round, walked: the least that is left of them. -/
import Derived.Test.YtipjchbdogmccaaGreatDb
import Derived.Laws.MakeOwn
import Derived.OwnWalk
import Derived.Deep.MidRow
set_option maxHeartbeats 12800000
set_option maxRecDepth 100000
namespace Go.Rg
open Go.RowKit
section
variable {P:Program} {ops:Array Oper} {Q:Exit->Act->World->Prop} {rest:List Oper} {o:Oper} {a:Act} {w:World}
theorem Zbg (hg:o.guard=none) (l c:Operand) (t:TypeId) (hop:o.op=Op.makeSlice t l c) (base:Nat) (e:TypeId) (i:TypeInfo) (z:Value) (size:Nat) (h1:P.underlying t=some (.slice e)) (h2:P.info? e=some i) (h3:i.zero=some z) (h4:i.size=size)
 (kl kc:IntKind) (n:Nat) (hl:a.eval l= .int kl n) (hc:a.eval c= .int kc n) (b2:i.bytes*n<=281474976710656) (b3:n<=maxLen) (b4:base<=w.heap.size) (xs:List Value) (hx:(madeCells z.cells (n*size)).toList=xs)
 (h:∀w',Ext w w'->w.heap.size<w'.heap.size->w'.ownsRow base e size (.slice (some ⟨w.heap.size,0,none⟩) n n) n xs->wpList P ops Q rest (a.put o.dst (.slice (some ⟨w.heap.size,0,none⟩) n n)) w'):wpList P ops Q (o::rest) a w:=
 wpList_plain hg fun K hK=>by
  have hrun:=run_make (P:=P) w t e i z h1 h2 h3 kl kc n n (by omega) (by omega) (by
   have h:((i.bytes*n:Nat):Int)<=281474976710656:=by omega
   rwa [Int.natCast_mul] at h) (by unfold maxLen at b3;omega)
  rw [h4] at hrun
  simp only [Int.toNat_natCast] at hrun
  unfold Oper.wp execOp
  simp only [hop,hl,hc,hrun,Sem.run_bind,Sem.run_pure,Result.andThen_ok]
  refine hK _ _ (h _ (Zc _ _) (by rw [size_alloc];omega) ⟨?_,.inr ⟨w.heap.size,n,_,rfl,b4,Zb _ _,Nat.le_refl _,b3,by rw [size_madeCells],?_⟩⟩)
  ·rw [<-hx,Array.length_toList,size_madeCells]
  rw [List.take_of_length_le (by rw [Array.length_toList,size_madeCells];exact Nat.le_refl _),hx]
theorem Zh6 (hgd:o.guard=none) (hd:o.dst=none) (ty:TypeId) (x y:Operand) (hop:o.op= .store ty x y) (b off:Nat) (cells:Array Value) (hx:a.eval x= .pointer (some ⟨b,off,none⟩)) (hy:a.eval y= .agg cells)
 (ht:w.there b off cells.size) (hi:(P.info? ty).map (·.size)=some cells.size) (h1:cells.all (·.oneCell')=true) (h:wpList P ops Q rest a (w.setCells b off cells.toList)):wpList P ops Q (o::rest) a w:=
 wpList_plain hgd fun K hK=>by
  unfold Oper.wp execOp
  simp only [hop,hx,hy,Instr.storeAt,Instr.sureAddr,Sem.run_bind,Sem.run_pure,Result.andThen_ok,run_storeVar_mid w b off ty cells ht hi h1,Oper.upon]
  rw [hd]
  exact hK _ _ h
end
theorem made2 (a b:Value) (n:Nat):(madeCells #[a,b] (n*2)).toList=(List.replicate n [a,b]).flatten:=by
 induction n with
 | zero=>simp [madeCells]
 | succ n ih=>
   rw [List.replicate_succ',List.flatten_append,<-ih,show (n+1)*2=n*2+1+1 by omega]
   unfold madeCells
   rw [Array.range_succ,Array.range_succ]
   simp
theorem Uy (a:Value) (n:Nat):(madeCells #[a] (n*1)).toList=List.replicate n a:=by
 unfold madeCells
 rw [Nat.mul_one]
 induction n with
 | zero=>simp
 | succ n ih=>rw [List.replicate_succ',<-ih,Array.range_succ];simp [Nat.mod_one]
end Go.Rg
namespace Go.Proofs.YtipjchbdogmccaaGreat
open Go.RowKit Go.Rg Go.BigFrame
def alC (ps:List Nat) (al:List (Option (Nat×Bool))):List Value:=al.flatMap (Zbx ps)
theorem alC_none (ps:List Nat) (n:Nat):(List.replicate n [Value.pointer none,Value.bool false]).flatten=alC ps (List.replicate n none):=by
 unfold alC
 induction n with
 | zero=>rfl
 | succ n ih=>rw [List.replicate_succ,List.replicate_succ,List.flatten_cons,List.flatMap_cons,ih];rfl
theorem Zmh (ps:List Nat) (al:List (Option (Nat×Bool))):(alC ps al).length=al.length*2:=Zcp (Zbx ps) 2 (Za3 ps) al
theorem Zmi (ps:List Nat) (al:List (Option (Nat×Bool))) (k j:Nat) (hk:k<al.length) (hj:j<2):(alC ps al)[k*2+j]? =(Zbx ps (al[k]'hk))[j]? :=Zdg (Zbx ps) 2 (Za3 ps) al k j hk hj
theorem alC_set (ps:List Nat) (al:List (Option (Nat×Bool))) (k:Nat) (hk:k<al.length) (r:Option (Nat×Bool)) (x y:Value) (hr:Zbx ps r=[x,y]):((alC ps al).set (k*2) x).set (k*2+1) y=alC ps (al.set k r):=by
 have hl:=Zmh ps al
 refine List.ext_getElem? fun m=> ?_
 rw [List.getElem?_set,List.getElem?_set]
 simp only [List.length_set]
 by_cases hm:m<al.length*2
 ·have hdiv:m / 2<al.length:=by omega
  have hmm:m=m / 2*2+m%2:=by omega
  have h2:=Zmi ps (al.set k r) (m / 2) (m%2) (by rw [List.length_set];exact hdiv) (by omega)
  rw [<-hmm,List.getElem_set] at h2
  have h3:=Zmi ps al (m / 2) (m%2) hdiv (by omega)
  rw [<-hmm] at h3
  rw [h2]
  by_cases e:k=m / 2
  ·rw [if_pos e,hr]
   by_cases e0:m%2=0
   ·rw [if_neg (by omega),if_pos (by omega),if_pos (by omega),e0];rfl
   rw [if_pos (by omega),if_pos (by omega),show m%2=1 by omega];rfl
  rw [if_neg e,if_neg (by omega),if_neg (by omega),h3]
 rw [if_neg (by omega),if_neg (by omega),List.getElem?_eq_none (by omega),List.getElem?_eq_none (by rw [Zmh,List.length_set];omega)]
theorem step_info:(Tryz.prog.info? 412).map (fun i=>(i.zero,i.size,i.bytes))=some (some (.agg #[.pointer none,.bool false]),2,16):=by kernel_rfl
theorem Zm2 {ds:List Db} {way:List Int} (hc:Cyc (Yq ds) way) (i:Nat) (hi:i<way.length):∃s,Xh ds 0 (way.getD i 0) (way.getD ((i+1)%way.length) 0) none=some s/\s.1<ds.length:=by
 obtain ⟨c,hcc⟩:=hc i hi
 have hm:(i+1)%way.length<way.length:=Nat.mod_lt _ (by omega)
 rw [List.getD_eq_getElem?_getD,List.getD_eq_getElem?_getD,List.getElem?_eq_getElem hi,List.getElem?_eq_getElem hm]
 have h1:=Zd7 ds 0 none hcc
 simp only [Option.getD_some]
 obtain ⟨s,hs⟩:=Option.ne_none_iff_exists'.1 h1
 refine ⟨s,hs,?_⟩
 obtain ⟨j,b⟩:=s
 rcases Zfr ds 0 none j b hs with h | h
 ·cases h
 simpa using h.2
theorem Zic (ds:List Db) (way:List Int):(Yg ds way).length=way.length:=by unfold Yg;simp
theorem stepsD_at (ds:List Db) (way:List Int) (i:Nat) (hi:i<way.length):(Yg ds way)[i]'(by rw [Zic];exact hi)=(Xh ds 0 (way.getD i 0) (way.getD ((i+1)%way.length) 0) none).getD (0,false):=by
 unfold Yg
 simp
def alK (ss:List (Nat×Bool)) (k n:Nat):List (Option (Nat×Bool)):=(ss.take k).map some++List.replicate (n-k) none
theorem Zh0 {ss:List (Nat×Bool)} {k n:Nat} (h:ss.length=n) (hk:k<=n):(alK ss k n).length=n:=by unfold alK;simp;omega
theorem alK_set {ss:List (Nat×Bool)} {k n:Nat} (h:ss.length=n) (hk:k<n):(alK ss k n).set k (some (ss[k]'(by omega)))=alK ss (k+1) n:=by
 have hl:((ss.take k).map some:List (Option (Nat×Bool))).length=k:=by simp;omega
 unfold alK
 rw [List.set_append_right _ _ (by omega),hl,Nat.sub_self,show n-k=(n-(k+1))+1 by omega,List.replicate_succ,List.set_cons_zero,List.take_succ_eq_append_getElem (by omega),List.map_append]
 simp
theorem alK_at {ss:List (Nat×Bool)} {k n j:Nat} (h:ss.length=n) (hk:k<=n) (hj:j<k):(alK ss k n)[j]'(by rw [Zh0 h hk];omega)=some (ss[j]'(by omega)):=by
 unfold alK
 rw [List.getElem_append_left (by simp;omega)]
 simp
theorem Zqx (base bw:Nat) (v vw:Value) (ps:List Nat) (ds:List Db) (way:List Int) (w:World) (h:IsDb w base v ps ds) (hl:ds.length<=400) (hw:Zs w bw 1 vw way.length (way.map (Value.int .u8))) (hwl:way.length<=400) (hwp:∀q,vw.ownBlock=some q->q∉ps)
 (hc:Cyc (Yq ds) way):Calls Tryz.prog 244 #[v,vw] w (fun e w'=>e= .returned (.tuple #[])/\Keep ps w w'/\IsDb w' base v ps (Zah ds way)):=by
 obtain ⟨i0,hi,hz0,hz1,hz2⟩:=info_parts step_info
 have hst:=Zm2 hc
 have hsl:=Zic ds way
 have hsa:∀i,i<way.length->(Yg ds way)[i]? =some ((Xh ds 0 (way.getD i 0) (way.getD ((i+1)%way.length) 0) none).getD (0,false)):=fun i hi=>by rw [List.getElem?_eq_getElem (by rw [hsl];exact hi),stepsD_at ds way i hi]
 have HDB:=Lib.hid (fun (W:World) (k:Ext w W)=>h.ext k)
 have HPS:=Lib.hid (show ∀p∈ps,p<w.heap.size from fun p hp=>by
  obtain ⟨i,hi,e⟩:=List.getElem_of_mem hp
  obtain ⟨q,hq,hr⟩:=h.at i (by rw [<-h.len];exact hi)
  rw [List.getElem?_eq_getElem hi,e] at hq
  injection hq with hq
  rw [hq]
  exact Zg hr)
 have HR:=Lib.hid (show Zah ds way=(Yg ds way).foldl (goD (Zbt ds (Yg ds way))) ds from rfl)
 have HAM:=Lib.hid (show Zbt ds (Yg ds way)=(Yg ds way).foldl (fun n s=>min n (Ul ds s)) 1099511627776 from rfl)
 obtain ⟨A,cap,rfl,h1,h2,h3,h4⟩:=hw
 have hxs:(madeCells (Value.agg #[.pointer none,.bool false]).cells (way.length*2)).toList=alC ps (List.replicate way.length none):=by
  show (madeCells #[.pointer none,.bool false] (way.length*2)).toList=_
  rw [made2,alC_none]
 have hb2:i0.bytes*way.length<=281474976710656:=by rw [hz2];omega
 have hb3:way.length<=maxLen:=by unfold maxLen;omega
 clear h hc
 go_enter Tryz.func244,Tryz.ntmps244
 go_wp2_with (first
  | (at_make;refine Zbg rfl _ _ 410 rfl w.heap.size 412 i0 _ 2 Tryz.underlying410 hi hz0 hz1 _ _ way.length rfl rfl hb2 hb3 (Nat.le_refl _) _ hxs ?_
     intro w1 e1 hlt1 hown1))
 obtain ⟨ga,hga⟩:∃ga,ga=w.heap.size:=⟨_,rfl⟩
 rw [<-hga] at hown1 ⊢
 have hgw:w.heap.size<=ga:=by omega
 clear hga hxs hb2
 generalize hss:Yg ds way=ss at *
 clear hss
 go_loopw [5,6,7,15,16,17,18,19,20,21,22,23,24,25,26,27,28,29,30,31,32,33,34,35,36,37,38,39,40,41] (fun nv _ _ iv _ _ _ _ _ _ _ _ _ _ _ _ _ _ _ _ _ _ _ _ _ _ _ _ _ _ wr=>∃k:Nat,k<=way.length/\iv= .int .i64 k/\nv= .int .i64 ((ss.take k).foldl (fun n s=>min n (Ul ds s)) 1099511627776)/\Ext w wr/\wr.ownsRow w.heap.size 412 2 (.slice (some ⟨ga,0,none⟩) way.length way.length) way.length (alC ps (alK ss k way.length))) (fun nv _ _ iv _ _ _ _ _ _ _ _ _ _ _ _ _ _ _ _ _ _ _ _ _ _ _ _ _ _ _=>way.length-(intOf iv).toNat)
 case atStart=>exact ⟨0,Nat.zero_le _,rfl,rfl,e1,by have:=Za7 hown1 hgw;simpa [alK] using this⟩
 obtain ⟨k,hk,rfl,rfl,er,hown⟩:=hrel
 by_cases hkn:k<way.length
 ·obtain ⟨⟨sj,sb⟩,hs1,hs2⟩:=hst k hkn
  have hks:k<ss.length:=by omega
  have hs3:=hsa k hkn
  rw [hs1,List.getElem?_eq_getElem hks] at hs3
  injection hs3 with hs3
  simp only [Option.getD_some] at hs3 hs2
  rcases h4 with h4 | ⟨g,rfl,hbw,hlt,hcell⟩
  ·omega
  obtain ⟨m,hm⟩:∃m,m=(k+1)%way.length:=⟨_,rfl⟩
  have hml:m<way.length:=by rw [hm];exact Nat.mod_lt _ (by omega)
  rw [<-hm] at hs1
  have hcw:∀(j:Nat) (hj:j<way.length) (W:World),Ext w W->W.cell? ⟨g,j,none⟩=some (.int .u8 (way.getD j 0)):=fun j hj W kk=>
   (Zh (a:=⟨g,j,none⟩) (kk.block hlt)).trans (hcell j _ (by rw [List.getElem?_map,List.getElem?_eq_getElem hj,List.getD_eq_getElem?_getD,List.getElem?_eq_getElem hj];rfl))
  have ck:=hcw k hkn wr er
  have cm:=hcw m hml wr er
  have hstp:=fun W kk=>step_any base v ps ds (way.getD k 0) (way.getD m 0) W (HDB.out W kk) hl
  rw [hs1] at hstp
  have hmst:=fun W kk=>most_any base v ps ds sj sb W (HDB.out W kk) hs2
  have hAS:=alK_set (n:=way.length) hsl hkn
  rw [hs3] at hAS
  have hAL:=Zh0 (k:=k) (n:=way.length) hsl hk
  have hF:(ss.take (k+1)).foldl (fun n s=>min n (Ul ds s)) 1099511627776=min ((ss.take k).foldl (fun n s=>min n (Ul ds s)) 1099511627776) (Ul ds (sj,sb)):=by
   rw [List.take_succ_eq_append_getElem hks,List.foldl_append,hs3];rfl
  obtain ⟨am,ham⟩:∃am,am=(ss.take k).foldl (fun n s=>min n (Ul ds s)) 1099511627776:=⟨_,rfl⟩
  rw [<-ham] at hF ⊢
  obtain ⟨p,hp⟩:∃p,ps[sj]? =some p:=(HDB.out w (Ext.refl _)).at sj hs2 |>.imp fun _ h=>h.1
  have hSV:Zbw ps (some (sj,sb))= .agg #[.pointer (some ⟨p,0,none⟩),.bool sb]:=by unfold Zbw;rw [Vd hp]
  rw [hSV] at hstp hmst
  have HS3:=Lib.hid hs3
  have HALS:=Lib.hid (fun x y e=>alC_set ps (alK ss k way.length) k (by omega) (some (sj,sb)) x y e)
  have HSC:=Lib.hid (Vd hp sb)
  have HAS:=Lib.hid hAS
  have HF:=Lib.hid hF
  have hrem:((k:Int)+1).tmod (way.length:Int)=(m:Int):=by rw [hm];norm_cast
  generalize way.getD k 0=pk at *
  generalize way.getD m 0=pm at *
  generalize Ul ds (sj,sb)=mo at *
  have k0:(0:Int)<=(k:Int):=by omega
  have k1:(k:Int)<(way.length:Int):=by omega
  have m0:(0:Int)<=(m:Int):=by omega
  have m1:(m:Int)<(way.length:Int):=by omega
  have k2:decide ((k:Int)<(way.length:Int))=true:=by simpa using hkn
  clear hcell hcw hs3 hst hsa hF hAS hm ham hSV hp hs1
  go_wp2_with fail
  refine (hstp wr er).mono ?_
  rintro e w4 ⟨rfl,e4⟩
  have er4:=Xt er e4
  have hown4:=Zt hown e4
  obtain ⟨cur4,hrow4⟩:=Zbl hown4
  have hcl4:=X1 hown4
  have hth:w4.there ga (k*2) 2:=fun j hj=>by
   refine ⟨?_,frozen_of_row _ ga _ _ _ hrow4⟩
   have hlt:k*2+j<(alC ps (alK ss k way.length)).length:=by rw [Zmh,hAL];omega
   rw [hcl4.2 _ _ (List.getElem?_eq_getElem hlt)]
   rfl
  have hown5:=Zbk (Zbk hown4 (k*2) (.pointer (some ⟨p,0,none⟩))) (k*2+1) (.bool sb)
  rw [HALS.out _ _ HSC.out,HAS.out] at hown5
  have hb5:Below w.heap.size w ((w4.setCell ⟨ga,k*2,none⟩ (.pointer (some ⟨p,0,none⟩))).setCell ⟨ga,k*2+1,none⟩ (.bool sb)):=Below.setCell (Below.setCell er4 (p:=⟨ga,k*2,none⟩) hgw _) (p:=⟨ga,k*2+1,none⟩) hgw _
  have HW5:=Lib.hid (show w4.setCells ga (k*2) #[.pointer (some ⟨p,0,none⟩),.bool sb].toList=(w4.setCell ⟨ga,k*2,none⟩ (.pointer (some ⟨p,0,none⟩))).setCell ⟨ga,k*2+1,none⟩ (.bool sb) from rfl)
  generalize (w4.setCell ⟨ga,k*2,none⟩ (.pointer (some ⟨p,0,none⟩))).setCell ⟨ga,k*2+1,none⟩ (.bool sb)=W5 at *
  have hAL1:=Zh0 (k:=k+1) (n:=way.length) hsl hkn
  have hat5:=alK_at (n:=way.length) (k:=k+1) (j:=k) hsl hkn (by omega)
  rw [HS3.out] at hat5
  have ld5:(loadVar 412 ⟨ga,k*2,none⟩).run Tryz.prog W5= .ok (.agg #[.pointer (some ⟨p,0,none⟩),.bool sb]) W5:=
   Zu W5 ga (k*2) 412 [.pointer (some ⟨p,0,none⟩),.bool sb] _ (fun j u hu=>by
    have hj:j<2:=(List.getElem?_eq_some_iff.1 hu).1
    refine (X1 hown5).2 _ _ ?_
    rw [Zmi ps _ k j (by rw [hAL1];omega) hj,hat5,HSC.out]
    exact hu) Tryz.underlying412 rfl (by kernel_rfl)
  clear hown hown4 hrow4 hcl4 hstp er4 e4 hAL hAL1 hat5 ck cm
  go_wp2_with (first
   | (refine Zh6 rfl rfl 412 _ _ rfl ga (k*2) #[.pointer (some ⟨p,0,none⟩),.bool sb] rfl rfl hth (by kernel_rfl) (by simp [Value.oneCell']) ?_
      rw [HW5.out])
   | (refine Zd rfl 412 _ _ _ rfl rfl ld5 ?_))
  refine (hmst W5 hb5).mono ?_
  rintro e w6 ⟨rfl,e6⟩
  have er6:=Xt (show Ext w W5 from hb5) e6
  have hown6:=Zt hown5 e6
  clear hown5 hmst ld5 hth HALS HSC
  by_cases hmo:mo<am
  ·have hmo':decide (mo<am)=true:=by simpa using hmo
   have HMN:=Lib.hid (show min am mo=mo by omega)
   clear hmo
   go_wp2
   exact ⟨⟨k+1,by omega,by go_num,by rw [HF.out,HMN.out],er6,hown6⟩,by simp [intOf];omega⟩
  have hmo':decide (mo<am)=false:=by simpa using hmo
  have HMN:=Lib.hid (show min am mo=am by omega)
  clear hmo
  go_wp2
  exact ⟨⟨k+1,by omega,by go_num,by rw [HF.out,HMN.out],er6,hown6⟩,by simp [intOf];omega⟩
 have hk':k=way.length:=by omega
 subst hk'
 rw [<-hsl,List.take_length,<-HAM.out,hsl]
 have hown0:=hown
 obtain ⟨am,ham⟩:∃am,am=Zbt ds ss:=⟨_,rfl⟩
 rw [<-ham] at HR ⊢
 have hk3:decide ((way.length:Int)<(way.length:Int))=false:=by simp
 have hgap:ga∉ps:=fun hm=>by have:=HPS.out ga hm;omega
 have HPK:=Lib.hid (fun (x:Nat) (hx:x∈ps)=>HPS.out x hx)
 clear ham hown h4 h3
 go_wp2_with fail
 go_loopw [9,44,45,46,47,48,49,50,51] (fun _ iv _ _ _ _ _ _ _ wq=>∃k:Nat,k<=way.length/\iv= .int .i64 k/\Keep ps wr wq/\IsDb wq base v ps ((ss.take k).foldl (goD am) ds)) (fun _ iv _ _ _ _ _ _ _ _=>way.length-(intOf iv).toNat)
 case atStart=>exact ⟨0,Nat.zero_le _,rfl,Keep.refl _ _,HDB.out _ er⟩
 obtain ⟨k,hk,rfl,kq,hdb⟩:=hrel
 by_cases hkn:k<way.length
 ·obtain ⟨⟨sj,sb⟩,hs1,hs2⟩:=hst k hkn
  have hks:k<ss.length:=by omega
  have hs3:=hsa k hkn
  rw [hs1,List.getElem?_eq_getElem hks] at hs3
  injection hs3 with hs3
  simp only [Option.getD_some] at hs3 hs2
  have hlen:∀l:List (Nat×Bool),(l.foldl (goD am) ds).length=ds.length:=fun l=>by
   have:∀(l:List (Nat×Bool)) (d:List Db),(l.foldl (goD am) d).length=d.length:=fun l=>by
    induction l with
    | nil=>intro d;rfl
    | cons s l ih=>intro d;rw [List.foldl_cons,ih,goD_len]
   exact this l ds
  have HF:=Lib.hid (show (ss.take (k+1)).foldl (goD am) ds=goD am ((ss.take k).foldl (goD am) ds) (sj,sb) by rw [List.take_succ_eq_append_getElem hks,List.foldl_append,hs3];rfl)
  have hjl:sj<((ss.take k).foldl (goD am) ds).length:=by rw [hlen];exact hs2
  obtain ⟨p,hp⟩:∃p,ps[sj]? =some p:=(HDB.out w (Ext.refl _)).at sj hs2 |>.imp fun _ h=>h.1
  have hSV:Zbw ps (some (sj,sb))= .agg #[.pointer (some ⟨p,0,none⟩),.bool sb]:=by unfold Zbw;rw [Vd hp]
  have hgo:=fun W (kk:Ext wr W)=>dgoes_any base v ps _ sj sb am W (hdb.ext kk) hjl
  rw [hSV] at hgo
  have hownq:=Zf0 hown0 kq (fun q hq=>by
   injection hq with hq
   rw [<-hq]
   exact hgap)
  have hatq:=alK_at (n:=way.length) (k:=way.length) (j:=k) hsl (Nat.le_refl _) hkn
  rw [hs3] at hatq
  have hALq:=Zh0 (k:=way.length) (n:=way.length) hsl (Nat.le_refl _)
  have ldq:(loadVar 412 ⟨ga,k*2,none⟩).run Tryz.prog wr= .ok (.agg #[.pointer (some ⟨p,0,none⟩),.bool sb]) wr:=
   Zu wr ga (k*2) 412 [.pointer (some ⟨p,0,none⟩),.bool sb] _ (fun j u hu=>by
    have hj:j<2:=(List.getElem?_eq_some_iff.1 hu).1
    refine (X1 hownq).2 _ _ ?_
    rw [Zmi ps _ k j (by rw [hALq];omega) hj,hatq,Vd hp]
    exact hu) Tryz.underlying412 rfl (by kernel_rfl)
  have hzr:=Zb wr (.cells #[.pointer none,.bool false] 412)
  have ezr:=Zc wr (.cells #[.pointer none,.bool false] 412)
  have k0:(0:Int)<=(k:Int):=by omega
  have k1:(k:Int)<(way.length:Int):=by omega
  have k2:decide ((k:Int)<(way.length:Int))=true:=by simpa using hkn
  clear hst hsa hs1 hs3 hlen hp hSV hownq hatq hALq hjl
  go_wp2_with (first
   | (refine Zd rfl 412 _ _ _ rfl rfl ldq ?_)
   | (refine Zd rfl 412 _ _ _ rfl rfl lds ?_)
   | (refine Ze rfl rfl 412 _ _ rfl wr.heap.size _ rfl rfl 412 _ hzr (by kernel_rfl) (by rfl) (by rfl) ?_
      intro w5 hb5 ho5 hs5
      have e5:Ext wr w5:=hb5 _ _ (Nat.le_refl _) ezr
      have lds:=run_loadVar_row (P:=Tryz.prog) w5 wr.heap.size _ 412 _ _ _ hs5 Tryz.underlying412 rfl (by kernel_rfl)))
  refine (hgo w5 e5).mono ?_
  rintro e w6 ⟨rfl,k6,hdb6⟩
  clear hgo ldq lds hs5
  go_wp2
  exact ⟨⟨k+1,by omega,by go_num,(kq.trans (Kx e5)).trans k6,by rw [HF.out];exact hdb6⟩,by simp [intOf];omega⟩
 have hk':k=way.length:=by omega
 subst hk'
 rw [<-hsl,List.take_length,<-HR.out] at hdb
 go_wp2
 exact bodyPost_end (results_none (by kernel_rfl) _ _ _) rfl ⟨rfl,(Kx er).trans kq,hdb⟩
theorem rclip_any (base n:Nat) (v:Value) (xs:List Value) (w:World) (h:Zs w base 3 v n xs):Calls Tryz.prog 220 #[v] w (fun e w'=>∃v',e= .returned v'/\w'=w/\Zs w' base 3 v' n xs):=by
 obtain ⟨A,cap,rfl,h1,h2,h3,h4⟩:=h
 rcases h4 with rfl | ⟨g,rfl,hb,hlt,hc⟩
 ·cases A with
  | none=>
    go_enter Tryz.func220,Tryz.ntmps220
    go_wp2
    go_ret
    exact ⟨_,rfl,rfl,_,_,rfl,Nat.le_refl _,by unfold maxLen;omega,h3,.inl rfl⟩
  | some a=>
    go_enter Tryz.func220,Tryz.ntmps220
    go_wp2
    go_ret
    exact ⟨_,rfl,rfl,_,_,rfl,Nat.le_refl _,by unfold maxLen;omega,h3,.inl rfl⟩
 have hn63:(n:Int)<=9223372036854775807:=by unfold maxLen at h2;omega
 go_enter Tryz.func220,Tryz.ntmps220
 go_wp2
 go_ret
 exact ⟨_,rfl,rfl,_,_,rfl,Nat.le_refl _,Nat.le_trans h1 h2,h3,.inr ⟨g,rfl,hb,hlt,hc⟩⟩
theorem ptr_info:(Tryz.prog.info? 363).map (fun i=>(i.zero,i.size,i.bytes))=some (some (.pointer none),1,8):=by kernel_rfl
def Zmb (x:Fw):Db:=(x.1,x.2.1,x.2.2,0)
def Zby (ds:List Db):List Fw:=(ds.filter fun d=>decide (0<d.2.2.1)).map (fun d=>(d.1,d.2.1,d.2.2.1))
theorem Zp7 (ds:List Db) (k:Nat) (hk:k<ds.length):Zby (ds.take (k+1))=Zby (ds.take k)++(if 0<(ds[k]'hk).2.2.1 then [((ds[k]'hk).1,(ds[k]'hk).2.1,(ds[k]'hk).2.2.1)] else []):=by
 unfold Zby
 rw [List.take_succ_eq_append_getElem hk,List.filter_append,List.map_append]
 congr 1
 by_cases h:0<(ds[k]'hk).2.2.1
 ·simp [h]
 simp [h]
theorem Zcn (l k:List Fw):Xw (l++k)=Xw l++Xw k:=by unfold Xw;rw [List.flatMap_append]
theorem Zqa {l:List Fw} {quota:Int} (h:Zb1 l=true) (hq:0<=quota):Yy l quota=
 if (Y0 quota (quota.toNat+1) (l.map Zmb) 0).1≠0 then (13,[],0) else (0,Zby (Y0 quota (quota.toNat+1) (l.map Zmb) 0).2.1,(Y0 quota (quota.toNat+1) (l.map Zmb) 0).2.2):=by
 unfold Yy
 rw [if_neg (by rw [h];simp;omega)]
 rfl
theorem ends_may {l:List Fw} (h:Zb1 l=true):Zj4 (l.map Zmb):=by
 intro d hd
 obtain ⟨x,hx,rfl⟩:=List.mem_map.1 hd
 have:=Zf5 h x hx
 unfold Zjc at this
 rw [decide_eq_true_eq] at this
 unfold Zmb
 simp only
 omega
theorem Zpj {es:List Ed} (hok:EOk es):(X9 es).length<=16:=by
 unfold X9
 by_cases h:(Vk es 16 Zm Zm 0).2=0
 ·rw [if_pos h];simp
 rw [if_neg h]
 have hr:=Zmg hok h
 generalize Zx (Vk es 16 Zm Zm 0).1 16 (Vk es 16 Zm Zm 0).2=x at *
 generalize (Vk es 16 Zm Zm 0).1=a at *
 obtain ⟨h1,h2⟩:=Zhz hr 17 [] (Zfg a x) rfl
 simp only [List.length_nil,Zx] at h1 h2
 obtain ⟨k1,k2,k3⟩:=Zop hr h1 h2
 have hl:=Zjn hr h1
 rw [rot_len _ _ (Nat.le_of_lt (Zl3 k3)),List.length_reverse]
 exact hl
theorem Zlg (w:World) (cs:List Value) (t:TypeId):∀(j:Nat) (u:Value),cs[j]? =some u->(w.alloc (.cells cs.toArray t)).cell? ((⟨w.heap.size,0,none⟩:Addr).add j)=some u:=by
 intro j u hu
 have hadd:(⟨w.heap.size,0,none⟩:Addr).add j=⟨w.heap.size,j,none⟩:=by unfold Addr.add;split<;>simp_all
 rw [hadd]
 exact Za (Zb w _) (by simpa using hu)
theorem Zpl (base:Nat) (v:Value) (l:List Fw) (quota:Int) (w:World) (h:Zs w base 3 v l.length (Xw l)) (hl:l.length<=300) (hq63:quota<=9223372036854775807):
 Calls Tryz.prog 188 #[v,.int .i64 quota] w (fun e w'=>∃v',e= .returned (.tuple #[v',.int .i64 (Yy l quota).2.2,.int .i64 (Yy l quota).1])/\Ext w w'/\Zs w' w.heap.size 3 v' (Yy l quota).2.1.length (Xw (Yy l quota).2.1)):=by
 have hmy:=rmay_any base v l w h
 obtain ⟨i0,hi,hz0,hz1,hz2⟩:=info_parts ptr_info
 obtain ⟨A,cap,rfl,h1,h2,h3,h4⟩:=h
 have hnil:∀W,Zs W w.heap.size 3 (.slice none 0 0) 0 (Xw []):=fun W=>Zs.of_own (World.ownsRow_nil W w.heap.size 285 3)
 by_cases hm:Zb1 l=true
 ·rw [hm] at hmy
  by_cases hq:quota<0
  ·have hq':decide (quota<0)=true:=by simpa using hq
   have HE:=Lib.hid (show Yy l quota=(1,[],0) by unfold Yy;rw [if_pos (.inr hq)])
   clear hq
   go_enter Tryz.func188,Tryz.ntmps188
   go_wp2_with fail
   refine hmy.mono ?_
   rintro e w1 ⟨rfl,e1⟩
   go_wp2
   go_ret3
   rw [HE.out]
   exact ⟨_,rfl,e1,hnil _⟩
  have hq':decide (quota<0)=false:=by simpa using hq
  have hq0:0<=quota:=by omega
  have HE:=Lib.hid (Zqa hm hq0)
  have hends:=ends_may hm
  have hxs:(madeCells (Value.pointer none).cells (l.length*1)).toList=List.replicate l.length (.pointer none):=Uy _ _
  have hb2:i0.bytes*l.length<=281474976710656:=by rw [hz2];omega
  have hb3:l.length<=maxLen:=by unfold maxLen;omega
  clear hq hm
  go_enter Tryz.func188,Tryz.ntmps188
  go_wp2_with fail
  refine hmy.mono ?_
  rintro e w1 ⟨rfl,e1⟩
  go_wp2_with (first
   | (at_make;refine Zbg rfl _ _ 362 rfl w.heap.size 363 i0 _ 1 Tryz.underlying362 hi hz0 hz1 _ _ l.length rfl rfl hb2 hb3 e1.size _ hxs ?_
      intro w2 e2 hlt2 hown2))
  obtain ⟨ga,hga⟩:∃ga,ga=w1.heap.size:=⟨_,rfl⟩
  rw [<-hga] at hown2 hlt2 ⊢
  have hgw:w.heap.size<=ga:=by have:=e1.size;omega
  have E2:=Xt e1 e2
  clear hga hxs hb2 hmy e1 e2
  go_loopw [8,9,25,26,27,28,29,30,31,32,33,34,35,36] (fun _ _ iv _ _ _ _ _ _ _ _ _ _ _ wr=>∃(k:Nat) (ps:List Nat),k<=l.length/\iv= .int .i64 k/\ps.length=k/\Ext w wr/\wr.ownsRow w.heap.size 363 1 (.slice (some ⟨ga,0,none⟩) l.length l.length) l.length (Zhj ps++List.replicate (l.length-k) (.pointer none))/\
   (∀(i p:Nat) (x:Fw),ps[i]? =some p->l[i]? =some x->wr.heap[p]? =some (Obj.cells (dbC (Zmb x)).toArray 365 (0,0)))/\ps.Nodup/\(∀p∈ps,ga<p/\p<wr.heap.size)) (fun _ _ iv _ _ _ _ _ _ _ _ _ _ _ _=>l.length-(intOf iv).toNat)
  case atStart=>exact ⟨0,[],Nat.zero_le _,rfl,rfl,E2,hown2,by simp,by simp,by simp⟩
  obtain ⟨k,ps,hk,rfl,hpl,er,hown,hrows,hnd,hlow⟩:=hrel
  by_cases hkn:k<l.length
  ·rcases h4 with h4 | ⟨g,rfl,hb,hlt,hcell⟩
   ·omega
   have hld:=Ze3 wr g k l hkn (fun j u hu=>(Zh (er.block hlt)).trans (hcell j u hu))
   have hlk:=List.getElem?_eq_getElem hkn
   generalize l[k]'hkn=x at *
   obtain ⟨a,b,n⟩:=x
   simp only [Xz,D.Xz] at hld
   have hzr:=Zb wr (.cells #[.int .u8 0,.int .u8 0,.int .i64 0] 285)
   have ezr:=Zc wr (.cells #[.int .u8 0,.int .u8 0,.int .i64 0] 285)
   have k0:(0:Int)<=(k:Int):=by omega
   have k1:(k:Int)<(l.length:Int):=by omega
   have k2:decide ((k:Int)<(l.length:Int))=true:=by simpa using hkn
   go_wp2_with (first
    | (refine Zd rfl 285 _ _ _ rfl rfl hld ?_)
    | (refine Zd rfl 285 _ _ _ rfl rfl lds ?_)
    | (refine Ze rfl rfl 285 _ _ rfl wr.heap.size _ rfl rfl 285 _ hzr (by kernel_rfl) (by rfl) (by rfl) ?_
       intro w5 hb5 ho5 hs5
       have e5:Ext wr w5:=hb5 _ _ (Nat.le_refl _) ezr
       have lds:=run_loadVar_row (P:=Tryz.prog) w5 wr.heap.size _ 285 _ _ _ hs5 Tryz.underlying285 rfl (by kernel_rfl)
       have ownU:=(Zt hown e5).alloc (.cells #[.int .u8 a,.int .u8 b,.int .i64 n,.int .i64 0] 365)
       obtain ⟨curU,hrU⟩:=Zbl ownU
       have cU:=(X1 ownU).2 k (.pointer none) (by
        rw [List.getElem?_append_right (by unfold Zhj;rw [List.length_map];omega),List.getElem?_replicate,if_pos (by unfold Zhj;rw [List.length_map];omega)])
       have fU:=frozen_of_row _ ga k _ _ hrU))
   have e5U:=Xt e5 (Zc w5 (.cells #[.int .u8 a,.int .u8 b,.int .i64 n,.int .i64 0] 365))
   have hpU:=Zb w5 (.cells #[.int .u8 a,.int .u8 b,.int .i64 n,.int .i64 0] 365)
   have hsU:=size_alloc w5 (.cells #[.int .u8 a,.int .u8 b,.int .i64 n,.int .i64 0] 365)
   have hs0:=e5.size
   have hgl:ga<w5.heap.size:=by have:=(X1 hown).1;omega
   have kU:Keep [ga] (w5.alloc (.cells #[.int .u8 a,.int .u8 b,.int .i64 n,.int .i64 0] 365)) ((w5.alloc (.cells #[.int .u8 a,.int .u8 b,.int .i64 n,.int .i64 0] 365)).setCell ⟨ga,k,none⟩ (.pointer (some ⟨w5.heap.size,0,none⟩))):=(Keep.refl _ _).setCell (Or.inl (by simp)) _
   have ownV:=Zbk ownU k (.pointer (some ⟨w5.heap.size,0,none⟩))
   have hxs:(Zhj ps++List.replicate (l.length-k) (Value.pointer none)).set k (.pointer (some ⟨w5.heap.size,0,none⟩))=Zhj (ps++[w5.heap.size])++List.replicate (l.length-(k+1)) (.pointer none):=by
    have hpp:(Zhj ps).length=k:=by unfold Zhj;rw [List.length_map];exact hpl
    rw [List.set_append_right _ _ (by omega),hpp,Nat.sub_self,show l.length-k=(l.length-(k+1))+1 by omega,List.replicate_succ,List.set_cons_zero]
    unfold Zhj
    simp
   rw [hxs] at ownV
   refine ⟨⟨k+1,ps++[w5.heap.size],by omega,by go_num,by simp [hpl],Below.setCell (Xt er e5U) (p:=⟨ga,k,none⟩) hgw _,ownV,fun i p x hp hx=> ?_,?_,fun p hp=> ?_⟩,by simp [intOf];omega⟩
   ·by_cases hik:i<ps.length
    ·rw [List.getElem?_append_left hik] at hp
     have hpm:=hlow p (List.mem_of_getElem? hp)
     exact kU.at (e5U.at (hrows i p x hp hx)) (by simp;omega)
    have hi':i=ps.length:=by
     have:=(List.getElem?_eq_some_iff.1 hp).1
     simp at this
     omega
    subst hi'
    rw [List.getElem?_append_right (Nat.le_refl _),Nat.sub_self] at hp
    simp only [List.getElem?_cons_zero,Option.some.injEq] at hp
    subst hp
    rw [hpl,hlk] at hx
    injection hx with hx
    rw [<-hx]
    exact kU.at hpU (by simp;omega)
   ·rw [List.nodup_append]
    refine ⟨hnd,by simp,fun p hp q hq=> ?_⟩
    have:=(hlow p hp).2
    simp at hq
    omega
   rw [World.size_setCell,hsU]
   rcases List.mem_append.1 hp with hp | hp
   ·have:=hlow p hp
    omega
   simp at hp
   omega
  have hk':k=l.length:=by omega
  subst hk'
  rw [Nat.sub_self,List.replicate_zero,List.append_nil] at hown
  have hdb0:IsDb wr w.heap.size (.slice (some ⟨ga,0,none⟩) l.length l.length) ps (l.map Zmb):=by
   refine ⟨by rw [List.length_map];exact hpl,by rw [hpl];exact Zs.of_own hown,fun i p d hp hd=> ?_,hnd,fun p hp=>by have:=hlow p hp;omega,fun q hq hm=> ?_⟩
   ·rw [List.getElem?_map] at hd
    obtain ⟨x,hx,rfl⟩:=Option.map_eq_some_iff.1 hd
    exact hrows i p x hp hx
   have hq:ga=q:=by injection hq
   have:=hlow q hm
   omega
  have hln:(l.map Zmb).length<=300:=by rw [List.length_map];exact hl
  have hgl0:=(X1 hown).1
  clear hrows hown h4 h3 hb3
  generalize hds0:l.map Zmb=ds0 at *
  have HLL:=Lib.hid (show ds0.length=l.length by rw [<-hds0,List.length_map])
  have HPL:=Lib.hid hpl
  clear hds0 hpl
  go_wp2_with fail
  go_loopw [4,5,10,37,38,39,40,41,42,43,67,68,69,70,71,72,73,74,75] (fun lv mv _ _ _ _ _ _ _ _ _ _ _ _ _ _ _ _ _ wq=>∃(m:Nat) (ds:List Db),lv= .slice none 0 0/\mv= .int .i64 m/\(m:Int)<=quota/\Ext w wq/\ga<wq.heap.size/\(∀p∈ps,p<wq.heap.size)/\IsDb wq w.heap.size (.slice (some ⟨ga,0,none⟩) l.length l.length) ps ds/\Zj4 ds/\ds.length=l.length/\Y0 quota (quota.toNat+1) ds0 0=Y0 quota (quota.toNat+1-m) ds m) (fun lv mv _ _ _ _ _ _ _ _ _ _ _ _ _ _ _ _ _ _=>quota.toNat-(intOf mv).toNat)
  case atStart=>exact ⟨0,ds0,rfl,rfl,by omega,er,hgl0,fun p hp=>(hlow p hp).2,hdb0,hends,HLL.out,rfl⟩
  obtain ⟨m,ds,rfl,rfl,hmq,er,hgl,hpsl,hdb,hen,hdl,hgo⟩:=hrel
  have hed:=edges_any _ _ ps ds wr hdb (by omega)
  have hEok:=ends_ok hen
  have hel:=Zjl ds
  have hrl:=Zpj hEok
  obtain ⟨hcyc,hring⟩:=Zkf hEok
  have hgs:Y0 quota (quota.toNat+1-m) ds m=if X9 (Yq ds)=[] then (0,ds,(m:Int)) else if (m:Int)=quota then (13,ds,(m:Int)) else Y0 quota (quota.toNat+1-(m+1)) (Zah ds (X9 (Yq ds))) ((m:Int)+1):=by
   rw [show quota.toNat+1-m=(quota.toNat+1-(m+1))+1 by omega]
   rfl
  have HGO:=Lib.hid (hgo.trans hgs)
  clear hgo hgs
  go_wp2_with fail
  refine hed.mono ?_
  rintro e w2 ⟨v1,rfl,e2,hown2⟩
  have hrd:=round_any _ v1 (Yq ds) w2 (Zs.of_own hown2) hEok (by omega)
  go_wp2_with fail
  refine hrd.mono ?_
  rintro e w3 ⟨vw,rfl,e3,hslw⟩
  have hdb3:=hdb.ext (Xt e2 e3)
  have er3:=Xt er (Xt e2 e3)
  have hs2:=e2.size
  have hs3:=e3.size
  clear hed hrd hown2 hdb
  have hslw2:=hslw
  obtain ⟨A',cap',rfl,hw1,hw2,hw3,hw4⟩:=hslw
  by_cases hway:X9 (Yq ds)=[]
  ·have HG2:=Lib.hid (show Y0 quota (quota.toNat+1) ds0 0=(0,ds,(m:Int)) by rw [HGO.out,if_pos hway])
   rw [hway] at hw1 hw3 hw4 hslw2 ⊢
   have cl:=fun n v' xs W h=>rclip_any w.heap.size n v' xs W h
   clear hw1 hw2 hw3 hw4 hslw2 hway HGO hcyc hring hrl
   have hat:=hdb3.at
   have hsl3:=hdb3.sl
   have HPL3:=Lib.hid hdb3.len
   have hgl3:ga<w3.heap.size:=by omega
   go_wp2_with fail
   go_loopw [4,12,46,47,48,49,50,51,52,53,54,55,56,57,58,59,60,61,62,63] (fun sv _ iv _ _ _ _ _ _ _ _ _ _ _ _ _ _ _ _ _ wq=>∃k:Nat,k<=l.length/\iv= .int .i64 k/\Ext w3 wq/\wq.ownsRow w3.heap.size 285 3 sv (Zby (ds.take k)).length (Xw (Zby (ds.take k)))) (fun sv _ iv _ _ _ _ _ _ _ _ _ _ _ _ _ _ _ _ _ _=>l.length-(intOf iv).toNat)
   case atStart=>exact ⟨0,Nat.zero_le _,rfl,Ext.refl _,World.ownsRow_nil _ _ _ _⟩
   obtain ⟨k,hk,rfl,e4,hown⟩:=hrel
   by_cases hkn:k<l.length
   ·have hkd:k<ds.length:=by omega
    obtain ⟨p,hp,hr0⟩:=hat k hkd
    have hrow:=e4.at hr0
    have hcp3:w3.cell? ⟨ga,k,none⟩=some (.pointer (some ⟨p,0,none⟩)):=by
     obtain ⟨A2,c2,hv,hget⟩:=hsl3.get
     obtain ⟨g',hg',_,_,u,hu,hcu⟩:=hget k (by rw [HPL3.out,hdl];exact hkn)
     injection hv with hv _ _
     rw [hg'] at hv
     injection hv with hv
     have hga:ga=g':=by injection hv
     unfold Zhj at hu
     rw [List.getElem?_map,hp] at hu
     simp only [Option.map_some,Option.some.injEq] at hu
     rw [hga,hcu,<-hu]
    have hcp:=(Zh (a:=⟨ga,k,none⟩) (e4.block hgl3)).trans hcp3
    have hls:=Zp7 ds k hkd
    have hlk:(Zby (ds.take k)).length<=k:=by
     unfold Zby
     rw [List.length_map]
     have:=List.length_filter_le (fun d:Db=>decide (0<d.2.2.1)) (ds.take k)
     simp at this
     omega
    generalize ds[k]'hkd=d at *
    obtain ⟨a,b,n,tk⟩:=d
    simp only [dbC] at hrow
    simp only at hls
    have HLS:=Lib.hid hls
    have q2:=Za (j:=2) hrow rfl
    have ldf:(loadVar 285 ⟨p,0,none⟩).run Tryz.prog wr= .ok (.agg #[.int .u8 a,.int .u8 b,.int .i64 n]) wr:=
     Zu wr p 0 285 [.int .u8 a,.int .u8 b,.int .i64 n] _ (fun j u hu=>by
      refine Za hrow ?_
      rw [Nat.zero_add]
      match j,hu with
      | 0,hu=>exact hu
      | 1,hu=>exact hu
      | 2,hu=>exact hu) Tryz.underlying285 rfl (by kernel_rfl)
    have hsw:=e4.size
    obtain ⟨i1,hi1,hy0,hy1,hy2⟩:=info_parts fw_info
    have hcn:=Zlg wr [.int .u8 a,.int .u8 b,.int .i64 n] 285
    have hone:∀u∈[Value.int .u8 a,.int .u8 b,.int .i64 n],u.oneCell'=true:=fun u hu=>by simp at hu;rcases hu with rfl | rfl | rfl<;>rfl
    have hbw:w3.heap.size<=(wr.alloc (.cells #[.int .u8 a,.int .u8 b,.int .i64 n] 285)).heap.size:=by rw [size_alloc];omega
    generalize Zby (ds.take k)=lf at *
    have hm1:lf.length+1<=maxLen:=by unfold maxLen;omega
    have hm2:(lf.length+1)*16<=140737488355328:=by omega
    clear hls hp hr0 hcp3
    by_cases hn:0<n
    ·have hn':decide (0<n)=true:=by simpa using hn
     have HL2:=Lib.hid (show Zby (ds.take (k+1))=lf++[(a,b,n)] by rw [HLS.out,if_pos hn])
     clear hn HLS
     go_wp2_with (first
      | (refine Zd rfl 285 _ _ _ rfl rfl ldf ?_)
      | (at_builtin;refine wpList_append_own _ rfl _ _ 279 rfl w3.heap.size 285 i1 (.agg #[.int .u8 0,.int .u8 0,.int .i64 0]) 3 16 Tryz.underlying279 hi1 hy0 hy1 hy2 rfl (by decide) _ _ _ rfl (hown.alloc _) ⟨wr.heap.size,0,none⟩ 1 1 [.int .u8 a,.int .u8 b,.int .i64 n] rfl rfl hcn hone hm1 hm2 hbw ?_
         intro v' w5 hown' hgrow' hnil'))
     refine ⟨⟨k+1,by omega,by go_num,?_,?_⟩,by simp [intOf];omega⟩
     ·exact (Below.alloc e4 hsw _).grown hgrow' hbw (fun q hq=>(hown.lt q hq).1)
     rw [HL2.out,Zcn,List.length_append]
     exact hown'
    have hn':decide (0<n)=false:=by simpa using hn
    have HL2:=Lib.hid (show Zby (ds.take (k+1))=lf by rw [HLS.out,if_neg hn,List.append_nil])
    clear hn HLS
    go_wp2
    exact ⟨⟨k+1,by omega,by go_num,e4,by rw [HL2.out];exact hown⟩,by simp [intOf];omega⟩
   have hk':k=l.length:=by omega
   subst hk'
   rw [<-hdl,List.take_length] at hown
   have hk3:decide ((l.length:Int)<(l.length:Int))=false:=by simp
   have HEE:=Lib.hid (show Yy l quota=(0,Zby ds,(m:Int)) by rw [HE.out,HG2.out];simp)
   clear hat hsl3
   go_wp2_with fail
   refine (cl _ _ _ wr (Zs.of_own (Za7 hown er3.size))).mono ?_
   rintro e w6 ⟨v',rfl,rfl,hsl6⟩
   go_wp2
   go_ret3
   rw [HEE.out]
   exact ⟨_,rfl,Xt er3 e4,hsl6⟩
  rw [if_neg hway] at HGO
  generalize X9 (Yq ds)=way at *
  have hwl0:0<way.length:=List.length_pos_iff.2 hway
  have hwn:((way.length:Int)==0)=false:=by rw [beq_eq_false_iff_ne];omega
  obtain ⟨gw,rfl,hgw2,_,_⟩:∃g,A'=some ⟨g,0,none⟩/\w2.heap.size<=g/\g<w3.heap.size/\True:=by
   rcases hw4 with hw4 | ⟨g,h5,h6,h7,_⟩
   ·omega
   exact ⟨g,h5,h6,h7,trivial⟩
  have hwp:∀q,(Value.slice (some ⟨gw,0,none⟩) way.length cap').ownBlock=some q->q∉ps:=fun q hq hm=>by
   have:=hpsl q hm
   have hq:gw=q:=by injection hq
   omega
  by_cases hmm:(m:Int)=quota
  ·have HG2:=Lib.hid (show Y0 quota (quota.toNat+1) ds0 0=(13,ds,(m:Int)) by rw [HGO.out,if_pos hmm])
   have HEE:=Lib.hid (show Yy l quota=(13,[],0) by rw [HE.out,HG2.out];simp)
   have hmm':((m:Int)==quota)=true:=by simpa using hmm
   clear hw1 hw2 hw3 hw4 hslw2 hway HGO hcyc hring hrl hmm HG2
   go_wp2
   go_ret3
   rw [HEE.out]
   exact ⟨_,rfl,er3,hnil _⟩
  have HG2:=Lib.hid (show Y0 quota (quota.toNat+1) ds0 0=Y0 quota (quota.toNat+1-(m+1)) (Zah ds way) ((m:Int)+1) by rw [HGO.out,if_neg hmm])
  have hmm':((m:Int)==quota)=false:=by simpa using hmm
  have hdr:=Zqx w.heap.size w2.heap.size _ _ ps ds way w3 hdb3 (by omega) hslw2 (by omega) hwp hcyc
  have her:=Zjj hen way
  have hm1:(m:Int)+1<=quota:=by omega
  have hm63:(m:Int)+1<=9223372036854775807:=by omega
  clear hw1 hw2 hw3 hw4 hslw2 hway HGO hcyc hring hrl hmm hdb3
  go_wp2_with fail
  refine hdr.mono ?_
  rintro e w4 ⟨rfl,k4,hdb4⟩
  go_wp2
  refine ⟨⟨m+1,Zah ds way,rfl,by go_num,by omega,(Keep.trans_fresh (S:=[]) (Kx er3) k4 (fun p hp=>.inr (by have:=hlow p hp;omega))).ext,by have:=k4.size;omega,fun p hp=>by have:=hpsl p hp;have:=k4.size;omega,hdb4,her.1,by rw [her.2];exact hdl,HG2.out⟩,by simp [intOf];omega⟩
 rw [Bool.not_eq_true] at hm
 rw [hm] at hmy
 have HE:=Lib.hid (show Yy l quota=(1,[],0) by unfold Yy;rw [if_pos (.inl hm)])
 clear hm
 go_enter Tryz.func188,Tryz.ntmps188
 go_wp2_with fail
 refine hmy.mono ?_
 rintro e w1 ⟨rfl,e1⟩
 go_wp2
 go_ret3
 rw [HE.out]
 exact ⟨_,rfl,e1,hnil _⟩
end Go.Proofs.YtipjchbdogmccaaGreat
