/- JudgesFine: what ran as its order says is fine; walked. -/
import Derived.Test.YtipjchbdogmccaaGreatJdl
namespace Go.Proofs.YtipjchbdogmccaaGreat
open Go.RowKit Go.Rg Go.BigFrame
theorem Ju (l:List Cmd):((Zb8 l).map Cl.nm).Nodup:=by
 unfold List.Nodup
 rw [List.pairwise_iff_getElem]
 intro i j hi hj hij he
 rw [List.length_map,Ua] at hi hj
 simp only [List.getElem_map] at he
 rw [Zja l i hi,Zja l j hj] at he
 unfold numC Cl.nm at he
 simp only [Prod.mk.injEq] at he
 omega
theorem Zi3 {o:List Cl} {rs:List (Rep×Value)} {ts:List Int} (hm:rs.map (·.1)=X0 o V4 ⟨[],1⟩) (ht:∀t∈ts,0<=t/\t<=255) {k:Nat} {a:An} (h:Zbs o rs ts k=some a):
 k<o.length/\Znk o a k/\ts[k]?≠some 0/\a.at_=10*(k:Int)+(ts[k]?).getD 0/\∃x∈rs,x.2=a.v/\x.1.2.2=a.got:=by
 unfold Zbs at h
 have hrl:rs.length=o.length:=by rw [<-Uy o V4 ⟨[],1⟩,<-hm,List.length_map]
 by_cases hk:k<o.length
 ·have hkr:k<rs.length:=by omega
  rw [List.getElem?_eq_getElem hk,List.getElem?_eq_getElem hkr] at h
  simp only at h
  by_cases h0:ts[k]? =some 0
  ·rw [if_pos h0] at h;cases h
  rw [if_neg h0] at h
  injection h with h
  subst h
  refine ⟨hk,⟨hk,rfl,?_,?_⟩,h0,rfl,_,List.getElem_mem hkr,rfl,rfl⟩
  ·rw [<-hm,List.getElem?_map,List.getElem?_eq_getElem hkr]
   rfl
  simp only
  cases h1:ts[k]? with
  | none=>simp
  | some t=>
    have:=(ht t (List.mem_of_getElem? h1)).1
    simp
    omega
 rw [List.getElem?_eq_none (by omega)] at h
 cases h
theorem Zn6 {o:List Cl} {rs:List (Rep×Value)} {ts:List Int} {n:Nat} {a:An} (h:a∈Uo o rs ts n):∃k<n,Zbs o rs ts k=some a:=by
 unfold Uo at h
 obtain ⟨k,hk,h2⟩:=List.mem_filterMap.1 h
 exact ⟨k,List.mem_range.1 hk,h2⟩
theorem Zeu {w:World} {A:Option Addr} {o:List Cl} {cap k:Nat} (h:Z4 w 3 (.slice A o.length cap) o.length (o.flatMap Cl.cells)) (hk:k<=o.length):Z4 w 3 (.slice A k cap) k ((o.take k).flatMap Cl.cells):=by
 obtain ⟨B,cap',hv,h1,h2,h3,h4⟩:=h
 injection hv with hv1 _ hv2
 subst hv1 hv2
 refine ⟨_,_,rfl,by omega,h2,?_,?_⟩
 ·rw [Ue Cl.cells 3 (fun _=>rfl),List.length_take,Nat.min_eq_left hk]
 rcases h4 with h4 | ⟨g,off,h4,h5,h6⟩
 ·exact .inl (by omega)
 refine .inr ⟨g,off,h4,h5,fun j u hu=>h6 j u ?_⟩
 have hj:j<(o.take k).length*3:=by
  have:=(List.getElem?_eq_some_iff.1 hu).1
  rw [Ue Cl.cells 3 (fun _=>rfl)] at this
  exact this
 have hl:(o.take k).length=k:=by rw [List.length_take];omega
 have hd:j / 3<k:=by omega
 have hm:=Ug (o.take k) (j / 3) (j%3) (by omega) (by omega)
 have hm2:=Ug o (j / 3) (j%3) (by omega) (by omega)
 rw [show j / 3*3+j%3=j by omega] at hm hm2
 rw [hm,List.getElem_take,<-hm2] at hu
 exact hu
set_option maxRecDepth 100000 in
set_option maxHeartbeats 3200000 in
theorem jfine_any (va tv:Value) (l:List Cmd) (ts:List Int) (w:World) (ha:Z4 w 1 va l.length (l.flatMap Cmd.cells)) (hla:∀x∈l,Za9 w x) (ht:Z4 w 1 tv ts.length (ts.map (Value.int .u8))) (hts:∀t∈ts,0<=t/\t<=255) (hn:l.length<=1048576):
 Calls Tryz.prog 4 #[va,tv] w (Ret (.bool true) w):=by
 have hnum:=Vr va l w ha hla hn
 have HT:=Lib.hid ht
 obtain ⟨A,cap,rfl,q1,q2,_⟩:=ha
 obtain ⟨TA,tcap,rfl,t1,t2,t3,t4⟩:=ht
 have hn63:(l.length:Int)<=9223372036854775807:=by omega
 have hm63:(ts.length:Int)<=9223372036854775807:=by unfold maxLen at t2;omega
 have HLA:=Lib.hid hla
 have HTS:=Lib.hid hts
 clear hla hts t3
 go_enter Tryz.func4,Tryz.ntmps4
 go_wp2_with fail
 refine hnum.mono ?_
 rintro e w1 ⟨ov,rfl,e1,hown⟩
 obtain ⟨oc,hoc⟩:∃o:List Cl,o=Zb8 l:=⟨_,rfl⟩
 have hol:oc.length=l.length:=by rw [hoc,Ua]
 have hok:∀W,Ext w1 W->∀c∈oc,J2 W c:=fun W k c hc=>by
  rw [hoc] at hc
  obtain ⟨x,hx,h1,h2⟩:=Zbx hc
  have:=(HLA.out x hx).ext (Xt e1 k)
  exact ⟨by rw [h1,h2];exact this.1,by rw [h2];exact this.2⟩
 have hnd:=Ju l
 rw [<-hoc] at hown hnd
 have hos:Z4 w1 3 ov oc.length (oc.flatMap Cl.cells):=by rw [hol];exact (Zs.of_own hown).arg
 rw [<-hol] at hown
 obtain ⟨OA,ocap,rfl⟩:=Yb hown
 have HOA:=Lib.hid (show (OA=none/\oc.length=0/\ocap=0)\/∃b,OA=some ⟨b,0,none⟩ by
  rcases hown.2 with ⟨h1,_⟩ | ⟨b,cap2,cur,h1,_⟩
  ·simp only [Value.slice.injEq] at h1
   exact .inl ⟨h1.1,by omega,by omega⟩
  simp only [Value.slice.injEq] at h1
  exact .inr ⟨b,h1.1⟩)
 have hgr:=U1 (.slice OA oc.length ocap) oc w1 hos (hok w1 (Ext.refl _))
 have HOL:=Lib.hid hol
 have HOK:=Lib.hid hok
 have HND:=Lib.hid hnd
 clear hnum hoc hol hok hnd
 by_cases hg:(l.length:Int) > 40
 ·have hg':decide ((l.length:Int) > 40)=true:=by simpa using hg
  go_wp2_with fail
  refine (Yp _).mono ?_
  rintro e wz ⟨rfl,ez⟩
  go_wp2
  go_ret
  exact ⟨rfl,Xt e1 ez⟩
 have hg':decide ((l.length:Int) > 40)=false:=by simpa using hg
 go_wp2_with fail
 refine hgr.mono ?_
 rintro e w2 ⟨⟨bg,rfl⟩,e2⟩
 have E2:=Xt e1 e2
 have ho40:oc.length<=40:=by have:=HOL.out;omega
 have hrn:=ran_any (.slice OA oc.length ocap) (.slice TA ts.length tcap) oc ts w2 (hos.ext e2) (HOK.out w2 e2) (by omega) (HT.out.ext E2) HTS.out
 have hos2:=hos.ext e2
 clear hgr hos
 cases bg with
 | true=>
   go_wp2_with fail
   refine (Yp _).mono ?_
   rintro e wz ⟨rfl,ez⟩
   go_wp2
   go_ret
   exact ⟨rfl,Xt E2 ez⟩
 | false=>
   go_wp2_with fail
   refine hrn.mono ?_
   rintro e w3 ⟨cv,av,rs,rfl,e3,hcv,hav,hrs,hmap⟩
   have E3:=Xt E2 e3
   have hcs:Z4 w3 4 cv (Ya oc).length ((Ya oc).flatMap Yr):=by rw [Vc];exact (Zs.of_own hcv).arg
   have has:=(Zs.of_own hav).arg
   obtain ⟨CA,ccap,rfl⟩:=Yb hcv
   obtain ⟨AA,acap,rfl⟩:=Yb hav
   have hall:∀a∈Uo oc rs ts oc.length,∃p,Znk oc a p/\p<oc.length/\ts[p]?≠some 0:=fun a hm=>by
    obtain ⟨k,hk,h1⟩:=Zn6 hm
    obtain ⟨_,h2,h3,_⟩:=Zi3 hmap HTS.out h1
    exact ⟨k,h2,hk,h3⟩
   have hanr:∀a∈Uo oc rs ts oc.length,AnR w3 a:=fun a hm=>by
    obtain ⟨k,hk,h1⟩:=Zn6 hm
    obtain ⟨_,_,_,_,x,hx,h4,h5⟩:=Zi3 hmap HTS.out h1
    have:=hrs x hx
    unfold RpOk at this
    unfold AnR
    rw [<-h4,<-h5]
    exact this
   have hcok:∀W,Ext w3 W->∀x∈Ya oc,J2 W x.1:=fun W k x hx=>by
    obtain ⟨j,hj,rfl⟩:=Y7.1 hx
    exact HOK.out W (Xt e2 (Xt e3 k)) _ (List.getElem_mem hj)
   generalize Uo oc rs ts oc.length=ans at *
   have HALL:=Lib.hid hall
   have hju:∀W,Ext w3 W->∀(n:Nat) (v:Value),n<=oc.length->Z4 W 3 v (oc.take n).length ((oc.take n).flatMap Cl.cells)->(∀a∈ans,∃p,p<n/\Znk oc a p)->Calls Tryz.prog 29 #[.slice CA oc.length ccap,.slice AA ans.length acap,v] W (Ret (.tuple #[.int .u8 0,.int .i64 (-1)]) W):=fun W k n v hn hv hp=>by
    have h:=U0 (Ya oc) ans (oc.take n) (.slice CA oc.length ccap) (.slice AA ans.length acap) v W (hcs.ext k) (has.ext k) hv (hcok W k) (fun a ha=>(hanr a ha).ext k) (fun c hc=>HOK.out W (Xt e2 (Xt e3 k)) c (List.mem_of_mem_take hc)) (by rw [List.length_take];omega)
    rw [Zrc HND.out n ans hp] at h
    exact h
   have hj0:=hju w3 (Ext.refl _) oc.length (.slice OA oc.length ocap) (Nat.le_refl _) (by rw [List.take_length];exact hos2.ext e3) (fun a hm=>by obtain ⟨p,h1,h2,_⟩:=HALL.out a hm;exact ⟨p,h2,h1⟩)
   have ho63:(oc.length:Int)<=9223372036854775807:=by omega
   have hos3:=hos2.ext e3
   have HJU:=Lib.hid hju
   have HOS:=Lib.hid hos3
   clear hcs has hall hanr hcok hju hrs hmap hcv hav hos2 hrn hown hos3
   go_wp2_with fail
   refine hj0.mono ?_
   rintro e w4 ⟨rfl,e4⟩
   clear hj0
   go_wp2_with fail
   have HCP:=Lib.hid (show oc.length<=ocap by obtain ⟨_,_,hv,h1,_⟩:=HOS.out;injection hv with _ _ hv;omega)
   go_loopw [10,47,48,49,50,51,52,53,54,55,56,57,58,59,60,61,62,63,64] (fun iv _ _ _ _ _ _ _ _ _ _ _ _ _ _ _ _ _ _ wr=>∃k:Nat,k<=oc.length/\iv= .int .i64 k/\Ext w3 wr/\Hid (∀p,k<=p->p<oc.length->ts[p]? =some 0)) (fun iv _ _ _ _ _ _ _ _ _ _ _ _ _ _ _ _ _ _ _=>(intOf iv).toNat)
   case atStart=>exact ⟨oc.length,Nat.le_refl _,rfl,e4,Lib.hid (fun p h1 h2=>absurd h2 (by omega))⟩
   clear e4
   obtain ⟨k,hk,rfl,er,HTL⟩:=hrel
   by_cases hk0:k=0
   focus
    have hkp:¬0<k:=by omega
    have hkq:¬(0:Int)<(k:Int):=by omega
    have HK0:=Lib.hid hk0
    clear hk0
    have hjk:=HJU.out wr er k (.slice OA k ocap) hk (by rw [List.length_take,Nat.min_eq_left hk];exact Zeu (HOS.out.ext er) hk) (fun a hm=>by
     obtain ⟨p,h1,h2,h3⟩:=HALL.out a hm
     refine ⟨p,?_,h1⟩
     rcases Nat.lt_or_ge p k with h | h
     ·exact h
     exact absurd (HTL.out p h h2) h3)
    have hk1:(0:Int)<=(k:Int):=by omega
    have hk2:k<=ocap:=by have:=HCP.out;omega
    have hk4:(k:Int)<=(ocap:Int):=by omega
    rcases HOA.out with ⟨h1,h2,h3⟩ | ⟨b,h1⟩
    focus
     have hk3:k=0:=by omega
     subst hk3
     subst h3
     subst h1
     clear h2
    rotate_left
    focus subst h1
   rotate_left 2
   focus
    have hkp:0<k:=by omega
    have hkq:(0:Int)<(k:Int):=by omega
    by_cases hkt:k<=ts.length
    focus
     rcases t4 with t4 | ⟨gt,offt,rfl,hltt,hcellt⟩
     ·omega
     have hktq:(k:Int)<=(ts.length:Int):=by omega
     have hj1:(0:Int)<=(k:Int)-1:=by omega
     have hj2:(k:Int)-1<(ts.length:Int):=by omega
     have hkl:k-1<ts.length:=by omega
     have hct:=(Zh (a:=⟨gt,offt+(k-1),none⟩) ((Xt E3 er).block hltt)).trans (hcellt (k-1) _ (by rw [List.getElem?_map,List.getElem?_eq_getElem hkl];rfl))
     have htg:=List.getElem?_eq_getElem hkl
     generalize (ts[k-1]'hkl)=t at *
     have hct2:=hct
     rw [show k-1=((k:Int)-1).toNat by omega] at hct2
     have HTG:=Lib.hid htg
     clear hcellt htg
     by_cases ht0:t=0
     ·subst ht0
      go_wp2_with fail
      exact ⟨⟨k-1,by omega,by go_num,er,Lib.hid (fun p h1 h2=>by rcases Nat.lt_or_ge p k with h | h;(rw [show p=k-1 by omega];exact HTG.out);exact HTL.out p h h2)⟩,by simp [intOf];omega⟩
     have ht1:(t==0)=false:=by simpa using ht0
     have t4:True:=trivial
    rotate_left
    focus have hktq:¬(k:Int)<=(ts.length:Int):=by omega
    all_goals
     have hjk:=HJU.out wr er k (.slice OA k ocap) hk (by rw [List.length_take,Nat.min_eq_left hk];exact Zeu (HOS.out.ext er) hk) (fun a hm=>by
      obtain ⟨p,h1,h2,h3⟩:=HALL.out a hm
      refine ⟨p,?_,h1⟩
      rcases Nat.lt_or_ge p k with h | h
      ·exact h
      exact absurd (HTL.out p h h2) h3)
     have hk1:(0:Int)<=(k:Int):=by omega
     have hk2:k<=ocap:=by have:=HCP.out;omega
     have hk4:(k:Int)<=(ocap:Int):=by omega
     rcases HOA.out with ⟨h1,h2,h3⟩ | ⟨b,h1⟩
     ·omega
     subst h1
   all_goals
    go_wp2_with fail
    refine hjk.mono ?_
    rintro e w7 ⟨rfl,e7⟩
    clear hjk
    go_wp2_with fail
    refine (Yp _).mono ?_
    rintro e wz ⟨rfl,ez⟩
    go_wp2_with fail
    go_ret
    exact ⟨rfl,Xt E3 (Xt er (Xt e7 ez))⟩
end Go.Proofs.YtipjchbdogmccaaGreat
