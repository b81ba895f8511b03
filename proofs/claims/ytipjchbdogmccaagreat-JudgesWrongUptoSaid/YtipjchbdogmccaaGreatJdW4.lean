/- JudgesWrong's last way: two of an order, turned. JudgesWrong: what is common to its five ways; the guard; the first way (another reply). JudgesWrong's second way: a call that stands twice. Values of several cells put into a row of one's own. -/
import Derived.Test.YtipjchbdogmccaaGreatJdF
import Derived.Test.YtipjchbdogmccaaGreatStands
set_option maxHeartbeats 6400000
set_option maxRecDepth 100000
namespace Go.Proofs.YtipjchbdogmccaaGreat
open Go.RowKit Go.Rg Go.BigFrame
theorem Zcw {l:List Cmd} (hl:l.length<=40) {c:Cl} (h:c∈Zb8 l):1<=c.nu/\c.nu<=6:=by
 unfold Zb8 at h
 obtain ⟨⟨x,i⟩,hm,rfl⟩:=List.mem_map.1 h
 have hi:=(List.mem_zipIdx' hm).1
 show 1<=1+(i:Int) / 8/\1+(i:Int) / 8<=6
 omega
theorem Zk8 {o:List Cl} {rs:List (Rep×Value)} (hl:rs.length=o.length):∀k,k<=o.length->(Uo o rs [] k).length=k/\∀j<k,(Uo o rs [] k)[j]? =Zbs o rs [] j
 | 0,_=>⟨by simp [Uo],fun j hj=>absurd hj (by omega)⟩
 | k+1,hk=>by
   obtain ⟨h1,h2⟩:=Zk8 hl k (by omega)
   have h3:∃a,Zbs o rs [] k=some a:=by
    unfold Zbs
    rw [List.getElem?_eq_getElem (show k<o.length by omega),List.getElem?_eq_getElem (show k<rs.length by omega)]
    simp
   obtain ⟨a,ha⟩:=h3
   rw [Zk7,ha,Option.toList_some]
   refine ⟨by rw [List.length_append,h1];rfl,fun j hj=> ?_⟩
   rcases Nat.lt_or_ge j k with h | h
   ·rw [List.getElem?_append_left (by omega),h2 j h]
   rw [show j=k by omega,List.getElem?_append_right (by omega),h1,Nat.sub_self,ha]
   rfl
def AnS (w:World) (base:Nat) (a:An):Prop:=Zs w base 2 a.v a.got.length (gtC a.got)
theorem Ze2 {o:List Cl} {rs:List (Rep×Value)} {w:World} {base:Nat} (hm:rs.map (·.1)=X0 o V4 ⟨[],1⟩) (hr:∀x∈rs,Zs w base 2 x.2 x.1.2.2.length (gtC x.1.2.2)):
 (Uo o rs [] o.length).length=o.length/\∀j (hj:j<(Uo o rs [] o.length).length),Znk o ((Uo o rs [] o.length)[j]'hj) j/\((Uo o rs [] o.length)[j]'hj).at_=10*(j:Int)/\AnS w base ((Uo o rs [] o.length)[j]'hj):=by
 have hl:rs.length=o.length:=by rw [<-Uy o V4 ⟨[],1⟩,<-hm,List.length_map]
 obtain ⟨h1,h2⟩:=Zk8 hl o.length (Nat.le_refl _)
 refine ⟨h1,fun j hj=> ?_⟩
 have h3:=h2 j (by omega)
 rw [List.getElem?_eq_getElem hj] at h3
 obtain ⟨_,h4,_,h5,x,hx,h6,h7⟩:=Zi3 hm (fun t ht=>absurd ht (by simp)) h3.symm
 refine ⟨h4,by simpa using h5,?_⟩
 have:=hr x hx
 unfold AnS
 rw [<-h6,<-h7]
 exact this
theorem Xw {w:World} {base size n:Nat} {e:TypeId} {v:Value} {xs:List Value} (h:w.ownsRow base e size v n xs) (hn:0<n):∃b cap,v= .slice (some ⟨b,0,none⟩) n cap/\base<=b/\b<w.heap.size/\n<=cap:=by
 rcases h.2 with ⟨_,h1,_⟩ | ⟨b,cap,cur,hv,hb,hg,h1,_⟩
 ·omega
 exact ⟨b,cap,hv,hb,Zg hg,h1⟩
theorem Zov (va:Value) (l:List Cmd) (at_ wy:Int) (w:World) (ha:Z4 w 1 va l.length (l.flatMap Cmd.cells)) (hla:∀x∈l,Za9 w x) (hn:l.length<=1048576) (hg:l.length<2\/40<l.length):
 Calls Tryz.prog 5 #[va,.int .u8 at_,.int .u8 wy] w (Ret (.bool true) w):=by
 have hnum:=Vr va l w ha hla hn
 obtain ⟨A,cap,rfl,q1,q2,_⟩:=ha
 have hn63:(l.length:Int)<=9223372036854775807:=by omega
 have HLA:=Lib.hid hla
 clear hla
 go_enter Tryz.func5,Tryz.ntmps5
 go_wp2_with fail
 refine hnum.mono ?_
 rintro e w1 ⟨ov,rfl,e1,hown⟩
 clear hown hnum
 by_cases hg40:(l.length:Int) > 40
 focus have hg':decide ((l.length:Int) > 40)=true:=by simpa using hg40
 rotate_left
 focus
  have hg':decide ((l.length:Int) > 40)=false:=by simpa using hg40
  have hg2:(l.length:Int)<2:=by omega
  have hg3:decide ((l.length:Int)<2)=true:=by simpa using hg2
 all_goals
  go_wp2_with fail
  refine (Yp _).mono ?_
  rintro e wz ⟨rfl,ez⟩
  go_wp2
  go_ret
  exact ⟨rfl,Xt e1 ez⟩
theorem Zjy {α:Type} (f:α->List Value) (n:Nat) (hs:∀x,(f x).length=n):∀(l:List α) (k j:Nat) (hk:k<l.length) (_:j<n) (x:Value) (y:α),f y=(f (l[k]'hk)).set j x->(l.flatMap f).set (k*n+j) x=(l.set k y).flatMap f
 | [],k,_,hk,_,_,_,_=>absurd hk (by simp)
 | a::l,0,j,_,hj,x,y,h=>by
   simp only [Nat.zero_mul,Nat.zero_add,List.flatMap_cons,List.set_cons_zero,List.getElem_cons_zero] at h ⊢
   rw [List.set_append_left _ _ (by rw [hs];exact hj),h]
 | a::l,k+1,j,hk,hj,x,y,h=>by
   simp only [List.flatMap_cons,List.set_cons_succ,List.getElem_cons_succ] at h ⊢
   rw [List.set_append_right _ _ (by rw [hs,Nat.add_mul];omega),hs,show (k+1)*n+j-n=k*n+j by rw [Nat.add_mul];omega,Zjy f n hs l k j (by simpa using hk) hj x y h]
theorem wrap_ne (z:Int):wrap64 (z+1)≠z:=by unfold wrap64;omega
theorem jw0_any (va:Value) (l:List Cmd) (at_ wy:Int) (w:World) (ha:Z4 w 1 va l.length (l.flatMap Cmd.cells)) (hla:∀x∈l,Za9 w x) (hl2:2<=l.length) (hl40:l.length<=40) (hat:0<=at_/\at_<=255) (hwy:wy.tmod 5=0):
 Calls Tryz.prog 5 #[va,.int .u8 at_,.int .u8 wy] w (Ret (.bool true) w):=by
 have hn:l.length<=1048576:=by omega
 have hnum:=Vr va l w ha hla hn
 obtain ⟨A,cap,rfl,q1,q2,_⟩:=ha
 have hn63:(l.length:Int)<=9223372036854775807:=by omega
 have HLA:=Lib.hid hla
 clear hla
 go_enter Tryz.func5,Tryz.ntmps5
 go_wp2_with fail
 refine hnum.mono ?_
 rintro e w1 ⟨ov,rfl,e1,hown⟩
 obtain ⟨oc,hoc⟩:∃o:List Cl,o=Zb8 l:=⟨_,rfl⟩
 have hol:oc.length=l.length:=by rw [hoc,Ua]
 have hok:∀W,Ext w W->∀c∈oc,J2 W c:=fun W k c hc=>by
  rw [hoc] at hc
  obtain ⟨x,hx,h1,h2⟩:=Zbx hc
  have:=(HLA.out x hx).ext k
  exact ⟨by rw [h1,h2];exact this.1,by rw [h2];exact this.2⟩
 have hnd:=Ju l
 have hnu:∀c∈oc,1<=c.nu/\c.nu<=6:=fun c hc=>Zcw hl40 (by rw [<-hoc];exact hc)
 rw [<-hoc] at hown hnd
 rw [<-hol] at hown
 obtain ⟨ob,ocap,rfl,hob1,hob2,hob3⟩:=Xw hown (by omega)
 have hos:Z4 w1 3 (.slice (some ⟨ob,0,none⟩) oc.length ocap) oc.length (oc.flatMap Cl.cells):=(Zs.of_own hown).arg
 have hgr:=U1 _ oc w1 hos (hok w1 e1)
 have HOWN:=Lib.hid hown
 have HOK:=Lib.hid hok
 have HND:=Lib.hid hnd
 have HNU:=Lib.hid hnu
 have hg1:¬(l.length:Int) > 40:=by omega
 have hg':decide ((l.length:Int) > 40)=false:=by simpa using hg1
 have hg2:¬(l.length:Int)<2:=by omega
 have hg3:decide ((l.length:Int)<2)=false:=by simpa using hg2
 have ho2:2<=oc.length:=by omega
 have ho40:oc.length<=40:=by omega
 clear hnum hoc hol hok hnd hnu hown
 go_wp2_with fail
 refine hgr.mono ?_
 rintro e w2 ⟨⟨bg,rfl⟩,e2⟩
 have E2:=Xt e1 e2
 have hrn:=Zdm (.slice (some ⟨ob,0,none⟩) oc.length ocap) (.slice none 0 0) oc [] w2 (hos.ext e2) (HOK.out w2 E2) (by omega) ⟨none,0,rfl,Nat.le_refl _,Nat.zero_le _,by simp,.inl rfl⟩ (fun t ht=>absurd ht (by simp))
 clear hgr hos
 rcases bg with _ | _
 case true=>
  go_wp2_with fail
  refine (Yp _).mono ?_
  rintro e wz ⟨rfl,ez⟩
  go_wp2
  go_ret
  exact ⟨rfl,Xt E2 ez⟩
 go_wp2_with fail
 refine hrn.mono ?_
 rintro e w3 ⟨cv,av,rs,wb,rfl,eb,e3,hcv,hav,hrs,hmap⟩
 obtain ⟨hal,han⟩:=Ze2 hmap hrs
 generalize Uo oc rs [] oc.length=ans at *
 rw [hal] at hav
 obtain ⟨cb,ccap,rfl,hcb1,hcb2,hcb3⟩:=Xw hcv (by omega)
 obtain ⟨ab,acap,rfl,hab1,hab2,hab3⟩:=Xw hav (by omega)
 have EB:=Xt E2 eb
 have E3:=Xt EB e3
 have hsb:=eb.size
 have hs2:=e2.size
 have HCV:=Lib.hid hcv
 have HAV:=Lib.hid hav
 have HAL:=Lib.hid hal
 have HAN:=Lib.hid han
 have HOW3:=Lib.hid (Zn (Zn HOWN.out e2) (Xt eb e3))
 have hneA:cb≠ab:=fun h=>Yh hcv (X5 hav).choose_spec (by decide) (by rw [h];rfl)
 clear hrn hrs hmap hcv hav hal han
 have ho63:(oc.length:Int)<=9223372036854775807:=by omega
 have hopos:(oc.length:Int)≠0:=by omega
 obtain ⟨i,hi⟩:∃i:Nat,at_%(oc.length:Int)=(i:Int):=⟨_,(Int.toNat_of_nonneg (Int.emod_nonneg _ hopos)).symm⟩
 have hil:i<oc.length:=by have:=Int.emod_lt_of_pos at_ (show (0:Int)<oc.length by omega);omega
 have hi1:(0:Int)<=(i:Int):=by omega
 have hi2:(i:Int)<(oc.length:Int):=by omega
 have hia:i<ans.length:=by have:=HAL.out;omega
 have hy0:(wy.tmod 5==0)=true:=by simpa using hwy
 obtain ⟨z,hz⟩:∃z,(ans[i]'hia).i=z:=⟨_,rfl⟩
 have hx:w3.cell? ⟨ab,i*6+2+1,none⟩=some (.int .i64 z):=(Z2 HAV.out).2 (i*6+2+1) _ (by
  have:=Zch ans i 3 hia (by omega)
  rw [show i*6+2+1=i*6+3 by omega,this,<-hz]
  rfl)
 have hfr:w3.frozen? ⟨ab,i*6+2+1,none⟩=false:=frozen_of_row w3 ab (i*6+2+1) _ _ (X5 HAV.out).choose_spec
 have hju:∀z',z'≠z->Calls Tryz.prog 29 #[.slice (some ⟨cb,0,none⟩) oc.length ccap,.slice (some ⟨ab,0,none⟩) oc.length acap,.slice (some ⟨ob,0,none⟩) oc.length ocap] (w3.setCell ⟨ab,i*6+2+1,none⟩ (.int .i64 z')) (Ret (.tuple #[.int .u8 4,.int .i64 (i:Int)]) (w3.setCell ⟨ab,i*6+2+1,none⟩ (.int .i64 z'))):=fun z' hne=>by
  have hal:=HAL.out
  have eb4:Ext wb (w3.setCell ⟨ab,i*6+2+1,none⟩ (.int .i64 z')):=Below.setCell e3 hab1 _
  have e14:Ext w1 (w3.setCell ⟨ab,i*6+2+1,none⟩ (.int .i64 z')):=Below.setCell (Xt e2 (Xt eb e3)) (show w1.heap.size<=ab by omega) _
  have hc4:=ownsRow_setCell_other HCV.out (a:=⟨ab,i*6+2+1,none⟩) (fun h=>hneA (by injection h)) (.int .i64 z')
  have ha4:=Uj HAV.out (i*6+2+1) (.int .i64 z')
  rw [show i*6+2+1=i*6+3 by omega,Zjy An.cells 6 (fun _=>rfl) ans i 3 hia (by omega) (.int .i64 z') { (ans[i]'hia) with i:=z' } rfl] at ha4
  rw [show i*6+2+1=i*6+3 by omega] at eb4 e14 hc4 ⊢
  generalize w3.setCell ⟨ab,i*6+3,none⟩ (.int .i64 z')=w4 at *
  have has:=(Zs.of_own ha4).arg
  have hcs:=(Zs.of_own hc4).arg
  have hj:=U0 (Ya oc) (ans.set i { (ans[i]'hia) with i:=z' }) oc (.slice (some ⟨cb,0,none⟩) oc.length ccap) (.slice (some ⟨ab,0,none⟩) oc.length acap) (.slice (some ⟨ob,0,none⟩) oc.length ocap) w4 (by rw [Vc];exact hcs) (by rw [List.length_set,hal];exact has) ((Zs.of_own HOWN.out).arg.ext e14)
   (fun x hx=>by
     obtain ⟨j,hj,rfl⟩:=Y7.1 hx
     exact HOK.out w4 (Xt EB eb4) _ (List.getElem_mem hj))
   (fun a ha=>by
     rcases List.mem_or_eq_of_mem_set ha with h | h
     ·obtain ⟨j,hj,rfl⟩:=List.mem_iff_getElem.1 h
      exact Z4.ext (HAN.out j hj).2.2.arg eb4
     rw [h]
     exact Z4.ext (HAN.out i hia).2.2.arg eb4)
   (fun c hc=>HOK.out w4 (Xt EB eb4) c hc) (by omega)
  rw [Zox HND.out _ i hil (by rw [List.length_set,hal]) (fun j hj hji=>by
   rw [List.getElem_set_ne (by omega)]
   exact (HAN.out j (by rw [List.length_set] at hj;exact hj)).1) (by
   rw [List.getElem_set_self]
   exact (HAN.out i hia).1.choose_spec.1) (by
   rw [List.getElem_set_self,(HAN.out i hia).1.choose_spec.2.1]
   intro h
   injection h with h
   simp only [Prod.mk.injEq] at h
   exact hne (by rw [<-hz];exact h.2.1.symm))] at hj
  exact hj
 have HJU:=Lib.hid hju
 clear hju hz
 go_wp2_with fail
 refine (HJU.out _ (wrap_ne z)).mono ?_
 rintro e w5 ⟨rfl,e5⟩
 have E5:=Xt (Below.setCell E3 (show w.heap.size<=ab by omega) (.int .i64 (wrap64 (z+1))):Ext w (w3.setCell ⟨ab,i*6+2+1,none⟩ (.int .i64 (wrap64 (z+1))))) e5
 clear hx hfr
 go_wp2_with fail
 refine (Yp _).mono ?_
 rintro e wz ⟨rfl,ez⟩
 go_wp2
 go_ret
 exact ⟨rfl,Xt E5 ez⟩
theorem jw2_any (va:Value) (l:List Cmd) (at_ wy:Int) (w:World) (ha:Z4 w 1 va l.length (l.flatMap Cmd.cells)) (hla:∀x∈l,Za9 w x) (hl2:2<=l.length) (hl40:l.length<=40) (hat:0<=at_/\at_<=255) (hwy:wy.tmod 5=2):
 Calls Tryz.prog 5 #[va,.int .u8 at_,.int .u8 wy] w (Ret (.bool true) w):=by
 have hn:l.length<=1048576:=by omega
 have hnum:=Vr va l w ha hla hn
 obtain ⟨A,cap,rfl,q1,q2,_⟩:=ha
 have hn63:(l.length:Int)<=9223372036854775807:=by omega
 have HLA:=Lib.hid hla
 clear hla
 go_enter Tryz.func5,Tryz.ntmps5
 go_wp2_with fail
 refine hnum.mono ?_
 rintro e w1 ⟨ov,rfl,e1,hown⟩
 obtain ⟨oc,hoc⟩:∃o:List Cl,o=Zb8 l:=⟨_,rfl⟩
 have hol:oc.length=l.length:=by rw [hoc,Ua]
 have hok:∀W,Ext w W->∀c∈oc,J2 W c:=fun W k c hc=>by
  rw [hoc] at hc
  obtain ⟨x,hx,h1,h2⟩:=Zbx hc
  have:=(HLA.out x hx).ext k
  exact ⟨by rw [h1,h2];exact this.1,by rw [h2];exact this.2⟩
 have hnd:=Ju l
 have hnu:∀c∈oc,1<=c.nu/\c.nu<=6:=fun c hc=>Zcw hl40 (by rw [<-hoc];exact hc)
 rw [<-hoc] at hown hnd
 rw [<-hol] at hown
 obtain ⟨ob,ocap,rfl,hob1,hob2,hob3⟩:=Xw hown (by omega)
 have hos:Z4 w1 3 (.slice (some ⟨ob,0,none⟩) oc.length ocap) oc.length (oc.flatMap Cl.cells):=(Zs.of_own hown).arg
 have hgr:=U1 _ oc w1 hos (hok w1 e1)
 have HOWN:=Lib.hid hown
 have HOK:=Lib.hid hok
 have HND:=Lib.hid hnd
 have HNU:=Lib.hid hnu
 have hg1:¬(l.length:Int) > 40:=by omega
 have hg':decide ((l.length:Int) > 40)=false:=by simpa using hg1
 have hg2:¬(l.length:Int)<2:=by omega
 have hg3:decide ((l.length:Int)<2)=false:=by simpa using hg2
 have ho2:2<=oc.length:=by omega
 have ho40:oc.length<=40:=by omega
 clear hnum hoc hol hok hnd hnu hown
 go_wp2_with fail
 refine hgr.mono ?_
 rintro e w2 ⟨⟨bg,rfl⟩,e2⟩
 have E2:=Xt e1 e2
 have hrn:=Zdm (.slice (some ⟨ob,0,none⟩) oc.length ocap) (.slice none 0 0) oc [] w2 (hos.ext e2) (HOK.out w2 E2) (by omega) ⟨none,0,rfl,Nat.le_refl _,Nat.zero_le _,by simp,.inl rfl⟩ (fun t ht=>absurd ht (by simp))
 clear hgr hos
 rcases bg with _ | _
 case true=>
  go_wp2_with fail
  refine (Yp _).mono ?_
  rintro e wz ⟨rfl,ez⟩
  go_wp2
  go_ret
  exact ⟨rfl,Xt E2 ez⟩
 go_wp2_with fail
 refine hrn.mono ?_
 rintro e w3 ⟨cv,av,rs,wb,rfl,eb,e3,hcv,hav,hrs,hmap⟩
 obtain ⟨hal,han⟩:=Ze2 hmap hrs
 generalize Uo oc rs [] oc.length=ans at *
 rw [hal] at hav
 obtain ⟨cb,ccap,rfl,hcb1,hcb2,hcb3⟩:=Xw hcv (by omega)
 obtain ⟨ab,acap,rfl,hab1,hab2,hab3⟩:=Xw hav (by omega)
 have EB:=Xt E2 eb
 have E3:=Xt EB e3
 have hsb:=eb.size
 have hs2:=e2.size
 have HCV:=Lib.hid hcv
 have HAV:=Lib.hid hav
 have HAL:=Lib.hid hal
 have HAN:=Lib.hid han
 have HOW3:=Lib.hid (Zn (Zn HOWN.out e2) (Xt eb e3))
 have hneA:cb≠ab:=fun h=>Yh hcv (X5 hav).choose_spec (by decide) (by rw [h];rfl)
 clear hrn hrs hmap hcv hav hal han
 have ho63:(oc.length:Int)<=9223372036854775807:=by omega
 have hopos:(oc.length:Int)≠0:=by omega
 obtain ⟨i,hi⟩:∃i:Nat,at_%(oc.length:Int)=(i:Int):=⟨_,(Int.toNat_of_nonneg (Int.emod_nonneg _ hopos)).symm⟩
 have hil:i<oc.length:=by have:=Int.emod_lt_of_pos at_ (show (0:Int)<oc.length by omega);omega
 have hi1:(0:Int)<=(i:Int):=by omega
 have hi2:(i:Int)<(oc.length:Int):=by omega
 have hia:i<ans.length:=by have:=HAL.out;omega
 have hy0:(wy.tmod 5==0)=false:=by simp [hwy]
 have hy1:(wy.tmod 5==1)=false:=by simp [hwy]
 have hy2:(wy.tmod 5==2)=true:=by simpa using hwy
 obtain ⟨z,hz⟩:∃z,(oc[i]'hil).nu=z:=⟨_,rfl⟩
 have hzb:=HNU.out _ (List.getElem_mem hil)
 rw [hz] at hzb
 have hz1:0<=z+100:=by omega
 have hz2:z+100<18446744073709551616:=by omega
 have hz3:z+100<=18446744073709551615:=by omega
 have hx:w3.cell? ⟨ob,i*3+1,none⟩=some (.int .u64 z):=(Z2 HOW3.out).2 (i*3+1) _ (by
  rw [Ug oc i 1 hil (by omega),<-hz]
  rfl)
 have hfr:w3.frozen? ⟨ob,i*3+1,none⟩=false:=frozen_of_row w3 ob (i*3+1) _ _ (X5 HOW3.out).choose_spec
 have hju:Calls Tryz.prog 29 #[.slice (some ⟨cb,0,none⟩) oc.length ccap,.slice (some ⟨ab,0,none⟩) oc.length acap,.slice (some ⟨ob,0,none⟩) oc.length ocap] (w3.setCell ⟨ob,i*3+1,none⟩ (.int .u64 (z+100))) (Ret (.tuple #[.int .u8 1,.int .i64 (i:Int)]) (w3.setCell ⟨ob,i*3+1,none⟩ (.int .u64 (z+100)))):=by
  have hal:=HAL.out
  have e4:Ext w (w3.setCell ⟨ob,i*3+1,none⟩ (.int .u64 (z+100))):=Below.setCell E3 hob1 _
  have k4:Keep [ob] w3 (w3.setCell ⟨ob,i*3+1,none⟩ (.int .u64 (z+100))):=Keep.setCell (Keep.refl _ _) (.inl (by simp)) _
  have hc4:=ownsRow_setCell_below HCV.out (a:=⟨ob,i*3+1,none⟩) (show ob<wb.heap.size by omega) (.int .u64 (z+100))
  have ha4:=ownsRow_setCell_below HAV.out (a:=⟨ob,i*3+1,none⟩) (show ob<wb.heap.size by omega) (.int .u64 (z+100))
  have ho4:=Uj HOW3.out (i*3+1) (.int .u64 (z+100))
  rw [Zjy Cl.cells 3 (fun _=>rfl) oc i 1 hil (by omega) (.int .u64 (z+100)) { (oc[i]'hil) with nu:=z+100 } rfl] at ho4
  generalize w3.setCell ⟨ob,i*3+1,none⟩ (.int .u64 (z+100))=w4 at *
  have has:=(Zs.of_own ha4).arg
  have hcs:=(Zs.of_own hc4).arg
  have hos:=(Zs.of_own ho4).arg
  have hj:=U0 (Ya oc) ans (oc.set i { (oc[i]'hil) with nu:=z+100 }) (.slice (some ⟨cb,0,none⟩) oc.length ccap) (.slice (some ⟨ab,0,none⟩) oc.length acap) (.slice (some ⟨ob,0,none⟩) oc.length ocap) w4 (by rw [Vc];exact hcs) (by rw [hal];exact has) (by rw [List.length_set];exact hos)
   (fun x hx=>by
     obtain ⟨j,hj,rfl⟩:=Y7.1 hx
     exact HOK.out w4 e4 _ (List.getElem_mem hj))
   (fun a ha=>by
     obtain ⟨j,hj,rfl⟩:=List.mem_iff_getElem.1 ha
     exact (((HAN.out j hj).2.2.ext e3).keep k4 (fun x hx=>by simp at hx;omega)).arg)
   (fun c hc=>by
     rcases List.mem_or_eq_of_mem_set hc with h | h
     ·exact HOK.out w4 e4 c h
     have h0:=HOK.out w4 e4 (oc[i]'hil) (List.getElem_mem hil)
     rw [h]
     exact ⟨h0.1,h0.2⟩) (by rw [List.length_set];omega)
  rw [Zjo HND.out ans i hil _ (fun x hx=>by
   intro h
   have h2:x.nu=z+100:=congrArg Prod.snd h
   have:=HNU.out x hx
   omega)] at hj
  exact hj
 have HJU:=Lib.hid hju
 clear hju hz
 go_wp2_with fail
 refine HJU.out.mono ?_
 rintro e w5 ⟨rfl,e5⟩
 have E5:=Xt (Below.setCell E3 hob1 (.int .u64 (z+100)):Ext w (w3.setCell ⟨ob,i*3+1,none⟩ (.int .u64 (z+100)))) e5
 clear hx hfr
 go_wp2_with fail
 refine (Yp _).mono ?_
 rintro e wz ⟨rfl,ez⟩
 go_wp2
 go_ret
 exact ⟨rfl,Xt E5 ez⟩
theorem jw3_any (va:Value) (l:List Cmd) (at_ wy:Int) (w:World) (ha:Z4 w 1 va l.length (l.flatMap Cmd.cells)) (hla:∀x∈l,Za9 w x) (hl2:2<=l.length) (hl40:l.length<=40) (hat:0<=at_/\at_<=255) (hwy:wy.tmod 5=3):
 Calls Tryz.prog 5 #[va,.int .u8 at_,.int .u8 wy] w (Ret (.bool true) w):=by
 have hn:l.length<=1048576:=by omega
 have hnum:=Vr va l w ha hla hn
 obtain ⟨A,cap,rfl,q1,q2,_⟩:=ha
 have hn63:(l.length:Int)<=9223372036854775807:=by omega
 have HLA:=Lib.hid hla
 clear hla
 go_enter Tryz.func5,Tryz.ntmps5
 go_wp2_with fail
 refine hnum.mono ?_
 rintro e w1 ⟨ov,rfl,e1,hown⟩
 obtain ⟨oc,hoc⟩:∃o:List Cl,o=Zb8 l:=⟨_,rfl⟩
 have hol:oc.length=l.length:=by rw [hoc,Ua]
 have hok:∀W,Ext w W->∀c∈oc,J2 W c:=fun W k c hc=>by
  rw [hoc] at hc
  obtain ⟨x,hx,h1,h2⟩:=Zbx hc
  have:=(HLA.out x hx).ext k
  exact ⟨by rw [h1,h2];exact this.1,by rw [h2];exact this.2⟩
 have hnd:=Ju l
 have hnu:∀c∈oc,1<=c.nu/\c.nu<=6:=fun c hc=>Zcw hl40 (by rw [<-hoc];exact hc)
 rw [<-hoc] at hown hnd
 rw [<-hol] at hown
 obtain ⟨ob,ocap,rfl,hob1,hob2,hob3⟩:=Xw hown (by omega)
 have hos:Z4 w1 3 (.slice (some ⟨ob,0,none⟩) oc.length ocap) oc.length (oc.flatMap Cl.cells):=(Zs.of_own hown).arg
 have hgr:=U1 _ oc w1 hos (hok w1 e1)
 have HOWN:=Lib.hid hown
 have HOK:=Lib.hid hok
 have HND:=Lib.hid hnd
 have HNU:=Lib.hid hnu
 have hg1:¬(l.length:Int) > 40:=by omega
 have hg':decide ((l.length:Int) > 40)=false:=by simpa using hg1
 have hg2:¬(l.length:Int)<2:=by omega
 have hg3:decide ((l.length:Int)<2)=false:=by simpa using hg2
 have ho2:2<=oc.length:=by omega
 have ho40:oc.length<=40:=by omega
 clear hnum hoc hol hok hnd hnu hown
 go_wp2_with fail
 refine hgr.mono ?_
 rintro e w2 ⟨⟨bg,rfl⟩,e2⟩
 have E2:=Xt e1 e2
 have hrn:=Zdm (.slice (some ⟨ob,0,none⟩) oc.length ocap) (.slice none 0 0) oc [] w2 (hos.ext e2) (HOK.out w2 E2) (by omega) ⟨none,0,rfl,Nat.le_refl _,Nat.zero_le _,by simp,.inl rfl⟩ (fun t ht=>absurd ht (by simp))
 clear hgr hos
 rcases bg with _ | _
 case true=>
  go_wp2_with fail
  refine (Yp _).mono ?_
  rintro e wz ⟨rfl,ez⟩
  go_wp2
  go_ret
  exact ⟨rfl,Xt E2 ez⟩
 go_wp2_with fail
 refine hrn.mono ?_
 rintro e w3 ⟨cv,av,rs,wb,rfl,eb,e3,hcv,hav,hrs,hmap⟩
 obtain ⟨hal,han⟩:=Ze2 hmap hrs
 generalize Uo oc rs [] oc.length=ans at *
 rw [hal] at hav
 obtain ⟨cb,ccap,rfl,hcb1,hcb2,hcb3⟩:=Xw hcv (by omega)
 obtain ⟨ab,acap,rfl,hab1,hab2,hab3⟩:=Xw hav (by omega)
 have EB:=Xt E2 eb
 have E3:=Xt EB e3
 have hsb:=eb.size
 have hs2:=e2.size
 have HCV:=Lib.hid hcv
 have HAV:=Lib.hid hav
 have HAL:=Lib.hid hal
 have HAN:=Lib.hid han
 have HOW3:=Lib.hid (Zn (Zn HOWN.out e2) (Xt eb e3))
 have hneA:cb≠ab:=fun h=>Yh hcv (X5 hav).choose_spec (by decide) (by rw [h];rfl)
 clear hrn hrs hmap hcv hav hal han
 have ho63:(oc.length:Int)<=9223372036854775807:=by omega
 have hopos:(oc.length:Int)≠0:=by omega
 obtain ⟨i,hi⟩:∃i:Nat,at_%(oc.length:Int)=(i:Int):=⟨_,(Int.toNat_of_nonneg (Int.emod_nonneg _ hopos)).symm⟩
 have hil:i<oc.length:=by have:=Int.emod_lt_of_pos at_ (show (0:Int)<oc.length by omega);omega
 have hi1:(0:Int)<=(i:Int):=by omega
 have hi2:(i:Int)<(oc.length:Int):=by omega
 have hia:i<ans.length:=by have:=HAL.out;omega
 have hy0:(wy.tmod 5==0)=false:=by simp [hwy]
 have hy1:(wy.tmod 5==1)=false:=by simp [hwy]
 have hy2:(wy.tmod 5==2)=false:=by simp [hwy]
 have hy3:(wy.tmod 5==3)=true:=by simpa using hwy
 have hju:Calls Tryz.prog 29 #[.slice (some ⟨cb,0,none⟩) oc.length ccap,.slice (some ⟨ab,0,none⟩) oc.length acap,.slice (some ⟨ob,0,none⟩) (oc.length-1) ocap] w3 (Ret (.tuple #[.int .u8 3,.int .i64 ((oc.length:Int)-1)]) w3):=by
  have hal:=HAL.out
  have hto:oc.length-1<=oc.length:=by omega
  have hj:=U0 (Ya oc) ans (oc.take (oc.length-1)) (.slice (some ⟨cb,0,none⟩) oc.length ccap) (.slice (some ⟨ab,0,none⟩) oc.length acap) (.slice (some ⟨ob,0,none⟩) (oc.length-1) ocap) w3 (by rw [Vc];exact (Zs.of_own HCV.out).arg) (by rw [hal];exact (Zs.of_own HAV.out).arg) (by rw [List.length_take,Nat.min_eq_left hto];exact Zeu (Zs.of_own HOW3.out).arg hto)
   (fun x hx=>by
     obtain ⟨j,hj,rfl⟩:=Y7.1 hx
     exact HOK.out w3 E3 _ (List.getElem_mem hj))
   (fun a ha=>by
     obtain ⟨j,hj,rfl⟩:=List.mem_iff_getElem.1 ha
     exact Z4.ext (HAN.out j hj).2.2.arg e3)
   (fun c hc=>HOK.out w3 E3 c (List.mem_of_mem_take hc)) (by rw [List.length_take];omega)
  rw [Zrb HND.out ans hal (by omega) (fun j hj=>(HAN.out j hj).1)] at hj
  rw [show ((oc.length-1:Nat):Int)=(oc.length:Int)-1 by omega] at hj
  exact hj
 have HJU:=Lib.hid hju
 have hk1:(0:Int)<=(oc.length:Int)-1:=by omega
 have hk2:(oc.length:Int)-1<=(ocap:Int):=by omega
 have hk3:oc.length-1<=ocap:=by omega
 clear hju
 go_wp2_with fail
 refine HJU.out.mono ?_
 rintro e w5 ⟨rfl,e5⟩
 have E5:=Xt E3 e5
 go_wp2_with fail
 refine (Yp _).mono ?_
 rintro e wz ⟨rfl,ez⟩
 go_wp2
 go_ret
 exact ⟨rfl,Xt E5 ez⟩
end Go.Proofs.YtipjchbdogmccaaGreat
namespace Go.Rg
open Go.RowKit
theorem Zcm {P:Program} {o:Oper} {a:Act} {w:World} {R:Value->World->Prop} (s x:Operand) (t:TypeId) (hop:o.op= .call { callee:= .builtin .append,args:=#[s,x],argTypes:=#[t,t] })
 (base:Nat) (e:TypeId) (ti:TypeInfo) (z:Value) (size bytes:Nat) (ht:P.underlying t=some (.slice e)) (hi:P.info? e=some ti) (hz:ti.zero=some z) (hsize:ti.size=size) (hby:ti.bytes=bytes) (hzs:z.cells.size=size) (hsz:0<size)
 (v:Value) (k:Nat) (xs:List Value) (hs:a.eval s=v) (hown:w.ownsRow base e size v k xs) (ad:Addr) (m c:Nat) (news:List Value) (hx:a.eval x= .slice (some ad) m c) (hl:news.length=m*size) (hnews:∀j u,news[j]? =some u->w.cell? (ad.add j)=some u)
 (h1:∀u∈news,u.oneCell'=true) (h63:k+m<=maxLen) (hbytes:(k+m)*bytes<=140737488355328) (hbase:base<=w.heap.size)
 (h:∀v' w2,w2.ownsRow base e size v' (k+m) (xs++news)->w.grownBy w2 v.ownBlock->R v' w2):X3 P o a w R:=by
 obtain ⟨v',w2,hrun,h2,h3,_⟩:=run_append_own (P:=P) w base t o.type e ti z size bytes ht hi hz hsize hby hzs hsz v k xs hown ad m c news hl hnews h1 h63 hbytes hbase
 unfold X3 execOp
 simp only [hop,resolve,invoke,builtin,Sem.run_bind,Sem.run_pure,Result.andThen_ok,List.map_toArray,List.map_cons,List.map_nil,hs,hx,hrun,Xz]
 exact h v' w2 h2 h3
end Go.Rg
namespace Go.Proofs.YtipjchbdogmccaaGreat
open Go.RowKit Go.Rg Go.BigFrame
theorem Zhj (l:List Cl) (hv:∀c∈l,∃A n cap,c.v= .slice A n cap):∀u∈l.flatMap Cl.cells,u.oneCell'=true:=by
 intro u hu
 obtain ⟨c,hc,hm⟩:=List.mem_flatMap.1 hu
 obtain ⟨A,n,cap,h⟩:=hv c hc
 unfold Cl.cells at hm
 rw [h] at hm
 simp only [List.mem_cons,List.not_mem_nil,or_false] at hm
 rcases hm with rfl | rfl | rfl<;>rfl
theorem jw1_any (va:Value) (l:List Cmd) (at_ wy:Int) (w:World) (ha:Z4 w 1 va l.length (l.flatMap Cmd.cells)) (hla:∀x∈l,Za9 w x) (hl2:2<=l.length) (hl40:l.length<=40) (hat:0<=at_/\at_<=255) (hwy:wy.tmod 5=1):
 Calls Tryz.prog 5 #[va,.int .u8 at_,.int .u8 wy] w (Ret (.bool true) w):=by
 have hn:l.length<=1048576:=by omega
 have hnum:=Vr va l w ha hla hn
 obtain ⟨A,cap,rfl,q1,q2,_⟩:=ha
 have hn63:(l.length:Int)<=9223372036854775807:=by omega
 have HLA:=Lib.hid hla
 clear hla
 go_enter Tryz.func5,Tryz.ntmps5
 go_wp2_with fail
 refine hnum.mono ?_
 rintro e w1 ⟨ov,rfl,e1,hown⟩
 obtain ⟨oc,hoc⟩:∃o:List Cl,o=Zb8 l:=⟨_,rfl⟩
 have hol:oc.length=l.length:=by rw [hoc,Ua]
 have hok:∀W,Ext w W->∀c∈oc,J2 W c:=fun W k c hc=>by
  rw [hoc] at hc
  obtain ⟨x,hx,h1,h2⟩:=Zbx hc
  have:=(HLA.out x hx).ext k
  exact ⟨by rw [h1,h2];exact this.1,by rw [h2];exact this.2⟩
 have hnd:=Ju l
 have hnu:∀c∈oc,1<=c.nu/\c.nu<=6:=fun c hc=>Zcw hl40 (by rw [<-hoc];exact hc)
 rw [<-hoc] at hown hnd
 rw [<-hol] at hown
 obtain ⟨ob,ocap,rfl,hob1,hob2,hob3⟩:=Xw hown (by omega)
 have hos:Z4 w1 3 (.slice (some ⟨ob,0,none⟩) oc.length ocap) oc.length (oc.flatMap Cl.cells):=(Zs.of_own hown).arg
 have hgr:=U1 _ oc w1 hos (hok w1 e1)
 have HOWN:=Lib.hid hown
 have HOK:=Lib.hid hok
 have HND:=Lib.hid hnd
 have HNU:=Lib.hid hnu
 have hg1:¬(l.length:Int) > 40:=by omega
 have hg':decide ((l.length:Int) > 40)=false:=by simpa using hg1
 have hg2:¬(l.length:Int)<2:=by omega
 have hg3:decide ((l.length:Int)<2)=false:=by simpa using hg2
 have ho2:2<=oc.length:=by omega
 have ho40:oc.length<=40:=by omega
 clear hnum hoc hol hok hnd hnu hown
 go_wp2_with fail
 refine hgr.mono ?_
 rintro e w2 ⟨⟨bg,rfl⟩,e2⟩
 have E2:=Xt e1 e2
 have hrn:=Zdm (.slice (some ⟨ob,0,none⟩) oc.length ocap) (.slice none 0 0) oc [] w2 (hos.ext e2) (HOK.out w2 E2) (by omega) ⟨none,0,rfl,Nat.le_refl _,Nat.zero_le _,by simp,.inl rfl⟩ (fun t ht=>absurd ht (by simp))
 clear hgr hos
 rcases bg with _ | _
 case true=>
  go_wp2_with fail
  refine (Yp _).mono ?_
  rintro e wz ⟨rfl,ez⟩
  go_wp2
  go_ret
  exact ⟨rfl,Xt E2 ez⟩
 go_wp2_with fail
 refine hrn.mono ?_
 rintro e w3 ⟨cv,av,rs,wb,rfl,eb,e3,hcv,hav,hrs,hmap⟩
 obtain ⟨hal,han⟩:=Ze2 hmap hrs
 generalize Uo oc rs [] oc.length=ans at *
 rw [hal] at hav
 obtain ⟨cb,ccap,rfl,hcb1,hcb2,hcb3⟩:=Xw hcv (by omega)
 obtain ⟨ab,acap,rfl,hab1,hab2,hab3⟩:=Xw hav (by omega)
 have EB:=Xt E2 eb
 have E3:=Xt EB e3
 have hsb:=eb.size
 have hs2:=e2.size
 have HCV:=Lib.hid hcv
 have HAV:=Lib.hid hav
 have HAL:=Lib.hid hal
 have HAN:=Lib.hid han
 have HOW3:=Lib.hid (Zn (Zn HOWN.out e2) (Xt eb e3))
 have hneA:cb≠ab:=fun h=>Yh hcv (X5 hav).choose_spec (by decide) (by rw [h];rfl)
 clear hrn hrs hmap hcv hav hal han
 have ho63:(oc.length:Int)<=9223372036854775807:=by omega
 have hopos:(oc.length:Int)≠0:=by omega
 obtain ⟨i,hi⟩:∃i:Nat,at_%(oc.length:Int)=(i:Int):=⟨_,(Int.toNat_of_nonneg (Int.emod_nonneg _ hopos)).symm⟩
 have hil:i<oc.length:=by have:=Int.emod_lt_of_pos at_ (show (0:Int)<oc.length by omega);omega
 have hi1:(0:Int)<=(i:Int):=by omega
 have hi2:(i:Int)<(oc.length:Int):=by omega
 have hia:i<ans.length:=by have:=HAL.out;omega
 have hy0:(wy.tmod 5==0)=false:=by simp [hwy]
 have hy1:(wy.tmod 5==1)=true:=by simpa using hwy
 have hvs:∀c∈oc,∃A n cap,c.v= .slice A n cap:=fun c hc=>by
  obtain ⟨⟨A,cap,h,_⟩,_⟩:=HOK.out w (Ext.refl w) c hc
  exact ⟨A,_,cap,h⟩
 have hone:=Zhj oc hvs
 have hco:=(Z2 HOW3.out).2
 have hcl:=Ue Cl.cells 3 (fun _=>rfl) oc
 have hld:=fun W (kw:Ext w3 W)=>Zds W ob 0 i oc hil (fun j u hu=>by rw [Nat.zero_add];exact (Zh (kw.block (Z2 HOW3.out).1)).trans (hco j u hu))
 obtain ⟨⟨CA,cvc,hcv,_⟩,_⟩:=HOK.out w (Ext.refl w) (oc[i]'hil) (List.getElem_mem hil)
 obtain ⟨cn,hcn⟩:∃n,(oc[i]'hil).st.length=n:=⟨_,rfl⟩
 rw [hcn] at hcv
 obtain ⟨cc,hcc⟩:∃x,(oc[i]'hil).cl=x:=⟨_,rfl⟩
 obtain ⟨cu,hcu⟩:∃x,(oc[i]'hil).nu=x:=⟨_,rfl⟩
 have hcells:(oc[i]'hil).cells=[.int .u8 cc,.int .u64 cu,.slice CA cn cvc]:=by unfold Cl.cells;rw [hcc,hcu,hcv]
 simp only [Jf,hcc,hcu,hcv,Nat.zero_add] at hld
 have hju:∀(W:World) (v:Value),Ext w3 W->Z4 W 3 v (oc.length+1) (oc.flatMap Cl.cells++[.int .u8 cc,.int .u64 cu,.slice CA cn cvc])->Calls Tryz.prog 29 #[.slice (some ⟨cb,0,none⟩) oc.length ccap,.slice (some ⟨ab,0,none⟩) oc.length acap,v] W (Ret (.tuple #[.int .u8 2,.int .i64 (oc.length:Int)]) W):=fun W v k hv=>by
  have hal:=HAL.out
  have hj:=U0 (Ya oc) ans (oc++[oc[i]'hil]) (.slice (some ⟨cb,0,none⟩) oc.length ccap) (.slice (some ⟨ab,0,none⟩) oc.length acap) v W (by rw [Vc];exact (Zs.of_own HCV.out).arg.ext k) (by rw [hal];exact (Zs.of_own HAV.out).arg.ext k)
   (by rw [List.length_append,List.length_singleton,List.flatMap_append,List.flatMap_cons,List.flatMap_nil,List.append_nil,hcells];exact hv)
   (fun x hx=>by
     obtain ⟨j,hj,rfl⟩:=Y7.1 hx
     exact HOK.out W (Xt E3 k) _ (List.getElem_mem hj))
   (fun a ha=>by
     obtain ⟨j,hj,rfl⟩:=List.mem_iff_getElem.1 ha
     exact Z4.ext (HAN.out j hj).2.2.arg (Xt e3 k))
   (fun c hc=>by
     rcases List.mem_append.1 hc with h | h
     ·exact HOK.out W (Xt E3 k) c h
     rw [List.mem_singleton] at h
     rw [h]
     exact HOK.out W (Xt E3 k) _ (List.getElem_mem hil)) (by rw [List.length_append];simp;omega)
  rw [Zow HND.out ans i hil] at hj
  exact hj
 have HJU:=Lib.hid hju
 obtain ⟨i0,zi,zz0,zz1,zz2⟩:=info_parts Zm9
 have HONE:=Lib.hid hone
 have HCO:=Lib.hid hco
 have HLD:=Lib.hid hld
 have HCL:=Lib.hid hcl
 clear hju hone hco hld hcl hvs hcc hcu hcn hcv hcells
 go_wp2_with fail
 refine Z1 Zk [3,8,9,10,11,12,13,14,15] (by kernel_rfl) (by kernel_rfl) ?_
 intro w1 hw1
 have l1:=fun wq (hq:Cls w1 wq)=>HLD.out wq (Xt hw1 (Xe hq))
 simp only [Zj,Rg.hsB,Nat.reduceBEq,Nat.reduceAdd,↓reduceIte]
 repeat (first | go_big_quiet_step (fail) | (go_big_quiet_want;(refine Zu 73 _ _ _ rfl rfl l1 ?_);go_big_quiet_on;simp only [Act.put,Rg.puB]))
 refine wpQuiet_nil ?_
 clear l1
 refine Zal 3 8 _ _ (by kernel_rfl) (by decide) (by decide) rfl rfl rfl rfl (fun wa h0a hwa=> ?_) (fun wa h0a hwa=> ?_)
 focus
  refine Zcm _ _ 59 rfl w3.heap.size 73 i0 (.agg #[.int .u8 0,.int .u64 0,.slice none 0 0]) 3 40 Tryz.underlying59 zi zz0 zz1 zz2 rfl (by decide) (.slice none 0 0) 0 [] rfl (World.ownsRow_nil _ _ _ _) ⟨ob,0,none⟩ oc.length ocap (oc.flatMap Cl.cells) rfl HCL.out (fun j u hu=>by rw [Addr.add_mid,Nat.zero_add];exact (Zh (h0a.block (Z2 HOW3.out).1)).trans (HCO.out j u hu)) HONE.out (by unfold maxLen;omega) (by omega) h0a.size ?_
  intro v3 wb' hown3 hg3
  rw [Nat.zero_add,List.nil_append] at hown3
  have h0b:Ext w3 wb':=(Yy (S:=[]) (Kx h0a) hg3 (fun q hq=>by cases hq)).ext
  refine ⟨h0b,?_⟩
  clear hg3
  refine Yt 8 _ (.cells #[.int .u8 cc,.int .u64 cu,.slice CA cn cvc] 73) (fun p=>.slice (some ⟨p,0,none⟩) 1 1) (by intro w;go_simp) rfl (by kernel_rfl) (by decide) rfl ?_
  intro p wc h0c hwc hp0 hp1 hpc
  have hown4:=Zn hown3 hwc
 rotate_left
 focus
  refine RgK.Zbo (.slice (some ⟨wa.heap.size,0,none⟩) 1 1) (.cells #[.int .u8 cc,.int .u64 cu,.slice CA cn cvc] 73) (by go_simp) ?_
  refine ⟨Xt h0a (Zc _ _),?_⟩
  refine Vi 3 _ (by kernel_rfl) (by decide) rfl (by rfl) fun wd h0d hwd=> ?_
  refine Zcm _ _ 59 rfl w3.heap.size 73 i0 (.agg #[.int .u8 0,.int .u64 0,.slice none 0 0]) 3 40 Tryz.underlying59 zi zz0 zz1 zz2 rfl (by decide) (.slice none 0 0) 0 [] rfl (World.ownsRow_nil _ _ _ _) ⟨ob,0,none⟩ oc.length ocap (oc.flatMap Cl.cells) rfl HCL.out (fun j u hu=>by rw [Addr.add_mid,Nat.zero_add];exact (Zh (h0d.block (Z2 HOW3.out).1)).trans (HCO.out j u hu)) HONE.out (by unfold maxLen;omega) (by omega) h0d.size ?_
  intro v3 wc hown4 hg3
  rw [Nat.zero_add,List.nil_append] at hown4
  have hdc:Ext wd wc:=(Yy (S:=[]) (Kx (Ext.refl wd)) hg3 (fun q hq=>by cases hq)).ext
  have h0c:=Xt h0d hdc
  refine ⟨h0c,?_⟩
  clear hg3
  obtain ⟨p,hp⟩:∃p,wa.heap.size=p:=⟨_,rfl⟩
  have hpc:wc.heap[p]? =some (.cells #[.int .u8 cc,.int .u64 cu,.slice CA cn cvc] 73):=by rw [<-hp];exact hdc.at (hwd.at (Zb _ _))
  rw [hp]
 all_goals
  refine Vi 9 _ (by kernel_rfl) (by decide) rfl (by rfl) fun wf h0f hwf=> ?_
  refine Zcm _ _ 59 rfl w3.heap.size 73 i0 (.agg #[.int .u8 0,.int .u64 0,.slice none 0 0]) 3 40 Tryz.underlying59 zi zz0 zz1 zz2 rfl (by decide) v3 oc.length (oc.flatMap Cl.cells) rfl (Zn hown4 hwf) ⟨p,0,none⟩ 1 1 [.int .u8 cc,.int .u64 cu,.slice CA cn cvc] rfl rfl (fun j u hu=>by rw [Addr.add_mid,Nat.zero_add];exact Za (hwf.at hpc) (by simpa using hu)) (fun x hx=>by simp only [List.mem_cons,List.not_mem_nil,or_false] at hx;rcases hx with rfl | rfl | rfl<;>rfl) (by unfold maxLen;omega) (by omega) h0f.size ?_
  intro v9 wg hown9 hg9
  have h0g:Ext w3 wg:=(Yy (S:=[]) (Kx h0f) hg9 (fun q hq=>.inr (hown4.lt q hq).1)).ext
  refine ⟨h0g,?_⟩
  clear hg9
  obtain ⟨A9,cap9,rfl⟩:=Yb hown9
  refine Z9 10 29 _ #[.slice (some ⟨cb,0,none⟩) oc.length ccap,.slice (some ⟨ab,0,none⟩) oc.length acap,.slice A9 (oc.length+1) cap9] _ (by rfl) _ _ (by rfl) Tryz.func29 rfl rfl (by kernel_rfl) (by rfl) (by kernel_rfl) (by decide) ?_
  intro wh h0h hwh
  refine (HJU.out wh _ h0h ((Zs.of_own hown9).arg.ext hwh)).mono ?_
  rintro e wi ⟨rfl,ei⟩
  have h0i:=Xt h0h ei
  refine ⟨_,rfl,h0i,?_⟩
  refine J6 Zk 11 [] 0 (by kernel_rfl) h0i ?_
  intro w1 hw1
  simp only [Act.put,Rg.puC,Rg.puB]
  simp only [Zj,Rg.hsB,Nat.reduceAdd,↓reduceIte]
  repeat (go_big_quiet_step (fail))
  refine wpQuiet_nil ?_
  refine Y3 (by kernel_rfl) ?_
  intro wj ej ej'
  try simp only [Act.put,Rg.puC,Rg.puB]
  go_wp2_with fail
  refine (Yp _).mono ?_
  rintro e wz ⟨rfl,ez⟩
  go_wp2
  go_ret
  exact ⟨rfl,Xt E3 (Xt h0i (Xt ej ez))⟩
def Ze3:List Value->Nat->List Value->List Value
 | xs,_,[]=>xs
 | xs,o,v::r=>Ze3 (xs.set o v) (o+1) r
theorem Zi5:∀(vs xs:List Value) (o:Nat),(Ze3 xs o vs).length=xs.length
 | [],_,_=>rfl
 | v::r,xs,o=>by rw [Ze3,Zi5 r,List.length_set]
theorem Zk9 (B:List Value):∀(vs A:List Value) (o:Nat),o+vs.length<=A.length->Ze3 (A++B) o vs=Ze3 A o vs++B
 | [],_,_,_=>rfl
 | v::r,A,o,h=>by
   rw [List.length_cons] at h
   rw [Ze3,Ze3,List.set_append_left _ _ (by omega),Zk9 B r (A.set o v) (o+1) (by rw [List.length_set];omega)]
theorem Zi4 (A:List Value):∀(vs B:List Value) (o:Nat),Ze3 (A++B) (A.length+o) vs=A++Ze3 B o vs
 | [],_,_=>rfl
 | v::r,B,o=>by
   rw [Ze3,Ze3,List.set_append_right _ _ (by omega),show A.length+o-A.length=o by omega,Nat.add_assoc,Zi4 A r]
theorem Zb3 {α:Type} (f:α->List Value) (n:Nat) (hs:∀x,(f x).length=n) (vs:List Value) (j:Nat) (hj:j+vs.length<=n) (y:α):∀(l:List α) (k:Nat) (hk:k<l.length),Ze3 (f (l[k]'hk)) j vs=f y->Ze3 (l.flatMap f) (k*n+j) vs=(l.set k y).flatMap f
 | [],_,hk,_=>absurd hk (by simp)
 | a::l,0,_,h=>by
   simp only [Nat.zero_mul,Nat.zero_add,List.flatMap_cons,List.set_cons_zero,List.getElem_cons_zero] at h ⊢
   rw [Zk9 _ vs _ _ (by rw [hs];exact hj),h]
 | a::l,k+1,hk,h=>by
   simp only [List.flatMap_cons,List.set_cons_succ,List.getElem_cons_succ] at h ⊢
   have e:(k+1)*n+j=(f a).length+(k*n+j):=by rw [hs,Nat.add_mul];omega
   rw [e,Zi4,Zb3 f n hs vs j hj y l k (by simpa using hk) h]
theorem Zbv {base size n g cap:Nat} {e:TypeId}:∀(vs xs:List Value) (o:Nat) (w:World),w.ownsRow base e size (.slice (some ⟨g,0,none⟩) n cap) n xs->(w.setCells g o vs).ownsRow base e size (.slice (some ⟨g,0,none⟩) n cap) n (Ze3 xs o vs)
 | [],_,_,_,h=>h
 | v::r,xs,o,_w,h=>Zbv r (xs.set o v) (o+1) _ (Uj h o v)
theorem Zas {S:List Nat} {a:World} {g:Nat} (hg:g∈S\/a.heap.size<=g):∀(vs:List Value) (o:Nat) (w:World),Keep S a w->Keep S a (w.setCells g o vs)
 | [],_,_,h=>h
 | v::r,o,_w,h=>Zas hg r (o+1) _ (h.setCell (p:=⟨g,o,none⟩) hg v)
theorem Ze5 {w:World} {base size n g cap:Nat} {e:TypeId} {xs:List Value} (h:w.ownsRow base e size (.slice (some ⟨g,0,none⟩) n cap) n xs) (o m:Nat) (hm:o+m<=xs.length):w.there g o m:=fun j hj=>by
 obtain ⟨cur,hrow⟩:=X5 h
 refine ⟨?_,frozen_of_row _ g _ _ _ hrow⟩
 rw [(Z2 h).2 _ _ (List.getElem?_eq_getElem (show o+j<xs.length by omega))]
 rfl
end Go.Proofs.YtipjchbdogmccaaGreat
namespace Go.RgK
open Go.RowKit Go.Rg
section
variable {S:List Nat} {P:Program} {ops:Array Oper} {md:Region.Mode}
theorem wpX_mid {n f:Nat} {L:Array Bool->Act->World->Prop} {listed:Array Bool} {a:Act} {w0 w:World} (i:Nat) (o:Oper) (ty:TypeId) (x y:Operand) (hop:o.op= .store ty x y) (hg:o.guard=none) (hd:o.dst=none)
 (hr:Region.ready md ops listed=[i]) (hin:i<n) (ho:ops[i]? =some o) (b off:Nat) (cells:Array Value) (hx:a.eval x= .pointer (some ⟨b,off,none⟩)) (hy:a.eval y= .agg cells)
 (ht:∀w':World,Ext w w'->w'.there b off cells.size) (hi:(P.info? ty).map (·.size)=some cells.size) (h1:cells.all (·.oneCell')=true) (hk:∀w':World,Keep S w0 w'->Keep S w0 (w'.setCells b off cells.toList))
 (h:∀w':World,Ext w w'->Keep S w0 (w'.setCells b off cells.toList)->wpX S P md ops w0 n L f (listed.setIfInBounds i true) a (w'.setCells b off cells.toList)):wpX S P md ops w0 n L (f+1) listed a w:=by
 refine Vi i o hr hin ho (by simp [Region.wanted,hg]) fun w' h0 hw'=> ?_
 unfold X3 execOp
 simp only [hop,hx,hy,Instr.storeAt,Instr.sureAddr,Sem.run_bind,Sem.run_pure,Result.andThen_ok,run_storeVar_mid w' b off ty cells (ht w' hw') hi h1,Xz]
 refine ⟨hk w' h0,?_⟩
 rw [hd]
 exact h _ hw' (hk w' h0)
end
end Go.RgK
namespace Go.Proofs.YtipjchbdogmccaaGreat
open Go.RowKit Go.Rg Go.BigFrame
def Zg1 (o:List Cl) (a b:Nat) (xa xb:Cl):List Cl:=(o.set a xb).set b xa
theorem Zk0 {o:List Cl} {a b:Nat} (hab:a<b) (hb:b<o.length) {xa xb:Cl} (ha':o[a]'(by omega)=xa) (hb':o[b]'hb=xb):Turned o (Zg1 o a b xa xb) a b:=by
 subst ha' hb'
 refine ⟨by unfold Zg1;simp,hab,hb,fun j hj=> ?_⟩
 unfold Zg1
 simp only [List.getElem_set]
 unfold swp
 by_cases h1:j=a
 ·subst h1
  simp only [if_neg (show ¬b=j by omega),if_pos]
 by_cases h2:j=b
 ·subst h2
  simp only [if_pos,if_neg h1]
 simp only [if_neg (show ¬b=j by omega),if_neg (show ¬a=j by omega),if_neg h1,if_neg h2]
def Zmh (a:An) (r:Rep×Value):An:=⟨a.cl,a.nu,r.1.1,r.1.2.1,r.2,r.1.2.2,a.at_⟩
def Zft (l:List An) (rs:List (Rep×Value)) (k:Nat):List An:=(List.zipWith Zmh l rs).take k++l.drop k
theorem Zj9 {l:List An} {rs:List (Rep×Value)} (h:rs.length=l.length) {k:Nat} (hk:k<=l.length):(Zft l rs k).length=l.length:=by
 unfold Zft
 rw [List.length_append,List.length_take,List.length_zipWith,List.length_drop]
 omega
theorem ansK_zero (l:List An) (rs:List (Rep×Value)):Zft l rs 0=l:=by simp [Zft]
theorem ansK_at {l:List An} {rs:List (Rep×Value)} (h:rs.length=l.length) {k:Nat} (hk:k<l.length):(Zft l rs k)[k]'(by rw [Zj9 h (by omega)];exact hk)=l[k]'hk:=by
 unfold Zft
 rw [List.getElem_append_right (by rw [List.length_take];omega)]
 simp only [List.length_take,List.length_zipWith,List.getElem_drop]
 congr 1
 omega
theorem ansK_next {l:List An} {rs:List (Rep×Value)} (h:rs.length=l.length) {k:Nat} (hk:k<l.length):(Zft l rs k).set k (Zmh (l[k]'hk) (rs[k]'(by omega)))=Zft l rs (k+1):=by
 unfold Zft
 have hz:k<(List.zipWith Zmh l rs).length:=by rw [List.length_zipWith];omega
 have ht:((List.zipWith Zmh l rs).take k).length=k:=by rw [List.length_take];omega
 rw [List.set_append_right _ _ (by omega),ht,Nat.sub_self,List.drop_eq_getElem_cons hk,List.set_cons_zero,List.take_succ_eq_append_getElem hz,List.append_assoc,List.getElem_zipWith]
 rfl
theorem ansK_full {l:List An} {rs:List (Rep×Value)} (h:rs.length=l.length):Zft l rs l.length=List.zipWith Zmh l rs:=by
 unfold Zft
 rw [List.drop_length,List.append_nil,List.take_of_length_le (by rw [List.length_zipWith];omega)]
theorem swp_at {α:Type} {l:List α} {a b:Nat} (hab:a<b) (hb:b<l.length) {xa xb:α} (ha':l[a]'(by omega)=xa) (hb':l[b]'hb=xb) (j:Nat) (hj:j<l.length):((l.set a xb).set b xa)[j]'(by rw [List.length_set,List.length_set];exact hj)=l[swp a b j]'(Zmd (by omega) hb hj):=by
 subst ha' hb'
 simp only [List.getElem_set]
 unfold swp
 by_cases h1:j=a
 ·subst h1
  simp only [if_neg (show ¬b=j by omega),if_pos]
 by_cases h2:j=b
 ·subst h2
  simp only [if_pos,if_neg h1]
 simp only [if_neg (show ¬b=j by omega),if_neg (show ¬a=j by omega),if_neg h1,if_neg h2]
theorem jw4_any (va:Value) (l:List Cmd) (at_ wy:Int) (w:World) (ha:Z4 w 1 va l.length (l.flatMap Cmd.cells)) (hla:∀x∈l,Za9 w x) (hl2:2<=l.length) (hl40:l.length<=40) (hat:0<=at_/\at_<=255) (hwy:wy.tmod 5=4):
 Calls Tryz.prog 5 #[va,.int .u8 at_,.int .u8 wy] w (Ret (.bool true) w):=by
 have hn:l.length<=1048576:=by omega
 have hnum:=Vr va l w ha hla hn
 obtain ⟨A,cap,rfl,q1,q2,_⟩:=ha
 have hn63:(l.length:Int)<=9223372036854775807:=by omega
 have HLA:=Lib.hid hla
 clear hla
 go_enter Tryz.func5,Tryz.ntmps5
 go_wp2_with fail
 refine hnum.mono ?_
 rintro e w1 ⟨ov,rfl,e1,hown⟩
 obtain ⟨oc,hoc⟩:∃o:List Cl,o=Zb8 l:=⟨_,rfl⟩
 have hol:oc.length=l.length:=by rw [hoc,Ua]
 have hok:∀W,Ext w W->∀c∈oc,J2 W c:=fun W k c hc=>by
  rw [hoc] at hc
  obtain ⟨x,hx,h1,h2⟩:=Zbx hc
  have:=(HLA.out x hx).ext k
  exact ⟨by rw [h1,h2];exact this.1,by rw [h2];exact this.2⟩
 have hnd:=Ju l
 have hnu:∀c∈oc,1<=c.nu/\c.nu<=6:=fun c hc=>Zcw hl40 (by rw [<-hoc];exact hc)
 rw [<-hoc] at hown hnd
 rw [<-hol] at hown
 obtain ⟨ob,ocap,rfl,hob1,hob2,hob3⟩:=Xw hown (by omega)
 have hos:Z4 w1 3 (.slice (some ⟨ob,0,none⟩) oc.length ocap) oc.length (oc.flatMap Cl.cells):=(Zs.of_own hown).arg
 have hgr:=U1 _ oc w1 hos (hok w1 e1)
 have HOWN:=Lib.hid hown
 have HOK:=Lib.hid hok
 have HND:=Lib.hid hnd
 have HNU:=Lib.hid hnu
 have hg1:¬(l.length:Int) > 40:=by omega
 have hg':decide ((l.length:Int) > 40)=false:=by simpa using hg1
 have hg2:¬(l.length:Int)<2:=by omega
 have hg3:decide ((l.length:Int)<2)=false:=by simpa using hg2
 have ho2:2<=oc.length:=by omega
 have ho40:oc.length<=40:=by omega
 clear hnum hoc hol hok hnd hnu hown
 go_wp2_with fail
 refine hgr.mono ?_
 rintro e w2 ⟨⟨bg,rfl⟩,e2⟩
 have E2:=Xt e1 e2
 have hrn:=Zdm (.slice (some ⟨ob,0,none⟩) oc.length ocap) (.slice none 0 0) oc [] w2 (hos.ext e2) (HOK.out w2 E2) (by omega) ⟨none,0,rfl,Nat.le_refl _,Nat.zero_le _,by simp,.inl rfl⟩ (fun t ht=>absurd ht (by simp))
 clear hgr hos
 rcases bg with _ | _
 case true=>
  go_wp2_with fail
  refine (Yp _).mono ?_
  rintro e wz ⟨rfl,ez⟩
  go_wp2
  go_ret
  exact ⟨rfl,Xt E2 ez⟩
 go_wp2_with fail
 refine hrn.mono ?_
 rintro e w3 ⟨cv,av,rs,wb,rfl,eb,e3,hcv,hav,hrs,hmap⟩
 obtain ⟨hal,han⟩:=Ze2 hmap hrs
 generalize Uo oc rs [] oc.length=ans at *
 rw [hal] at hav
 obtain ⟨cb,ccap,rfl,hcb1,hcb2,hcb3⟩:=Xw hcv (by omega)
 obtain ⟨ab,acap,rfl,hab1,hab2,hab3⟩:=Xw hav (by omega)
 have EB:=Xt E2 eb
 have E3:=Xt EB e3
 have hsb:=eb.size
 have hs2:=e2.size
 have HCV:=Lib.hid hcv
 have HAV:=Lib.hid hav
 have HAL:=Lib.hid hal
 have HAN:=Lib.hid han
 have HOW3:=Lib.hid (Zn (Zn HOWN.out e2) (Xt eb e3))
 have hneA:cb≠ab:=fun h=>Yh hcv (X5 hav).choose_spec (by decide) (by rw [h];rfl)
 clear hrn hrs hmap hcv hav hal han
 have ho63:(oc.length:Int)<=9223372036854775807:=by omega
 have hopos:(oc.length:Int)≠0:=by omega
 obtain ⟨i,hi⟩:∃i:Nat,at_%(oc.length:Int)=(i:Int):=⟨_,(Int.toNat_of_nonneg (Int.emod_nonneg _ hopos)).symm⟩
 have hil:i<oc.length:=by have:=Int.emod_lt_of_pos at_ (show (0:Int)<oc.length by omega);omega
 have hi1:(0:Int)<=(i:Int):=by omega
 have hi2:(i:Int)<(oc.length:Int):=by omega
 have hia:i<ans.length:=by have:=HAL.out;omega
 have hy0:(wy.tmod 5==0)=false:=by simp [hwy]
 have hy1:(wy.tmod 5==1)=false:=by simp [hwy]
 have hy2:(wy.tmod 5==2)=false:=by simp [hwy]
 have hy3:(wy.tmod 5==3)=false:=by simp [hwy]
 have hvs:∀c∈oc,∃A n cap,c.v= .slice A n cap:=fun c hc=>by
  obtain ⟨⟨A,cap,h,_⟩,_⟩:=HOK.out w (Ext.refl w) c hc
  exact ⟨A,_,cap,h⟩
 have hone:=Zhj oc hvs
 have hco:=(Z2 HOW3.out).2
 have hcl:=Ue Cl.cells 3 (fun _=>rfl) oc
 obtain ⟨k,hk⟩:∃k:Nat,((i:Int)+1)%(oc.length:Int)=(k:Int):=⟨_,(Int.toNat_of_nonneg (Int.emod_nonneg _ hopos)).symm⟩
 have hkn:k=(i+1)%oc.length:=by
  have h:(((i+1)%oc.length:Nat):Int)=(k:Int):=by rw [<-hk];simp
  omega
 have hkl:k<oc.length:=by rw [hkn];exact Nat.mod_lt _ (by omega)
 have hki:k≠i:=by
  rw [hkn]
  by_cases h:i+1=oc.length
  ·rw [h,Nat.mod_self];omega
  rw [Nat.mod_eq_of_lt (by omega)];omega
 obtain ⟨a,haa⟩:∃a:Nat,a=min i k:=⟨_,rfl⟩
 obtain ⟨b,hbb⟩:∃b:Nat,b=max i k:=⟨_,rfl⟩
 have hab:a<b:=by omega
 have hbl:b<oc.length:=by omega
 have hal2:a<oc.length:=by omega
 have ham:min (i:Int) (k:Int)=(a:Int):=by omega
 have hbm:max (i:Int) (k:Int)=(b:Int):=by omega
 have HAB:=Lib.hid hab
 clear haa hbb hki hkn
 obtain ⟨i0,zi,zz0,zz1,zz2⟩:=info_parts Zm9
 obtain ⟨xa,hxa⟩:∃x,oc[a]'hal2=x:=⟨_,rfl⟩
 obtain ⟨xb,hxb⟩:∃x,oc[b]'hbl=x:=⟨_,rfl⟩
 have hma:xa∈oc:=by rw [<-hxa];exact List.getElem_mem hal2
 have hmb:xb∈oc:=by rw [<-hxb];exact List.getElem_mem hbl
 have hlda:=fun W (kw:Ext w3 W)=>Zds W ob 0 a oc hal2 (fun j u hu=>by rw [Nat.zero_add];exact (Zh (kw.block (Z2 HOW3.out).1)).trans (hco j u hu))
 have hldb:=fun W (kw:Ext w3 W)=>Zds W ob 0 b oc hbl (fun j u hu=>by rw [Nat.zero_add];exact (Zh (kw.block (Z2 HOW3.out).1)).trans (hco j u hu))
 have hnd:=(Zk0 hab hbl hxa hxb).nodup HND.out
 have HTU:=Lib.hid (Zk0 hab hbl hxa hxb)
 rw [hxa] at hlda
 rw [hxb] at hldb
 have HMA:=Lib.hid hma
 have HMB:=Lib.hid hmb
 obtain ⟨AA,na,capa,hva⟩:=hvs xa hma
 obtain ⟨AB,nb,capb,hvb⟩:=hvs xb hmb
 obtain ⟨xac,xan,xav,xas⟩:=xa
 obtain ⟨xbc,xbn,xbv,xbs⟩:=xb
 simp only at hva hvb
 subst hva hvb
 have htc:∀u∈Zg1 oc a b ⟨xac,xan,.slice AA na capa,xas⟩ ⟨xbc,xbn,.slice AB nb capb,xbs⟩,u∈oc:=fun u hu=>by
  unfold Zg1 at hu
  rcases List.mem_or_eq_of_mem_set hu with h | h
  ·rcases List.mem_or_eq_of_mem_set h with h | h
   ·exact h
   rw [h];exact hmb
  rw [h];exact hma
 simp only [Jf,Nat.zero_add] at hlda hldb
 have hpa1:(0:Int)<=(a:Int):=by omega
 have hpa2:(a:Int)<(oc.length:Int):=by omega
 have hpb1:(0:Int)<=(b:Int):=by omega
 have hpb2:(b:Int)<(oc.length:Int):=by omega
 have HONE:=Lib.hid hone
 have HCO:=Lib.hid hco
 have HCL:=Lib.hid hcl
 have HLA2:=Lib.hid hlda
 have HLB2:=Lib.hid hldb
 have HTC:=Lib.hid htc
 have HND2:=Lib.hid hnd
 clear hone hco hcl hlda hldb htc hnd hvs hxa hxb hma hmb hab
 have hov3:=(Z2 HOW3.out).1
 go_wp2_with (first
  | (at_builtin;refine wpList_append_own _ rfl _ _ 59 rfl w3.heap.size 73 i0 (.agg #[.int .u8 0,.int .u64 0,.slice none 0 0]) 3 40 Tryz.underlying59 zi zz0 zz1 zz2 rfl (by decide) (.slice none 0 0) 0 [] rfl (World.ownsRow_nil _ _ _ _) ⟨ob,0,none⟩ oc.length ocap (oc.flatMap Cl.cells) rfl HCL.out (fun j u hu=>by rw [Addr.add_mid,Nat.zero_add];exact HCO.out j u hu) HONE.out (by unfold maxLen;omega) (by omega) (Nat.le_refl _) ?_
     intro v4 w4 hown4 hgrow4 hnil4
     rw [Nat.zero_add,List.nil_append] at hown4
     have E34:Ext w3 w4:=(Yy (S:=[]) (Kx (Ext.refl w3)) hgrow4 (fun q hq=>by cases hq)).ext
     obtain ⟨tb,tcap,rfl,ht1,ht2,ht3⟩:=Xw hown4 (by omega)
     have hth4:=Ze5 hown4 (a*3) 3 (by rw [HCL.out];omega)
     have hld4:=HLB2.out w4 E34
     clear hgrow4 hnil4)
  | (refine Zd rfl 73 _ _ _ rfl rfl hld4 ?_)
  | (refine Us rfl rfl 73 _ _ rfl tb (a*3) #[.int .u8 xbc,.int .u64 xbn,.slice AB nb capb] rfl rfl hth4 (by kernel_rfl) (by simp [Value.oneCell']) ?_
     have hown5:=Zbv #[Value.int .u8 xbc,.int .u64 xbn,.slice AB nb capb].toList _ (a*3) _ hown4
     have K5:=Zas (S:=[tb]) (g:=tb) (.inl (by simp)) #[Value.int .u8 xbc,.int .u64 xbn,.slice AB nb capb].toList (a*3) _ (Keep.refl [tb] w4)
     generalize w4.setCells tb (a*3) #[Value.int .u8 xbc,.int .u64 xbn,.slice AB nb capb].toList=w5 at *
     have E35:=(Keep.trans_fresh (S:=[]) (Kx E34) K5 (fun x hx=>by right;simp at hx;omega)).ext
     have hth5:=Ze5 hown5 (b*3) 3 (by rw [Zi5,HCL.out];omega)
     have hld5:=HLA2.out w5 E35)
  | (refine Zd rfl 73 _ _ _ rfl rfl hld5 ?_)
  | (refine Us rfl rfl 73 _ _ rfl tb (b*3) #[.int .u8 xac,.int .u64 xan,.slice AA na capa] rfl rfl hth5 (by kernel_rfl) (by simp [Value.oneCell']) ?_
     have hown6:=Zbv #[Value.int .u8 xac,.int .u64 xan,.slice AA na capa].toList _ (b*3) _ hown5
     have K6:=Zas (S:=[tb]) (g:=tb) (.inl (by simp)) #[Value.int .u8 xac,.int .u64 xan,.slice AA na capa].toList (b*3) _ (Keep.refl [tb] w5)
     generalize w5.setCells tb (b*3) #[Value.int .u8 xac,.int .u64 xan,.slice AA na capa].toList=w6 at *))
 have K36:Ext w3 w6:=(Keep.trans_fresh (S:=[]) (Kx E35) K6 (fun x hx=>by right;simp at hx;omega)).ext
 obtain ⟨xA,hxA⟩:∃x:Cl,x=⟨xac,xan,.slice AA na capa,xas⟩:=⟨_,rfl⟩
 obtain ⟨xB,hxB⟩:∃x:Cl,x=⟨xbc,xbn,.slice AB nb capb,xbs⟩:=⟨_,rfl⟩
 rw [<-hxA,<-hxB] at HTU HTC HND2
 have hown6':w6.ownsRow w3.heap.size 73 3 (.slice (some ⟨tb,0,none⟩) oc.length tcap) oc.length ((Zg1 oc a b xA xB).flatMap Cl.cells):=by
  have h1:=Zb3 Cl.cells 3 (fun _=>rfl) #[Value.int .u8 xbc,.int .u64 xbn,.slice AB nb capb].toList 0 (by simp) xB oc a hal2 (by rw [hxB];rfl)
  have h2:=Zb3 Cl.cells 3 (fun _=>rfl) #[Value.int .u8 xac,.int .u64 xan,.slice AA na capa].toList 0 (by simp) xA (oc.set a xB) b (by rw [List.length_set];exact hbl) (by rw [hxA];rfl)
  rw [Nat.add_zero] at h1 h2
  rw [h1,h2] at hown6
  exact hown6
 clear hown6 hown5 hown4 hxA hxB hth4 hth5 hld4 hld5 K5 K6 E34 E35
 have htl:(Zg1 oc a b xA xB).length=oc.length:=HTU.out.len
 generalize hoc2:Zg1 oc a b xA xB=oc2 at *
 clear hoc2
 have HT6:=Lib.hid hown6'
 have hs6:=K36.size
 have ht6:=(Z2 hown6').1
 clear hown6'
 refine (Zg3 _ oc2 w6 (by rw [htl];exact (Zs.of_own HT6.out).arg) (fun c hc=>HOK.out w6 (Xt E3 K36) c (HTC.out c hc)) (by omega)).mono ?_
 rintro e w7 ⟨ga,base,rs2,rfl,e67,hga1,hga2,hown7,hrs7,hm7⟩
 have hrl:rs2.length=oc.length:=by rw [<-htl,<-Uy oc2 V4 ⟨[],1⟩,<-hm7,List.length_map]
 rw [htl] at hown7 ⊢
 have hs7:=e67.size
 have E37:=Xt K36 e67
 have hga3:=(Z2 hown7).1
 have hra:a<rs2.length:=by omega
 have hrb:b<rs2.length:=by omega
 have hc7:=(Z2 hown7).2
 have hlra:=fun W (kw:Ext w7 W)=>Zfb W ga 0 a rs2 hra (fun j u hu=>by rw [Nat.zero_add];exact (Zh (kw.block hga3)).trans (hc7 j u hu))
 have hlrb:=fun W (kw:Ext w7 W)=>Zfb W ga 0 b rs2 hrb (fun j u hu=>by rw [Nat.zero_add];exact (Zh (kw.block hga3)).trans (hc7 j u hu))
 have hcl7:=Zh0 rs2
 obtain ⟨ra,hra2⟩:∃r,rs2[a]'hra=r:=⟨_,rfl⟩
 obtain ⟨rb,hrb2⟩:∃r,rs2[b]'hrb=r:=⟨_,rfl⟩
 rw [hra2] at hlra
 rw [hrb2] at hlrb
 have hsa:=hrs7 ra (by rw [<-hra2];exact List.getElem_mem hra)
 have hsb2:=hrs7 rb (by rw [<-hrb2];exact List.getElem_mem hrb)
 obtain ⟨RA,rca,hva,_⟩:=hsa
 obtain ⟨RB,rcb,hvb,_⟩:=hsb2
 obtain ⟨⟨rae,rai,rag⟩,rav⟩:=ra
 obtain ⟨⟨rbe,rbi,rbg⟩,rbv⟩:=rb
 simp only at hva hvb
 subst hva hvb
 simp only [Zn1,Nat.zero_add] at hlra hlrb
 have HRA:=Lib.hid hra2
 have HRB:=Lib.hid hrb2
 have HLRA:=Lib.hid hlra
 have HLRB:=Lib.hid hlrb
 have HR7:=Lib.hid hrs7
 have HM7:=Lib.hid hm7
 have HO7:=Lib.hid hown7
 clear hra2 hrb2 hlra hlrb hrs7 hm7 hown7 hc7
 go_wp2_with fail
 refine RgK.Zf [ga] Zk 14 [7,11,12,13] (by kernel_rfl) (by kernel_rfl) (by kernel_rfl) ?_
 intro w1 hw1
 simp only [Zj,Rg.hsB,Nat.reduceBEq,Nat.reduceAdd,↓reduceIte]
 repeat (go_big_quiet_step (fail))
 refine wpQuiet_nil ?_
 intro hx1
 refine RgK.Znl 7 11 _ _ (.agg #[.int .i64 rbe,.int .i64 rbi,.slice RB rbg.length rcb]) (.agg #[.int .i64 rae,.int .i64 rai,.slice RA rag.length rca]) rfl rfl (by kernel_rfl) (by kernel_rfl) (by kernel_rfl) (by decide) (by decide) (by decide) rfl rfl (fun d h=>by cases h;decide)
  (fun w' hw'=>Xh 38 _ _ ⟨ga,b*3,none⟩ rfl rfl (HLRB.out w' (Xt hx1 hw')))
  (fun w' hw'=>Xh 38 _ _ ⟨ga,a*3,none⟩ rfl rfl (HLRA.out w' (Xt hx1 hw')))
  (fun w' hw'=>Xh 38 _ _ ⟨ga,b*3,none⟩ rfl rfl (HLRB.out w' (Xt hx1 hw')))
  (fun w' hw'=>Xh 38 _ _ ⟨ga,a*3,none⟩ rfl rfl (HLRA.out w' (Xt hx1 hw'))) ?_
 intro wa ka hwa
 refine RgK.X8 12 _ (.pointer (some ⟨ga,a*3,none⟩)) rfl (by kernel_rfl) (by decide) rfl (fun w' hw'=>by go_simp) ?_
 intro wc kc hwc
 have e1:=Xt (Xt hx1 hwa) hwc
 refine RgK.wpX_mid 13 _ 38 _ _ rfl rfl rfl (by kernel_rfl) (by decide) rfl ga (a*3) #[.int .i64 rbe,.int .i64 rbi,.slice RB rbg.length rcb] rfl rfl (fun w' hw'=>Ze5 (Zn HO7.out (Xt e1 hw')) (a*3) 3 (by rw [hcl7];omega)) (by kernel_rfl) (by simp [Value.oneCell']) (fun w' hw'=>Zas (S:=[ga]) (g:=ga) (.inl (by simp)) _ _ w' hw') ?_
 intro wd hwd kd
 have hod:=Zbv #[Value.int .i64 rbe,.int .i64 rbi,.slice RB rbg.length rcb].toList _ (a*3) _ (Zn HO7.out (Xt e1 hwd))
 generalize wd.setCells ga (a*3) #[Value.int .i64 rbe,.int .i64 rbi,.slice RB rbg.length rcb].toList=we at *
 refine RgK.Zi (by kernel_rfl) ?_
 intro wf kf kf'
 simp only [Act.put,Rg.puB]
 have hof:=Zn hod kf'
 have hthf:=Ze5 hof (b*3) 3 (by rw [Zi5,hcl7];omega)
 have K7f:Keep [ga] w7 wf:=kf
 clear hod hwd hwc hwa hx1 e1 ka kc kd kf'
 go_wp2_with (refine Us rfl rfl 38 _ _ rfl ga (b*3) #[.int .i64 rae,.int .i64 rai,.slice RA rag.length rca] rfl rfl hthf (by kernel_rfl) (by simp [Value.oneCell']) ?_
              have hown8:=Zbv #[Value.int .i64 rae,.int .i64 rai,.slice RA rag.length rca].toList _ (b*3) _ hof
              have K78:=Zas (S:=[ga]) (g:=ga) (.inl (by simp)) #[Value.int .i64 rae,.int .i64 rai,.slice RA rag.length rca].toList (b*3) _ K7f
              generalize wf.setCells ga (b*3) #[Value.int .i64 rae,.int .i64 rai,.slice RA rag.length rca].toList=w8 at *)
 have E38:Ext w3 w8:=(Keep.trans_fresh (S:=[]) (Kx E37) K78 (fun x hx=>by right;simp at hx;omega)).ext
 obtain ⟨rs3,hrs3⟩:∃r:List (Rep×Value),r=(rs2.set a ((rbe,rbi,rbg),.slice RB rbg.length rcb)).set b ((rae,rai,rag),.slice RA rag.length rca):=⟨_,rfl⟩
 have hrl3:rs3.length=ans.length:=by rw [hrs3,List.length_set,List.length_set,hrl,HAL.out]
 have hown8':w8.ownsRow 0 38 3 (.slice (some ⟨ga,0,none⟩) oc.length oc.length) oc.length (rs3.flatMap Xd):=by
  have h1:=Zb3 Xd 3 (fun _=>rfl) #[Value.int .i64 rbe,.int .i64 rbi,.slice RB rbg.length rcb].toList 0 (by simp) ((rbe,rbi,rbg),.slice RB rbg.length rcb) rs2 a hra rfl
  have h2:=Zb3 Xd 3 (fun _=>rfl) #[Value.int .i64 rae,.int .i64 rai,.slice RA rag.length rca].toList 0 (by simp) ((rae,rai,rag),.slice RA rag.length rca) (rs2.set a ((rbe,rbi,rbg),.slice RB rbg.length rcb)) b (by rw [List.length_set];exact hrb) rfl
  rw [Nat.add_zero] at h1 h2
  rw [h1,h2,<-hrs3] at hown8
  exact hown8
 have HL3:=Lib.hid hrl3
 have h3m:∀x∈rs3,x∈rs2:=fun x hx=>by
  rw [hrs3] at hx
  rcases List.mem_or_eq_of_mem_set hx with h | h
  ·rcases List.mem_or_eq_of_mem_set h with h | h
   ·exact h
   rw [h,<-HRB.out];exact List.getElem_mem hrb
  rw [h,<-HRA.out];exact List.getElem_mem hra
 have h3s:∀j,j<rs3.length->rs3[j]? =rs2[swp a b j]? :=fun j hj=>by
  have hj2:j<rs2.length:=by rw [hrl,<-HAL.out,<-hrl3];exact hj
  have:=swp_at (l:=rs2) HAB.out hrb HRA.out HRB.out j hj2
  rw [List.getElem?_eq_getElem (Zmd hra hrb hj2),<-this,List.getElem?_eq_getElem hj]
  simp only [hrs3]
 have hr8:∀x∈rs3,Zs w8 base 2 x.2 x.1.2.2.length (gtC x.1.2.2):=fun x hx=>(HR7.out x (h3m x hx)).keep K78 (fun y hy=>by simp at hy;omega)
 have hav8:=Zn HAV.out E38
 rw [<-ansK_zero ans rs3] at hav8
 have H3S:=Lib.hid h3s
 have HR8:=Lib.hid hr8
 have HO8:=Lib.hid hown8'
 have hga8:ga≠ab:=by omega
 have htn1:tb≠ab:=by omega
 have htn2:tb≠ga:=by omega
 have hb8:ab<base:=by omega
 have K78':=Lib.hid K78
 clear hown8 hown8' hof hthf kf K7f K78 h3m h3s hr8 hrs3 HRA HRB HLRA HLRB HR7 HO7 hrl3
 go_wp2_with fail
 go_loopw [24,219,220,221,222,223,224,225,226,227,228,229,230,231,232] (fun iv _ _ _ _ _ _ _ _ _ _ _ _ _ _ wr=>∃m:Nat,m<=oc.length/\iv= .int .i64 m/\Keep [ab] w8 wr/\wr.ownsRow wb.heap.size 71 6 (.slice (some ⟨ab,0,none⟩) oc.length acap) oc.length ((Zft ans rs3 m).flatMap An.cells)) (fun iv _ _ _ _ _ _ _ _ _ _ _ _ _ _ _=>oc.length-(intOf iv).toNat)
 case atStart=>exact ⟨0,Nat.zero_le _,rfl,Keep.refl _ _,hav8⟩
 clear hav8
 obtain ⟨m,hm,rfl,kr,hav⟩:=hrel
 by_cases hmn:m<oc.length
 ·have hj1:(0:Int)<=(m:Int):=by omega
  have hj2:(m:Int)<(oc.length:Int):=by omega
  have hmr:m<rs3.length:=by have:=HL3.out;have:=HAL.out;omega
  have hma:m<ans.length:=by have:=HAL.out;omega
  have hro:=Zaq HO8.out kr (fun q hq=>by
   have h1:ga=q:=by injection hq
   rw [<-h1]
   simpa using hga8)
  have hro2:=(Z2 hro).2
  have hlr:=Zfb wr ga 0 m rs3 hmr (fun j u hu=>by rw [Nat.zero_add];exact hro2 j u hu)
  have hsx:=HR8.out _ (List.getElem_mem hmr)
  obtain ⟨r,hr⟩:∃r,rs3[m]'hmr=r:=⟨_,rfl⟩
  rw [hr] at hlr hsx
  have hnx:=ansK_next HL3.out hma
  rw [hr] at hnx
  obtain ⟨RM,rcm,hvm,_⟩:=hsx
  obtain ⟨⟨rme,rmi,rmg⟩,rmv⟩:=r
  simp only at hvm
  subst hvm
  have hput:=Zb3 An.cells 6 (fun _=>rfl) #[Value.int .i64 rme,.int .i64 rmi,.slice RM rmg.length rcm].toList 2 (by simp) (Zmh (ans[m]'hma) ((rme,rmi,rmg),.slice RM rmg.length rcm)) (Zft ans rs3 m) m (by rw [Zj9 HL3.out (by omega)];exact hma) (by rw [ansK_at HL3.out hma];rfl)
  rw [hnx] at hput
  have hth:=Ze5 hav (m*6+2) 3 (by rw [Ue An.cells 6 (fun _=>rfl),Zj9 HL3.out (by omega)];omega)
  simp only [Zn1,Nat.zero_add] at hlr
  have HPUT:=Lib.hid hput
  clear hnx hro hro2 hput hr
  go_wp2_with (first
   | (refine Zd rfl 38 _ _ _ rfl rfl hlr ?_)
   | (refine Us rfl rfl 38 _ _ rfl ab (m*6+2) #[.int .i64 rme,.int .i64 rmi,.slice RM rmg.length rcm] rfl rfl hth (by kernel_rfl) (by simp [Value.oneCell']) ?_
      have hav2:=Zbv #[Value.int .i64 rme,.int .i64 rmi,.slice RM rmg.length rcm].toList _ (m*6+2) _ hav
      have kr2:=Zas (S:=[ab]) (g:=ab) (.inl (by simp)) #[Value.int .i64 rme,.int .i64 rmi,.slice RM rmg.length rcm].toList (m*6+2) _ kr
      generalize wr.setCells ab (m*6+2) #[Value.int .i64 rme,.int .i64 rmi,.slice RM rmg.length rcm].toList=wr2 at *))
  exact ⟨⟨m+1,by omega,by go_num,kr2,by rw [HPUT.out] at hav2;exact hav2⟩,by simp [intOf];omega⟩
 have hm':m=oc.length:=by omega
 subst hm'
 have hmf:Zft ans rs3 oc.length=List.zipWith Zmh ans rs3:=by rw [<-HAL.out];exact ansK_full HL3.out
 rw [hmf] at hav
 have K3r:Keep [ab] w3 wr:=(Kx E38).trans kr
 have K6r:Keep [ab,ga] w6 wr:=(Kx e67).trans ((K78'.out.mono (by simp)).trans (kr.mono (by simp)))
 have Ebr:Ext wb wr:=(Keep.trans_fresh (S:=[]) (Kx (Xt e3 E38)) kr (fun x hx=>by right;simp at hx;omega)).ext
 have hzl:(List.zipWith Zmh ans rs3).length=oc.length:=by rw [List.length_zipWith,HL3.out,HAL.out,Nat.min_self]
 have hju:Calls Tryz.prog 29 #[.slice (some ⟨cb,0,none⟩) oc.length ccap,.slice (some ⟨ab,0,none⟩) oc.length acap,.slice (some ⟨tb,0,none⟩) oc.length tcap] wr (Ret (.tuple #[.int .u8 5,.int .i64 (a:Int)]) wr):=by
  have hcs:=Zaq HCV.out K3r (fun q hq=>by
   have h1:cb=q:=by injection hq
   rw [<-h1]
   simpa using hneA)
  have htr:=Zaq HT6.out K6r (fun q hq=>by
   have h1:tb=q:=by injection hq
   rw [<-h1]
   simpa using ⟨htn1,htn2⟩)
  have hj:=U0 (Ya oc) (List.zipWith Zmh ans rs3) oc2 (.slice (some ⟨cb,0,none⟩) oc.length ccap) (.slice (some ⟨ab,0,none⟩) oc.length acap) (.slice (some ⟨tb,0,none⟩) oc.length tcap) wr (by rw [Vc];exact (Zs.of_own hcs).arg) (by rw [hzl];exact (Zs.of_own hav).arg) (by rw [htl];exact (Zs.of_own htr).arg)
   (fun x hx=>by
     obtain ⟨j,hj,rfl⟩:=Y7.1 hx
     exact HOK.out wr (Xt EB Ebr) _ (List.getElem_mem hj))
   (fun x hx=>by
     obtain ⟨j,hj,rfl⟩:=List.mem_iff_getElem.1 hx
     rw [List.length_zipWith] at hj
     rw [List.getElem_zipWith]
     exact ((HR8.out _ (List.getElem_mem (by omega))).keep kr (fun y hy=>by simp at hy;omega)).arg)
   (fun c hc=>HOK.out wr (Xt EB Ebr) c (HTC.out c hc)) (by omega)
  rw [Zmv HTU.out HND.out _ hzl (fun j hj=>by
   rw [List.length_zipWith] at hj
   rw [List.getElem_zipWith]
   obtain ⟨⟨hp,h1,_⟩,h2,_⟩:=HAN.out j (by omega)
   refine ⟨h1,?_,h2⟩
   rw [<-HM7.out,List.getElem?_map,<-H3S.out j (by omega),List.getElem?_eq_getElem (by omega),Option.map_some]
   rfl)] at hj
  exact hj
 have HJU:=Lib.hid hju
 clear hju
 go_wp2_with fail
 refine HJU.out.mono ?_
 rintro e w10 ⟨rfl,e10⟩
 have E10:=Xt (Xt EB Ebr) e10
 go_wp2_with fail
 refine (Yp _).mono ?_
 rintro e wz ⟨rfl,ez⟩
 go_wp2
 go_ret
 exact ⟨rfl,Xt E10 ez⟩
theorem Zra (va:Value) (l:List Cmd) (at_ wy:Int) (w:World) (ha:Z4 w 1 va l.length (l.flatMap Cmd.cells)) (hla:∀x∈l,Za9 w x) (hn:l.length<=1048576) (hat:0<=at_/\at_<=255) (hwy:0<=wy/\wy<=255):
 Calls Tryz.prog 5 #[va,.int .u8 at_,.int .u8 wy] w (Ret (.bool true) w):=by
 by_cases hg:l.length<2\/40<l.length
 ·exact Zov va l at_ wy w ha hla hn hg
 have h2:2<=l.length:=by omega
 have h40:l.length<=40:=by omega
 have e:wy.tmod 5=wy%5:=Int.tmod_eq_emod_of_nonneg hwy.1
 rcases (show wy%5=0\/wy%5=1\/wy%5=2\/wy%5=3\/wy%5=4 by omega) with h | h | h | h | h
 ·exact jw0_any va l at_ wy w ha hla h2 h40 hat (e.trans h)
 ·exact jw1_any va l at_ wy w ha hla h2 h40 hat (e.trans h)
 ·exact jw2_any va l at_ wy w ha hla h2 h40 hat (e.trans h)
 ·exact jw3_any va l at_ wy w ha hla h2 h40 hat (e.trans h)
 exact jw4_any va l at_ wy w ha hla h2 h40 hat (e.trans h)
end Go.Proofs.YtipjchbdogmccaaGreat
