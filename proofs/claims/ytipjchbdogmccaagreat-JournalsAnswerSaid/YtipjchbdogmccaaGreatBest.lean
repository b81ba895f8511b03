/- The best offers: All, the sort, Best. -/
import Derived.Test.YtipjchbdogmccaaGreatCmpD
import Derived.Test.YtipjchbdogmccaaGreatSortW
import Derived.Test.YtipjchbdogmccaaGreatSort
import Derived.Test.YtipjchbdogmccaaGreatBk
import Derived.Deep.MidRow
import Derived.OwnWalk
set_option maxHeartbeats 800000
namespace Go.Proofs.YtipjchbdogmccaaGreat
open Go.RowKit Go.Rg Go.BigFrame
def SeqB (l:List Off):Prop:=∀x∈l,∀y∈l,x.seq=y.seq->x=y
theorem clipO_any (base n:Nat) (v:Value) (xs:List Value) (w:World) (h:Zq w base 7 v n xs):Calls Tryz.prog 107 #[v] w (fun e w'=>∃v',e= .returned v'/\w'=w/\Zq w' base 7 v' n xs):=by
 obtain ⟨A,cap,rfl,h1,h2,h3,h4⟩:=h
 rcases h4 with rfl | ⟨g,rfl,hb,hlt,hc⟩
 ·cases A
  rotate_left
  focus rename_i a
  all_goals
   go_enter Tryz.func107,Tryz.ntmps107
   go_wp2
   go_ret
   exact ⟨_,rfl,rfl,_,_,rfl,Nat.le_refl _,by unfold maxLen;omega,h3,.inl rfl⟩
 have hn63:(n:Int)<=9223372036854775807:=by unfold maxLen at h2;omega
 go_enter Tryz.func107,Tryz.ntmps107
 go_wp2
 go_ret
 exact ⟨_,rfl,rfl,_,_,rfl,Nat.le_refl _,Nat.le_trans h1 h2,h3,.inr ⟨g,rfl,hb,hlt,hc⟩⟩
def RetOffs (l:List Off) (w:World) (e:Ending) (w':World):Prop:=∃v,e= .returned v/\Ext w w'/\Zcx w' w.heap.size v l
set_option maxRecDepth 100000 in
theorem Zqr (p:Nat) (g:Option Nat) (B:Bk) (w:World) (h:IsBook w p g B):Calls Tryz.prog 57 #[.pointer (some ⟨p,0,none⟩)] w (RetOffs B.offs w):=by
 go_enter Tryz.func57,Tryz.ntmps57
 go_wp2_with fail
 refine (V9 p g B _ h).mono ?_
 rintro e w2 ⟨rfl,e2⟩
 have h2:=h.ext e2
 obtain ⟨v,c0,hv,hown⟩:=h2.cell0
 obtain ⟨A,cap,rfl⟩:=Yd hown
 have hcl:=Zfo 0 _ B.offs w2 (Zq.of_own hown) (by have:=h.few;omega)
 go_wp2_with fail
 refine hcl.mono ?_
 rintro e w3 ⟨v3,rfl,e3,hown3⟩
 go_wp2_with fail
 refine (clipO_any w2.heap.size _ _ _ _ (Zq.of_own hown3)).mono ?_
 rintro e w4 ⟨v4,rfl,rfl,hs4⟩
 go_wp2
 go_ret
 obtain ⟨A2,cap2,q0,q1,q2,q3,q4⟩:=hs4
 have s2:=e2.size
 refine ⟨_,rfl,Xt e2 e3,A2,cap2,q0,q1,q2,q3,?_⟩
 rcases q4 with q4 | ⟨g',q4,q5,q6⟩
 ·exact .inl q4
 exact .inr ⟨g',q4,by omega,q6⟩
theorem Uo {α:Type} [Inhabited α] {lt:α->α->Bool} {d:Array α} (h:Go.Sort.SortedIn lt 0 d.size d):d.toList.Pairwise (fun a b=>lt b a=false):=by
 rw [List.pairwise_iff_getElem]
 intro i j hi hj hij
 have hj':j<d.size:=by simpa using hj
 have hi':i<d.size:=by simpa using hi
 have:=h i j (Nat.zero_le _) hij hj'
 rw [getElem!_pos d j hj',getElem!_pos d i hi'] at this
 simpa using this
theorem sort_any (base:Nat) (v:Value) (l:List Off) (w:World) (hr:∀o∈l,X5 o) (hs:SeqB l) (hl:l.length<=64) (hown:w.ownsRow base 339 7 v l.length (Zk l)):
 Calls Tryz.prog 223 #[v,.func (.func 224) #[] #[]] w fun e w'=>e= .returned (.tuple #[])/\Keep v.ownBlock.toList w w'/\w'.ownsRow base 339 7 v l.length (Zk (Jj ltO l)):=by
 rcases hown.2 with ⟨rfl,h0⟩ | ⟨g,cap,cur,rfl,hb,hg,hc1,hc2,hsz,htake⟩
 ·have:l=[]:=List.eq_nil_of_length_eq_zero h0
  subst this
  refine (AnyF.slices_SortFunc_none Tryz.sortRanked none 0 (.func (.func 224) #[] #[]) w).mono ?_
  rintro e w' ⟨rfl,rfl⟩
  exact ⟨rfl,Keep.refl _ _,hown⟩
 cases hle:l with
 | nil=>
   subst hle
   refine (AnyF.slices_SortFunc_none Tryz.sortRanked (some ⟨g,0,none⟩) cap (.func (.func 224) #[] #[]) w).mono ?_
   rintro e w' ⟨rfl,rfl⟩
   exact ⟨rfl,Keep.refl _ _,hown⟩
 | cons o0 l0=>
   rw [<-hle]
   have:Inhabited {o:Off // o∈l}:=⟨⟨o0,by rw [hle];simp⟩⟩
   have hin:∀o∈l,o.num<=9223372036854775807/\o.den<=9223372036854775807:=by
    intro o ho
    have:=hr o ho
    unfold X5 Xp at this
    rw [decide_eq_true_eq] at this
    omega
   have hO:Go.Sort.SWO (ltOf fun x y:{o:Off // o∈l}=>Zsv x.1 y.1):=
    { irrefl:=fun x=>Zrs x.1 (hr _ x.2)
      trans:=fun x y z h1 h2=>ltO_trans x.1 y.1 z.1 (hr _ x.2) (hr _ y.2) (hr _ z.2) h1 h2
      ntrans:=fun x y z h1 h2=>Zfh x.1 y.1 z.1 (hr _ x.2) (hr _ y.2) (hr _ z.2) h1 h2 }
   have hcells:l.attach.flatMap (fun x:{o:Off // o∈l}=>x.1.cells)=Zk l:=by
    unfold Zk
    rw [<-List.flatMap_map (f:=fun x:{o:Off // o∈l}=>x.1) (g:=Off.cells),List.attach_map_subtype_val]
   have hsz':l.attach.toArray.size=l.length:=by simp
   have hH:=Zhi (fun x:{o:Off // o∈l}=>x.1.cells) 7 (fun _=>rfl) w g cur 339 l.attach.toArray hg (by rw [hsz',List.toList_toArray,hcells];exact htake) (by rw [hsz',hsz];omega)
   have hcall:=AnyQ.slices_SortFunc Tryz.sortRanked 7 Tryz.isAgg339 Tryz.sizeOf339 (fun x:{o:Off // o∈l}=>x.1.cells) (fun _=>rfl) (fun x v hv=>by
    simp only [Off.cells,List.mem_cons,List.not_mem_nil,or_false] at hv
    rcases hv with rfl | rfl | rfl | rfl | rfl | rfl | rfl<;>rfl) (fun x y=>Zsv x.1 y.1) hO 224 #[] g 0 cap l.attach.toArray w (enters_of Tryz.func224 (by kernel_rfl) rfl)
    (D.cmpLays l hin g _ w) hH (Zd hg) (by rw [hsz'];omega)
   rw [hsz'] at hcall
   refine hcall.mono ?_
   rintro e w' ⟨rfl,d',n,os,hp,hso,rfl⟩
   have hps:d'.size=l.length:=by rw [hp.1];simp
   have hperm:d'.toList.Perm l.attach:=by
    have h1:=hp.2.2
    have e1:d'.extract 0 l.length=d':=by rw [<-hps];simp
    have e2:l.attach.toArray.extract 0 l.length=l.attach.toArray:=by
     have:l.length=l.attach.toArray.size:=hsz'.symm
     rw [this,Array.extract_size]
    rw [e1,e2] at h1
    simpa using h1
   have hlist:d'.toList.map (fun x=>x.1)=Jj ltO l:=by
    have p1:(d'.toList.map (fun x:{o:Off // o∈l}=>x.1)).Perm l:=by
     have:=hperm.map (fun x:{o:Off // o∈l}=>x.1)
     rwa [List.attach_map_subtype_val] at this
    refine Zce _ _ (p1.trans (Va ltO l).symm) ?_ (U4 (p:=X5) Zl0 Zfh l hr) ?_
    ·rw [<-hps] at hso
     have:=Uo hso
     rw [List.pairwise_map]
     exact this
    intro x hx y hy h1 h2
    have hx':=p1.subset hx
    have hy':=p1.subset hy
    exact hs x hx' y hy' (ltO_total (hr x hx') (hr y hy') h1 h2)
   obtain ⟨k1,cur',h1,h2,h3⟩:=Zc4 (fun x:{o:Off // o∈l}=>x.1.cells) 7 (fun _=>rfl) w g n cur 339 d' os hg (by rw [hps,hsz];omega)
   refine ⟨rfl,k1,by rw [Yh,(Va ltO l).length_eq],.inr ⟨g,cap,cur',rfl,hb,h1,hc1,hc2,by rw [h2,hsz],?_⟩⟩
   rw [<-hps,h3,<-hlist]
   unfold Zk
   rw [List.flatMap_map]
end Go.Proofs.YtipjchbdogmccaaGreat
