/- Quotes of swaps, plain: what so much costs rises with how much it is. What else a machine keeps true: numbers of offers rise, owners are parties, there are few. Sound (countinghouselaw14), walked. What a step does to positions, plainly: payments, swaps, offers that are placed. What payments and nettings do to positions, plainly: a netting leaves each position as it was. MachinesMoves, plainly: whose positions a step changes, and what it answers. What MachinesMoves asks of states, walked: positions, owners, whether an offer has less left. Keys of lines stay one by one; what a step keeps, in one. -/
import Derived.Test.YtipjchbdogmccaaGreatRnd
import Derived.Test.YtipjchbdogmccaaGreatBatch
import Derived.Test.YtipjchbdogmccaaGreatStands
namespace Go.Proofs.YtipjchbdogmccaaGreat
structure MX (L:Led) (B:Bk):Prop where
 up:(B.offs.map Off.seq).Pairwise (·<·)
 lo:∀o∈B.offs,1<=o.seq/\o.seq<B.next
 own:∀o∈B.offs,Yr L o.owner=true
 few:B.offs.length<=32
 nx:1<=B.next
theorem MX.par {L L':Led} {B:Bk} (h:MX L B) (hp:L'.par=L.par):MX L' B:=⟨h.up,h.lo,fun o ho=>by rw [Zjo hp];exact h.own o ho,h.few,h.nx⟩
theorem MX.erase {L:Led} {B:Bk} (h:MX L B) (i:Nat):MX L { B with offs:=B.offs.eraseIdx i }:=
 ⟨h.up.sublist ((List.eraseIdx_sublist ..).map _),fun o ho=>h.lo o (List.mem_of_mem_eraseIdx ho),fun o ho=>h.own o (List.mem_of_mem_eraseIdx ho),by have:=h.few;have:=List.length_eraseIdx_le B.offs i;simp only;omega,h.nx⟩
open Go.RowKit Go.Rg Go.BigFrame
theorem FrA.kp {A:Nat->Prop} {w w':World} {S:List Nat} (k:FrA A w w') (h:∀x,A x->x∈S):Keep S w w':=⟨k.os,k.tape,k.output,k.size,fun i hi hn=>k.block i hi (fun ha=>hn (h i ha))⟩
open Go.RowKit
open Go.RowKit Go.Rg Go.BigFrame
theorem Zdj (L:Led) (B:Bk) (seq taker to:Int) {n:Int} (h1:1<=n) (h2:n<=1099511627776):
 Yl L B seq taker to n 1099511627776=min n (Yl L B seq taker to 1099511627776 1099511627776):=by
 cases hf:Yk B.offs seq with
 | none=>rw [Ze1 hf,Ze1 hf];omega
 | some o=>
   rw [Zbl hf,Zbl hf,Zbt,Zbt]
   have hok:okT (some o) (Yr L) taker to n 1099511627776=okT (some o) (Yr L) taker to 1099511627776 1099511627776:=by
    unfold okT
    rw [show decide (0<n)=true by simpa using (show 0<n by omega)]
    rfl
   rw [hok]
   split<;>omega
theorem Znd (L:Led) (B:Bk) (fr to get give:Int) {n m:Int} (h1:1<=n) (h2:n<=1099511627776) (h3:1<=m) (h4:m<=1099511627776):V4 L B fr to get give n=V4 L B fr to get give m:=by
 unfold V4
 refine congrArg (fun f=>(X0 B.offs get give).find? f) (funext fun o=> ?_)
 rw [Zdj L B o.seq fr to h1 h2,Zdj L B o.seq fr to h3 h4]
 refine decide_eq_decide.2 ?_
 omega
theorem Zm9 (l l':List Fl):gvS (l++l')=gvS l+gvS l':=by unfold gvS;rw [List.map_append,Zgw]
theorem Zgq:∀{l:List Fl} {get give:Int} {b:Bool} {L L':Led} {B B':Bk} {n m:Int},Zb7 get give b l L B n m L' B'->0<=gvS l
 | [],_,_,_,_,_,_,_,_,_,_=>by simp [gvS,X2]
 | f::l,get,give,b,L,L',B,B',n,m,h=>by
   obtain ⟨o,L1,B1,hs,h2⟩:=h
   have h3:=Zgq h2
   have h4:=hs.fill.fair.h1
   unfold gvS at h3 ⊢
   rw [List.map_cons,X2]
   omega
theorem Zgv (fr to get give:Int):∀(f:Nat) (L:Led) (B:Bk) (n:Int) (all:List Fl),WF L->OkB B->Jm B->all.length+f=65->all.length<=64->1<=n->n<=1099511627776->(Yd fr to get give f L B n all).1=0->
 (Yd fr to get give f L B (n-1) all).1=0/\gvS (Yd fr to get give f L B (n-1) all).2.2.2.2<=gvS (Yd fr to get give f L B n all).2.2.2.2
 | 0,L,B,n,all,_,_,_,h1,h2,_,_,_=>by omega
 | f+1,L,B,n,all,hw,hB,hS,h1,h2,hn1,hn2,h0=>by
   by_cases hone:n=1
   ·subst hone
    obtain ⟨l,k1,k2,_⟩:=Zac fr to get give (f+1) L B 1 all hw hB hS h1 h2 h0
    have hz:Yd fr to get give (f+1) L B (1-1) all=(0,L,B,1-1,all):=by unfold Yd;rw [if_pos (by omega)]
    rw [hz,k1,Zm9]
    have:=Zgq k2
    exact ⟨rfl,by simp only;omega⟩
   have hfe:=Znd L B fr to get give (n:=n-1) (m:=n) (by omega) (by omega) hn1 hn2
   unfold Yd at h0 ⊢
   rw [if_neg (show ¬n<=0 by omega)] at h0 ⊢
   rw [if_neg (show ¬n-1<=0 by omega),hfe]
   cases hfl:V4 L B fr to get give n with
   | none=>rw [hfl] at h0;simp at h0
   | some o=>
     rw [hfl] at h0
     simp only at h0 ⊢
     by_cases hl:all.length=64
     ·rw [if_pos hl] at h0;simp at h0
     rw [if_neg hl] at h0 ⊢
     rw [if_neg hl]
     have hfl2:=hfl
     unfold V4 at hfl2
     rw [List.find?_eq_some_iff_getElem] at hfl2
     obtain ⟨hp,j,hj,hjo,hb⟩:=hfl2
     have hp':1<=Yl L B o.seq fr to n 1099511627776:=by have h:=hp;rw [decide_eq_true_eq] at h;omega
     obtain ⟨hst,ht1,ht2⟩:=Zhx (get:=get) (give:=give) (want:=n) (most:=1099511627776) (taker:=fr) (to:=to) hw hB hS j hj hjo hp' (fun i hi=>by
      have:=hb i hi
      simpa using this)
     have hc1:=Zdj L B o.seq fr to hn1 hn2
     have hc2:=Zdj L B o.seq fr to (n:=n-1) (by omega) (by omega)
     have hp2:1<=Yl L B o.seq fr to (n-1) 1099511627776:=by omega
     have hwf2:=Zkx (B:=B) hw o.seq fr to (Yl L B o.seq fr to n 1099511627776)
     have hok2:=Zlk (L:=L) hB o.seq fr to (Yl L B o.seq fr to n 1099511627776)
     have hsn2:=Zhy (L:=L) hS o.seq fr to (Yl L B o.seq fr to n 1099511627776)
     obtain ⟨gv1,g1,_,_⟩:=Zbm (L:=L) (seq:=o.seq) (taker:=fr) (to:=to) (want:=n) (most:=1099511627776) hB hp'
     obtain ⟨gv2,g2,_,_⟩:=Zbm (L:=L) (seq:=o.seq) (taker:=fr) (to:=to) (want:=n-1) (most:=1099511627776) hB hp2
     by_cases hcap:Yl L B o.seq fr to 1099511627776 1099511627776<=n-1
     ·have he:Yl L B o.seq fr to (n-1) 1099511627776=Yl L B o.seq fr to n 1099511627776:=by omega
      rw [he]
      have hgot:(doR L B o.seq fr to (Yl L B o.seq fr to n 1099511627776)).1.2.2.2.1=Yl L B o.seq fr to n 1099511627776:=by rw [g1]
      rw [hgot] at h0 ⊢
      rw [show n-1-Yl L B o.seq fr to n 1099511627776=n-Yl L B o.seq fr to n 1099511627776-1 by omega]
      exact Zgv fr to get give f _ _ _ _ hwf2 hok2 hsn2 (by simp;omega) (by simp;omega) (by omega) (by omega) h0
     have e1:Yl L B o.seq fr to n 1099511627776=n:=by omega
     have e2:Yl L B o.seq fr to (n-1) 1099511627776=n-1:=by omega
     rw [e1] at g1 hst h0
     rw [e2] at g2
     rw [e1,e2]
     have hz:∀(f:Nat) (L:Led) (B:Bk) (n:Int) (all:List Fl),n<=0->Yd fr to get give f L B n all=(0,L,B,n,all)
      | 0,_,_,_,_,_=>rfl
      | f+1,_,_,_,_,h=>by unfold Yd;rw [if_pos h]
     rw [hz f _ _ _ _ (by rw [g2];simp only;omega),hz f _ _ _ _ (by rw [g1];simp only;omega)]
     refine ⟨rfl,?_⟩
     simp only
     rw [Zm9,Zm9]
     obtain ⟨hst2,_,_⟩:=Zhx (get:=get) (give:=give) (want:=n-1) (most:=1099511627776) (taker:=fr) (to:=to) hw hB hS j hj hjo hp2 (fun i hi=>by
      have h1:=hb i hi
      have h2:=Zdj L B ((X0 B.offs get give)[i]'(by omega)).seq fr to hn1 hn2
      have h3:=Zdj L B ((X0 B.offs get give)[i]'(by omega)).seq fr to (n:=n-1) (by omega) (by omega)
      have h4:¬0<Yl L B ((X0 B.offs get give)[i]'(by omega)).seq fr to n 1099511627776:=by simpa using h1
      omega)
     rw [e2] at hst2
     have f1:=hst.fill.fair
     have f2:=hst2.fill.fair
     rw [g1] at f1 ⊢
     rw [g2] at f2 ⊢
     have hm1:=f1.lo
     have hm2:=f2.hi
     have hn3:=f1.n1
     have hd3:=f1.d1
     simp only at hm1 hm2
     have hx:(n-1)*o.num<=n*o.num:=Int.mul_le_mul_of_nonneg_right (by omega) (by omega)
     have hlt:gv2*o.den<(gv1+1)*o.den:=by rw [Int.add_mul,Int.one_mul];omega
     have:=Int.lt_of_mul_lt_mul_right hlt (by omega)
     simp only [gvS,List.map_cons,List.map_nil,X2]
     omega
theorem Zj2:∀{l:List Fl} {get give:Int} {b:Bool} {L L':Led} {B B':Bk} {n m:Int},Zb7 get give b l L B n m L' B'->(∀f∈l,0<=f.2.2.2.2)/\gvS l<=1099511627776*(l.length:Int)
 | [],_,_,_,_,_,_,_,_,_,_=>⟨fun f hf=>by simp at hf,by simp [gvS,X2]⟩
 | f::l,get,give,b,L,L',B,B',n,m,h=>by
   obtain ⟨o,L1,B1,hs,h2⟩:=h
   obtain ⟨h3,h5⟩:=Zj2 h2
   have h4:=hs.fill.fair.h1
   have h6:=hs.fill.fair.h2
   refine ⟨fun x hx=> ?_,?_⟩
   ·rcases List.mem_cons.1 hx with rfl | hx
    ·omega
    exact h3 x hx
   unfold gvS at h5 ⊢
   rw [List.map_cons,X2,List.length_cons]
   omega
theorem Zeu {fr to get give n:Int} {L:Led} {B:Bk} (hw:WF L) (hB:OkB B) (hS:Jm B) (h0:(Yd fr to get give 65 L B n []).1=0):Y1 (Yd fr to get give 65 L B n []).2.2.2.2=gvS (Yd fr to get give 65 L B n []).2.2.2.2:=by
 obtain ⟨l,k1,k2,_,_,_,_,k7⟩:=Zac fr to get give 65 L B n [] hw hB hS (by simp) (by simp) h0
 rw [List.nil_append] at k1
 rw [k1]
 obtain ⟨h1,h2⟩:=Zj2 k2
 refine Zl2 h1 ?_
 simp at k7
 omega
theorem swap_less {L:Led} {B:Bk} {fr to get give n:Int} (hw:WF L) (hB:OkB B) (hS:Jm B) (h1:2<=n) (h0:(Z4 L B fr to get give n 1099511627776).1=0):
 (Z4 L B fr to get give (n-1) 1099511627776).1=0/\Y1 (Z4 L B fr to get give (n-1) 1099511627776).2.2.2<=Y1 (Z4 L B fr to get give n 1099511627776).2.2.2:=by
 unfold Z4 at h0 ⊢
 by_cases c1:(Ys fr&&Ys to&&Xy get&&Xy give&& !(get==give)&&Yn n&&Yn 1099511627776)=false
 ·rw [if_pos c1] at h0;simp at h0
 have c1t:(Ys fr&&Ys to&&Xy get&&Xy give&& !(get==give)&&Yn n&&Yn 1099511627776)=true:=by rwa [Bool.not_eq_false] at c1
 have hn2:n<=1099511627776:=by
  simp only [Bool.and_eq_true,Yn,decide_eq_true_eq] at c1t
  omega
 have c1':¬(Ys fr&&Ys to&&Xy get&&Xy give&& !(get==give)&&Yn (n-1)&&Yn 1099511627776)=false:=by
  rw [Bool.not_eq_false]
  simp only [Bool.and_eq_true,Yn,decide_eq_true_eq] at c1t ⊢
  exact ⟨⟨c1t.1.1,by omega,by omega⟩,c1t.2⟩
 rw [if_neg c1] at h0 ⊢
 rw [if_neg c1']
 by_cases c2:(Yr L fr&&Yr L to)=false
 ·rw [if_pos c2] at h0;simp at h0
 rw [if_neg c2] at h0 ⊢
 rw [if_neg c2]
 by_cases c3:(Yd fr to get give 65 L B n []).1≠0
 ·rw [if_pos c3] at h0;exact absurd h0 c3
 rw [if_neg c3] at h0 ⊢
 have c3':(Yd fr to get give 65 L B n []).1=0:=by by_cases e:(Yd fr to get give 65 L B n []).1=0;exact e;exact absurd e c3
 obtain ⟨d1,d2⟩:=Zgv fr to get give 65 L B n [] hw hB hS (by simp) (by simp) (by omega) hn2 c3'
 rw [if_neg (by rw [d1];simp)]
 by_cases c4:1099511627776<Y1 (Yd fr to get give 65 L B n []).2.2.2.2
 ·rw [if_pos c4] at h0;simp at h0
 rw [if_neg c4]
 have g1:=Zeu hw hB hS c3'
 have g2:=Zeu hw hB hS d1
 rw [if_neg (by rw [g2];omega)]
 simp only
 exact ⟨trivial,by rw [g1,g2];exact d2⟩
end Go.Proofs.YtipjchbdogmccaaGreat
