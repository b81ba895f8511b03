/- What comes, plain: its fills are a chain, none of a rate that is over; what is left of it, and what is placed. Cancel: one offer is struck. What is placed, struck again; of what stands against it none may be filled: plain. Next: the next number. -/
import Derived.Test.YtipjchbdogmccaaGreatStands
import Derived.Test.YtipjchbdogmccaaGreatPlace4
import Derived.Test.YtipjchbdogmccaaGreatMade
import Derived.Test.YtipjchbdogmccaaGreatBk6
import Derived.Test.YtipjchbdogmccaaGreatBk
namespace Go.Proofs.YtipjchbdogmccaaGreat
theorem Zg4 (L:Led) (B:Bk) (o:Off):∀l,(Uu L B o l).2≠0->∃j,∃hj:j<l.length,Uu L B o l=((l[j]'hj).seq,Yl L B (l[j]'hj).seq o.owner o.owner 1099511627776 o.left)/\
 0<Yl L B (l[j]'hj).seq o.owner o.owner 1099511627776 o.left/\Zdz o (l[j]'hj)=false/\∀i (hi:i<j),¬0<Yl L B (l[i]'(by omega)).seq o.owner o.owner 1099511627776 o.left
 | [],h=>absurd rfl h
 | y::l,h=>by
   unfold Uu at h ⊢
   by_cases h1:Zdz o y=true
   ·rw [if_pos h1] at h;exact absurd rfl h
   rw [if_neg h1] at h ⊢
   by_cases h2:0<Yl L B y.seq o.owner o.owner 1099511627776 o.left
   ·rw [if_pos h2]
    exact ⟨0,by simp,rfl,h2,by simpa using h1,fun i hi=>by omega⟩
   rw [if_neg h2] at h ⊢
   obtain ⟨j,hj,k1,k2,k3,k4⟩:=Zg4 L B o l h
   refine ⟨j+1,Nat.succ_lt_succ hj,k1,k2,k3,fun i hi=> ?_⟩
   cases i with
   | zero=>exact h2
   | succ i=>exact k4 i (by omega)
theorem Zlm (B:Bk) (seq n:Int):(Ja B seq n).2.next=B.next:=by
 unfold Ja
 split
 ·rfl
 split
 ·rfl
 split<;>rfl
theorem Ziq {B:Bk} (h:Zax B) (seq n:Int):Zax (Ja B seq n).2:=by
 refine ⟨Zfu h.1 seq n,fun o ho=> ?_⟩
 rw [Zlm]
 obtain ⟨x,k1,k2,_⟩:=Zny h.1 (seq:=seq) (n:=n) (s:=o.seq) (o':=o) (Zc2 (Zfu h.1 seq n) ho)
 have:=h.2 x (Vc k1).1
 have:=(Vc k1).2
 omega
theorem Zrt {L L':Led} {B B':Bk} {o:Off} {f:Fl} (h:FillP L B o f L' B') (hs:Zax B):Zax B'/\B'.next=B.next:=by
 rw [h.bk]
 exact ⟨Ziq hs _ _,Zlm _ _ _⟩
theorem Ze7 (o:Off):∀(f:Nat) (L:Led) (B:Bk) (left:Int) (all:List Fl),WF L->OkB B->Zax B->all.length+f=65->all.length<=64->(Ye o f L B left all).1=0->
 ∃l,(Ye o f L B left all).2.2.2.2=all++l/\Zb7 o.buy o.sell true l L B 1099511627776 left (Ye o f L B left all).2.1 (Ye o f L B left all).2.2.1/\(∀x∈l,x.2.1=o.owner/\x.2.2.1=o.owner)/\
  (∀x∈l,∃p,Yk B.offs x.1=some p/\Zdz o p=false)/\(Ye o f L B left all).2.2.2.1=left-gvS l/\(0<=left->0<=(Ye o f L B left all).2.2.2.1)/\
  (0<(Ye o f L B left all).2.2.2.1->(X7 (Ye o f L B left all).2.1 (Ye o f L B left all).2.2.1 { o with left:=(Ye o f L B left all).2.2.2.1 }).2=0)/\
  WF (Ye o f L B left all).2.1/\OkB (Ye o f L B left all).2.2.1/\Zax (Ye o f L B left all).2.2.1/\(Ye o f L B left all).2.2.1.next=B.next/\all.length+l.length<=64
 | 0,L,B,left,all,_,_,_,h1,h2,_=>by omega
 | f+1,L,B,left,all,hw,hB,hS,h1,h2,h0=>by
   unfold Ye at h0 ⊢
   by_cases hn:left<=0
   ·rw [if_pos hn]
    exact ⟨[],by simp,⟨rfl,rfl⟩,by simp,by simp,by simp [gvS,X2],fun h=>h,fun h=>by simp only at h;omega,hw,hB,hS,rfl,by simpa using h2⟩
   rw [if_neg hn] at h0 ⊢
   by_cases hz:(X7 L B { o with left:=left }).2=0
   ·rw [if_pos hz]
    exact ⟨[],by simp,⟨rfl,rfl⟩,by simp,by simp,by simp [gvS,X2],fun h=>h,fun _=>hz,hw,hB,hS,rfl,by simpa using h2⟩
   rw [if_neg hz] at h0 ⊢
   by_cases hl:all.length=64
   ·rw [if_pos hl] at h0;simp at h0
   rw [if_neg hl] at h0 ⊢
   obtain ⟨j,hj,k1,k2,k3,k4⟩:=Zg4 L B { o with left:=left } _ hz
   unfold X7 at h0 ⊢
   rw [k1] at h0 ⊢
   simp only at h0 ⊢ k1 k2 k3 k4
   unfold agR at hj k1 k2 k3 k4 h0 ⊢
   simp only at hj k1 k2 k3 k4 h0 ⊢
   obtain ⟨p,hp⟩:∃p,p=(X0 B.offs o.buy o.sell)[j]'hj:=⟨_,rfl⟩
   rw [<-hp] at k1 k2 k3 h0 ⊢
   obtain ⟨hst,ht1,ht2⟩:=Zhx (get:=o.buy) (give:=o.sell) (want:=1099511627776) (most:=left) (taker:=o.owner) (to:=o.owner) hw hB hS.1 j hj hp.symm (by omega) k4
   have hwf2:=Zkx (B:=B) hw p.seq o.owner o.owner (Yl L B p.seq o.owner o.owner 1099511627776 left)
   have hok2:=Zlk (L:=L) hB p.seq o.owner o.owner (Yl L B p.seq o.owner o.owner 1099511627776 left)
   have hsn2:=Zrt hst.fill hS
   have hmo:=hst.most
   have hfd:=hst.fill.fnd
   generalize doR L B p.seq o.owner o.owner (Yl L B p.seq o.owner o.owner 1099511627776 left)=d at *
   obtain ⟨l,q1,q2,q3,q4,q5,q6,q7,q8,q9,q10,q11,q12⟩:=Ze7 o f d.2.2.1 d.2.2.2 (left-d.1.2.2.2.2) (all++[d.1]) hwf2 hok2 hsn2.1 (by simp;omega) (by simp;omega) h0
   unfold X7 agR at q7
   simp only at q7
   refine ⟨d.1::l,by rw [q1];simp,⟨p,d.2.2.1,d.2.2.2,hst,q2⟩,fun x hx=> ?_,fun x hx=> ?_,?_,fun _=>q6 (by omega),q7,q8,q9,q10,q11.trans hsn2.2,by simp at q12 ⊢;omega⟩
   ·rcases List.mem_cons.1 hx with rfl | hx
    ·exact ⟨ht1,ht2⟩
    exact q3 x hx
   ·rcases List.mem_cons.1 hx with rfl | hx
    ·exact ⟨p,hfd,k3⟩
    obtain ⟨p1,r1,r2⟩:=q4 x hx
    rw [hst.fill.bk] at r1
    obtain ⟨p2,s1,_,_,_,s5,s6⟩:=Zny hS.1 r1
    refine ⟨p2,s1,?_⟩
    unfold Zdz at r2 ⊢
    rw [s5,s6]
    exact r2
   rw [q5]
   unfold gvS
   simp only [List.map_cons,X2]
   omega
structure ComeOk (L:Led) (B:Bk) (o:Off) (r:Int×Int×Led×Bk×List Fl) (B':Bk) (left:Int):Prop where
 chain:Zb7 o.buy o.sell true r.2.2.2.2 L B 1099511627776 o.left r.2.2.1 B'
 who:∀x∈r.2.2.2.2,x.2.1=o.owner/\x.2.2.1=o.owner
 over:∀x∈r.2.2.2.2,∃p,Yk B.offs x.1=some p/\Zdz o p=false
 lf:left=o.left-gvS r.2.2.2.2
 lf0:0<=left
 non:0<left->(X7 r.2.2.1 B' { o with left:=left }).2=0
 wf:WF r.2.2.1
 ok:OkB B'
 seq:Zax B'
 next:B'.next=B.next
 few:r.2.2.2.2.length<=64
 fine:Xr ⟨1,o.owner,o.sell,o.buy,o.left,o.num,o.den⟩=true
 has:Yr L o.owner=true
 fin:(left=0/\r.2.1=0/\r.2.2.2.1=B')\/(0<left/\r.2.1=B.next/\r.2.2.2.1=⟨B'.offs++[⟨B.next,o.owner,o.sell,o.buy,left,o.num,o.den⟩],B.next+1⟩/\B'.offs.length<32)
theorem come_ok {L:Led} {B:Bk} {o:Off} (hw:WF L) (hB:OkB B) (hS:Zax B) (h0:(Ul L B o).1=0):∃B' left,ComeOk L B o (Ul L B o) B' left:=by
 unfold Ul at h0 ⊢
 by_cases c1:Zmd o=false
 ·rw [if_pos c1] at h0;simp at h0
 rw [if_neg c1] at h0 ⊢
 have hfine:Xr ⟨1,o.owner,o.sell,o.buy,o.left,o.num,o.den⟩=true:=by
  unfold Zmd Xh at c1
  by_cases h:Xr ⟨1,o.owner,o.sell,o.buy,o.left,o.num,o.den⟩=true
  ·exact h
  rw [if_pos (by simpa using h)] at c1
  exact absurd rfl c1
 by_cases c2:Yr L o.owner=false
 ·rw [if_pos c2] at h0;simp at h0
 rw [if_neg c2] at h0 ⊢
 by_cases c3:(Ye o 65 L B o.left []).1≠0
 ·rw [if_pos c3] at h0;exact absurd h0 c3
 rw [if_neg c3] at h0 ⊢
 have hl0:0<=o.left:=by
  have:=hfine
  unfold Xr at this
  rw [decide_eq_true_eq] at this
  simp only at this
  omega
 obtain ⟨l,q1,q2,q3,q4,q5,q6,q7,q8,q9,q10,q11,q12⟩:=Ze7 o 65 L B o.left [] hw hB hS (by simp) (by simp) (by by_cases e:(Ye o 65 L B o.left []).1=0;exact e;exact absurd e c3)
 have q6:=q6 hl0
 generalize Ye o 65 L B o.left []=G at *
 obtain ⟨ge,gL,gB,gl,gf⟩:=G
 simp only [List.nil_append] at *
 subst q1
 have c2':Yr L o.owner=true:=by simpa using c2
 by_cases c4:0<gl
 ·rw [if_pos c4] at h0 ⊢
  by_cases c5:(Xh gB o.owner o.sell o.buy gl o.num o.den).2.1≠0
  ·rw [if_pos c5] at h0;exact absurd h0 c5
  rw [if_neg c5] at h0 ⊢
  unfold Xh at c5 ⊢
  by_cases d1:Xr ⟨gB.next,o.owner,o.sell,o.buy,gl,o.num,o.den⟩=false
  ·rw [if_pos d1] at c5;simp at c5
  rw [if_neg d1] at c5 ⊢
  by_cases d2:32<=gB.offs.length\/gB.next=18446744073709551615
  ·rw [if_pos d2] at c5;simp at c5
  rw [if_neg d2] at c5 ⊢
  exact ⟨gB,gl,q2,q3,q4,q5,q6,q7,q8,q9,q10,q11,by simpa using q12,hfine,c2',.inr ⟨c4,q11,by simp only [q11],by omega⟩⟩
 rw [if_neg c4] at h0 ⊢
 exact ⟨gB,gl,q2,q3,q4,q5,q6,fun h=>absurd h c4,q8,q9,q10,q11,by simpa using q12,hfine,c2',.inl ⟨by omega,rfl,rfl⟩⟩
open Go.RowKit Go.Rg Go.BigFrame
def Vk (B:Bk) (owner seq:Int):Int×Int×Bk:=match Yk B.offs seq with
 | none=>(0,7,B)
 | some o=>if o.owner≠owner then (0,15,B) else (o.left,0,{ B with offs:=B.offs.eraseIdx (Zht B.offs seq).toNat })
set_option maxRecDepth 100000 in
set_option maxHeartbeats 1600000 in
theorem Zr8 (p:Nat) (g:Option Nat) (B:Bk) (owner seq:Int) (w:World) (h:IsBook w p g B):
 Calls Tryz.prog 149 #[.pointer (some ⟨p,0,none⟩),.int .u8 owner,.int .u64 seq] w (Zj7 (.tuple #[.int .i64 (Vk B owner seq).1,.int .i64 (Vk B owner seq).2.1]) p g (Vk B owner seq).2.2 w):=by
 have ct:=fun w h=>V1 p g B w h
 have ca:=fun w h=>Zsc p g B seq w h
 rcases Zgg B.offs seq with ⟨h1,h2⟩ | ⟨j,hj,h1,h2⟩
 ·have hr:Vk B owner seq=(0,7,B):=by unfold Vk;rw [h2]
  rw [hr]
  rw [h1] at ca
  clear hr h1 h2
  go_enter Tryz.func149,Tryz.ntmps149
  go_wp2_with fail
  refine (ct w h).mono ?_
  rintro e w1 ⟨rfl,e1⟩
  go_wp2_with fail
  refine (ca _ (h.ext e1)).mono ?_
  rintro e w2 ⟨rfl,e2⟩
  have E2:=Xt e1 e2
  have h2:=h.ext E2
  go_wp2
  go_ret2
  exact Zj7.same h E2
 have hr:Vk B owner seq=if (B.offs[j]'hj).owner≠owner then (0,15,B) else ((B.offs[j]'hj).left,0,{ B with offs:=B.offs.eraseIdx j }):=by
  unfold Vk;rw [h2,h1];rfl
 rw [hr]
 rw [h1] at ca
 generalize ho:B.offs[j]'hj=o at *
 have HO:=Lib.hid ho
 clear hr h1 h2 ho
 by_cases hn1:o.owner=owner
 ·rw [if_neg (by simpa using hn1)]
  have hne:(o.owner !=owner)=false:=by simp [hn1]
  go_enter Tryz.func149,Tryz.ntmps149
  go_wp2_with fail
  refine (ct w h).mono ?_
  rintro e w1 ⟨rfl,e1⟩
  go_wp2_with fail
  refine (ca _ (h.ext e1)).mono ?_
  rintro e w2 ⟨rfl,e2⟩
  have E2:=Xt e1 e2
  have h2:=h.ext E2
  obtain ⟨v,hp2,hv,hown⟩:=h2.row
  obtain ⟨b,cap,cur,rfl,hg2,q1,q2,q3,q4⟩:∃b cap cur,v= .slice (some ⟨b,0,none⟩) B.offs.length cap/\w2.heap[b]? =some (.cells cur 153 (0,0))/\B.offs.length<=cap/\cap<=maxLen/\cur.size=cap*7/\cur.toList.take (B.offs.length*7)=Zi B.offs:=by
   rcases hown.2 with ⟨_,h4⟩ | ⟨b,cap,cur,hvv,_,hh,r1,r2,r3,r4⟩
   ·omega
   exact ⟨b,cap,cur,hvv,hh,r1,r2,r3,r4⟩
  have hc0:=Za hp2 (j:=0) rfl
  have hcurL:cur.toList[j*7+4]? =some (.int .i64 o.left):=by
   have:=Y7 B.offs j 4 hj (by omega)
   rw [HO.out,<-q4,List.getElem?_take_of_lt (by omega)] at this
   exact this
  have hcL:w2.cell? ⟨b,j*7+4,none⟩=some (.int .i64 o.left):=Za hg2 (by rw [<-Array.getElem?_toList];exact hcurL)
  have hcurO:cur.toList[j*7+1]? =some (.int .u8 o.owner):=by
   have:=Y7 B.offs j 1 hj (by omega)
   rw [HO.out,<-q4,List.getElem?_take_of_lt (by omega)] at this
   exact this
  have hcO:w2.cell? ⟨b,j*7+1,none⟩=some (.int .u8 o.owner):=Za hg2 (by rw [<-Array.getElem?_toList];exact hcurO)
  have hn63:(B.offs.length:Int)<=9223372036854775807:=by have:=h.few;omega
  have cd:=fun w3 (hg:w3.heap[b]? =some (.cells cur 153 (0,0)))=>Zhj b cap j _ B.offs w3 hj q1 q2 hg q3 q4
  go_wp2_with (go_at_call 186;refine (cd _ hg2).mono ?_;rintro e w4 ⟨rfl,k4,cur4,hg4,hs4,ht4⟩;have hpb:p∉[b]:=(by have:=Y4 hown hp2 (by decide);simp only [List.mem_singleton];rintro rfl;exact this rfl);have hp4:=k4.at hp2 hpb;have c40:=Za hp4 (j:=0) rfl;have f40:=frozen_of_row w4 p 0 _ _ hp4)
  go_ret2
  have hp5:=heap_setCell_same w4 p 0 _ _ (.slice (some ⟨b,0,none⟩) (B.offs.length-1) cap) hp4
  have k5:Keep [p] w4 (w4.setCell ⟨p,0,none⟩ (.slice (some ⟨b,0,none⟩) (B.offs.length-1) cap)):=(Keep.refl _ _).setCell (Or.inl (by simp)) _
  have hbp:b∉[p]:=by simp only [List.mem_singleton];rintro rfl;exact hpb (by simp)
  have hg5:=k5.at hg4 hbp
  have hle:(B.offs.eraseIdx j).length=B.offs.length-1:=by rw [List.length_eraseIdx,if_pos hj]
  refine ⟨rfl,g,?_,⟨⟨_,hp5,hv,?_⟩,h.made,h.top,by rw [hle];have:=h.few;omega⟩,.inl rfl⟩
  ·have hS:∀x∈[b],x∈p::g.toList:=fun x hx=>by rw [<-hv];simp at hx;simp [Value.ownBlock,hx]
   exact ((Kx E2).trans (k4.mono hS)).trans (k5.mono (fun x hx=>by simp at hx;simp [hx]))
  simp only [hle]
  exact ⟨by rw [Yj,hle],.inr ⟨b,cap,cur4,rfl,Nat.zero_le _,hg5,by omega,q2,hs4,ht4⟩⟩
 rw [if_pos hn1]
 have hne:(o.owner !=owner)=true:=by simpa using hn1
 go_enter Tryz.func149,Tryz.ntmps149
 go_wp2_with fail
 refine (ct w h).mono ?_
 rintro e w1 ⟨rfl,e1⟩
 go_wp2_with fail
 refine (ca _ (h.ext e1)).mono ?_
 rintro e w2 ⟨rfl,e2⟩
 have E2:=Xt e1 e2
 have h2:=h.ext E2
 obtain ⟨v,hp2,hv,hown⟩:=h2.row
 obtain ⟨b,cap,cur,rfl,hg2,q1,q2,q3,q4⟩:∃b cap cur,v= .slice (some ⟨b,0,none⟩) B.offs.length cap/\w2.heap[b]? =some (.cells cur 153 (0,0))/\B.offs.length<=cap/\cap<=maxLen/\cur.size=cap*7/\cur.toList.take (B.offs.length*7)=Zi B.offs:=by
  rcases hown.2 with ⟨_,h4⟩ | ⟨b,cap,cur,hvv,_,hh,r1,r2,r3,r4⟩
  ·omega
  exact ⟨b,cap,cur,hvv,hh,r1,r2,r3,r4⟩
 have hc0:=Za hp2 (j:=0) rfl
 have hcurL:cur.toList[j*7+4]? =some (.int .i64 o.left):=by
  have:=Y7 B.offs j 4 hj (by omega)
  rw [HO.out,<-q4,List.getElem?_take_of_lt (by omega)] at this
  exact this
 have hcL:w2.cell? ⟨b,j*7+4,none⟩=some (.int .i64 o.left):=Za hg2 (by rw [<-Array.getElem?_toList];exact hcurL)
 have hcurO:cur.toList[j*7+1]? =some (.int .u8 o.owner):=by
  have:=Y7 B.offs j 1 hj (by omega)
  rw [HO.out,<-q4,List.getElem?_take_of_lt (by omega)] at this
  exact this
 have hcO:w2.cell? ⟨b,j*7+1,none⟩=some (.int .u8 o.owner):=Za hg2 (by rw [<-Array.getElem?_toList];exact hcurO)
 have hn63:(B.offs.length:Int)<=9223372036854775807:=by have:=h.few;omega
 go_wp2
 go_ret2
 exact Zj7.same h E2
open Go.RowKit Go.Rg Go.BigFrame
theorem bnext_any (p:Nat) (g:Option Nat) (B:Bk) (w:World) (h:IsBook w p g B):Calls Tryz.prog 58 #[.pointer (some ⟨p,0,none⟩)] w (Ret (.int .u64 B.next) w):=by
 go_enter Tryz.func58,Tryz.ntmps58
 go_wp2_with fail
 refine (V1 p g B w h).mono ?_
 rintro e w1 ⟨rfl,e1⟩
 have c1:=(h.ext e1).cell1
 go_wp2
 go_ret
 exact ⟨rfl,e1⟩
end Go.Proofs.YtipjchbdogmccaaGreat
