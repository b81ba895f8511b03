/- A copy of a book of its own; a copy of a house. -/
import Derived.Test.YtipjchbdogmccaaGreatDo
set_option maxHeartbeats 800000
set_option maxRecDepth 100000
namespace Go.Proofs.YtipjchbdogmccaaGreat
open Go.RowKit Go.Rg Go.BigFrame
theorem own_low {w:World} {base size n:Nat} {e:TypeId} {v:Value} {xs:List Value} (h:w.ownsRow base e size v n xs):w.ownsRow 0 e size v n xs:=by
 refine ⟨h.1,?_⟩
 rcases h.2 with h4 | ⟨b,cap,cur,rfl,hb,rest⟩
 ·exact .inl h4
 exact .inr ⟨b,cap,cur,rfl,Nat.zero_le _,rest⟩
def RetBk2 (B:Bk) (w:World) (e:Ending) (w':World):Prop:=
 ∃p' g',e= .returned (.pointer (some ⟨p',0,none⟩))/\Ext w w'/\IsBook w' p' g' B/\w.heap.size<=p'/\∀x,g'=some x->w.heap.size<=x
theorem bcopy_own (p:Nat) (g:Option Nat) (B:Bk) (w:World) (h:IsBook w p g B):Calls Tryz.prog 90 #[.pointer (some ⟨p,0,none⟩)] w (RetBk2 B w):=by
 have ct:=fun w h=>V1 p g B w h
 go_enter Tryz.func90,Tryz.ntmps90
 go_wp2_with fail
 refine (ct _ h).mono ?_
 rintro e w2 ⟨rfl,e2⟩
 have h2:=h.ext e2
 obtain ⟨v,c0,hv,hown⟩:=h2.cell0
 obtain ⟨A,cap,rfl⟩:=Z7 hown
 have c1:=h2.cell1
 have hcl:=fun w3 (e:Ext w2 w3)=>Zep 0 _ B.offs w3 ((Zn.of_own hown).ext e) (by have:=h.few;omega)
 have l0:=h2.ltp
 go_wp2
 refine Zh Zl 9 [4] (by kernel_rfl) (by kernel_rfl) ?_
 intro w1 hw1
 have d0:∀q:ExtOf w1,q.to.cell? ⟨p,0,none⟩=some (.slice A B.offs.length cap):=fun q=>(Zf ((Xt hw1 q.h).block l0)).trans c0
 have d1:∀q:ExtOf w1,q.to.cell? ⟨p,1,none⟩=some (.int .u64 B.next):=fun q=>(Zf ((Xt hw1 q.h).block l0)).trans c1
 simp only [Zk,Rg.hsB,Nat.reduceBEq,Nat.reduceAdd,↓reduceIte]
 repeat (go_big_quiet_step (fail))
 refine wpQuiet_nil ?_
 refine Zv 4 108 _ #[.slice A B.offs.length cap] _ (by rfl) _ _ (by rfl) Tryz.func108 rfl rfl (by kernel_rfl) (by rfl) (by kernel_rfl) (by decide) ?_
 intro w3 h03 h3
 refine (hcl w3 h03).mono ?_
 rintro e w4 ⟨v',rfl,e4,hown'⟩
 refine ⟨_,rfl,Xt h03 e4,?_⟩
 refine Zj (by kernel_rfl) ?_
 intro w5 e5 e5'
 simp only [Act.put,Rg.puB]
 obtain ⟨A',cap',rfl⟩:=Z7 hown'
 have hp:=Zb w5 (.cells #[.slice A' B.offs.length cap',.int .u64 B.next] 205)
 have ep:=Zc w5 (.cells #[.slice A' B.offs.length cap',.int .u64 B.next] 205)
 have s2:=e2.size
 have s3:=h03.size
 have s5:=e5.size
 clear d0 d1
 go_wp2
 go_ret
 refine ⟨_,(Value.slice A' B.offs.length cap').ownBlock,rfl,Xt e2 (Xt e5 ep),⟨⟨_,hp,rfl,own_low (Zo (Zo hown' e5') ep)⟩,h.made,h.top,h.few⟩,by omega,fun x hx=> ?_⟩
 have:=(World.ownsRow.lt hown' x hx).1
 omega
def RetHs (L:Led) (B:Bk) (w:World) (e:Ending) (w':World):Prop:=
 ∃p m pb g,e= .returned (.agg #[.pointer (some ⟨p,0,none⟩),.pointer (some ⟨pb,0,none⟩)])/\Ext w w'/\IsLed w' p m L/\IsBook w' pb g B/\w.heap.size<=p/\w.heap.size<=m/\w.heap.size<=pb/\∀x,g=some x->w.heap.size<=x
theorem Zdm (p m pb:Nat) (g:Option Nat) (L:Led) (B:Bk) (w:World) (h:IsLed w p m L) (hB:IsBook w pb g B):
 Calls Tryz.prog 53 #[.agg #[.pointer (some ⟨p,0,none⟩),.pointer (some ⟨pb,0,none⟩)]] w (RetHs L B w):=by
 obtain ⟨l,hl⟩:∃l:Option Addr,l=some ⟨p,0,none⟩:=⟨_,rfl⟩
 obtain ⟨b,hb⟩:∃b:Option Addr,b=some ⟨pb,0,none⟩:=⟨_,rfl⟩
 have hcl:=fun w' (k:Ext w w')=>Zfe p m L w' (h.ext k)
 have hcb:=fun w' (k:Ext w w')=>bcopy_own pb g B w' (hB.ext k)
 rw [<-hl] at hcl ⊢
 rw [<-hb] at hcb ⊢
 clear hl hb h hB
 have e0:=Zc w (.cells #[.pointer l,.pointer b] 103)
 have h0:=Zb w (.cells #[.pointer l,.pointer b] 103)
 have s0:=size_alloc w (.cells #[.pointer l,.pointer b] 103)
 have e1:=Zc (w.alloc (.cells #[.pointer l,.pointer b] 103)) (.cells #[.pointer none,.pointer none] 103)
 have h1:=Zb (w.alloc (.cells #[.pointer l,.pointer b] 103)) (.cells #[.pointer none,.pointer none] 103)
 have h0:=e1.at h0
 rw [s0] at h1
 have E1:=Xt e0 e1
 clear e0 e1 s0
 go_enter Tryz.func53,Tryz.ntmps53
 go_wp2
 refine Zh Zl 6 [2,5] (by kernel_rfl) (by kernel_rfl) ?_
 intro w1 hw1
 have q0:∀u:ExtOf w1,u.to.heap[w.heap.size]? =_:=fun u=>(Xt hw1 u.h).at h0
 have d0:=fun u:ExtOf w1=>Za (j:=0) (q0 u) rfl
 have d1:=fun u:ExtOf w1=>Za (j:=1) (q0 u) rfl
 clear q0
 simp only [Zk,Rg.hsB,Nat.reduceBEq,Nat.reduceAdd,↓reduceIte]
 repeat (go_big_quiet_step (fail))
 refine wpQuiet_nil ?_
 clear d0 d1
 refine Zv 2 89 _ #[.pointer l] _ (by rfl) _ _ (by rfl) Tryz.func89 rfl rfl (by kernel_rfl) (by rfl) (by kernel_rfl) (by decide) ?_
 intro w3 h03 h3
 have E3:=Xt E1 h03
 refine (hcl w3 E3).mono ?_
 rintro e w4 ⟨p',m',rfl,e4,hL4,hp4,hm4⟩
 refine ⟨_,rfl,Xt h03 e4,?_⟩
 refine Zv 5 90 _ #[.pointer b] _ (by rfl) _ _ (by rfl) Tryz.func90 rfl rfl (by kernel_rfl) (by rfl) (by kernel_rfl) (by decide) ?_
 intro w5 h05 h5
 refine (hcb w5 (Xt E1 h05)).mono ?_
 rintro e w6 ⟨pb',g',rfl,e6,hB6,hpb6,hg6⟩
 refine ⟨_,rfl,Xt h05 e6,?_⟩
 refine Zj (by kernel_rfl) ?_
 intro w7 e7 e7'
 simp only [Act.put,Rg.puB]
 have h17:=e7.at h1
 have s3:=E3.size
 have s5:=(Xt E1 h05).size
 have hL7:=hL4.ext (Xt h5 (Xt e6 e7'))
 have hB7:=hB6.ext e7'
 have E7:=Xt E1 e7
 go_wp2_with (refine Ze rfl rfl 103 _ _ rfl (w.heap.size+1) _ rfl rfl 103 _ h17 (by kernel_rfl) (by rfl) (by rfl) ?_;intro w8 hb8 ho8 hs8)
 have k8:Keep [w.heap.size+1] w7 w8:=by
  have kz:=hb8 0 w7 (Nat.zero_le _) (Below.refl 0 w7)
  exact ⟨kz.os,kz.tape,kz.output,kz.size,fun k _ hk=>ho8 k (by simpa using hk)⟩
 have hlt:=Zg h1
 have hgl:=hB7.ltg
 have hn1:(w.heap.size+1)≠p':=by have:=h03.size;omega
 have hn2:(w.heap.size+1)≠m':=by have:=h03.size;omega
 have hn3:(w.heap.size+1)≠pb':=by have:=h05.size;omega
 have hn4:∀x,g'=some x->(w.heap.size+1)≠x:=fun x hx=>by have:=hg6 x hx;have:=h05.size;omega
 exact Yp (w.heap.size+1) 103 _ _ _ rfl rfl hs8 Tryz.underlying103 rfl (by kernel_rfl) rfl
  ⟨p',m',pb',g',rfl,(Keep.trans_fresh (S:=[]) (Kx E7) k8 (fun x hx=>by right;simp at hx;omega)).ext,hL7.keep k8 (by simp;omega) (by simp;omega),hB7.keep k8 (by simp;omega) (fun x hx=>by have:=hn4 x hx;simp;omega),by omega,by omega,by omega,fun x hx=>by have:=hg6 x hx;omega⟩
end Go.Proofs.YtipjchbdogmccaaGreat
