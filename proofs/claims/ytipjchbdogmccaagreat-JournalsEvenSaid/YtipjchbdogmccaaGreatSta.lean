/- A machine's state, walked; two states that say the same. -/
import Derived.Test.YtipjchbdogmccaaGreatMv
import Derived.Test.YtipjchbdogmccaaGreatCmd
namespace Go.Rg
open Go.RowKit
section
variable {P:Program} {ops:Array Oper} {md:Region.Mode}
theorem Xu {n f:Nat} {L:Array Bool->Act->World->Prop} {listed:Array Bool} {a:Act} {w0 w:World} (i:Nat) (o:Oper) (v:Value) (hg:o.guard=none)
 (hr:Region.ready md ops listed=[i]) (hin:i<n) (ho:ops[i]? =some o) (hl:∀w',Ext w w'->(execOp a.eval o).run P w'= .ok (.value v) w')
 (h:∀w':World,Ext w0 w'->Ext w w'->wpX P md ops w0 n L f (listed.setIfInBounds i true) (a.put o.dst v) w'):wpX P md ops w0 n L (f+1) listed a w:=by
 refine V3 i o hr hin ho (by simp [Region.wanted,hg]) fun w' h0 hw'=> ?_
 unfold X4
 rw [hl w' hw']
 exact ⟨h0,h w' h0 hw'⟩
end
end Go.Rg
namespace Go.Proofs.YtipjchbdogmccaaGreat
open Go.RowKit Go.Rg Go.BigFrame
def StSl (w:World) (base:Nat) (v:Value) (L:Led) (B:Bk):Prop:=
 ∃v1 v2 v3,v= .agg #[v1,v2,v3,.int .u64 B.next]/\Zt w base 1 v1 (Zx L).length ((Zx L).map (.int .u8))/\Zt w base 5 v2 (Yh L.lines).length (X1 (Yh L.lines))/\Zhw w base v3 B.offs
def RetSt (L:Led) (B:Bk) (w:World) (e:Ending) (w':World):Prop:=∃v,e= .returned v/\Ext w w'/\StSl w' w.heap.size v L B
set_option maxRecDepth 100000 in
set_option maxHeartbeats 1600000 in
theorem Zlp (q p m pb:Nat) (g:Option Nat) (L:Led) (B:Bk) (w:World) (h:IsM w q p m pb g L B):Calls Tryz.prog 18 #[.pointer (some ⟨q,0,none⟩)] w (RetSt L B w):=by
 have h0:=Zb w (.cells #[.slice none 0 0,.slice none 0 0,.slice none 0 0,.int .u64 0] 47)
 have e0:=Zc w (.cells #[.slice none 0 0,.slice none 0 0,.slice none 0 0,.int .u64 0] 47)
 go_enter Tryz.func18,Tryz.ntmps18
 go_wp2_with fail
 refine (Zey q p m pb g L B _ (h.ext e0)).mono ?_
 rintro e w3 ⟨rfl,e3⟩
 have h3:=e3.at h0
 have e03:=Xt e0 e3
 have hM:=h.ext e03
 clear h0 e0 e3 h
 go_wp2_with fail
 refine Zh Zk 25 [5,11,17,23,24] (by kernel_rfl) (by kernel_rfl) ?_
 intro w1 hw1
 have d0:=fun u:ExtOf w1=>Za (j:=0) ((Xt hw1 u.h).at hM.row) rfl
 have d1:=fun u:ExtOf w1=>Za (j:=1) ((Xt hw1 u.h).at hM.row) rfl
 simp only [Zj,Rg.hsB,Nat.reduceBEq,Nat.reduceAdd,↓reduceIte]
 repeat (go_big_quiet_step (fail))
 refine wpQuiet_nil ?_
 clear d0 d1
 refine Z7 5 55 _ #[.pointer (some ⟨p,0,none⟩)] _ (by rfl) _ _ (by rfl) Tryz.func55 rfl rfl (by kernel_rfl) (by rfl) (by kernel_rfl) (by decide) ?_
 intro w4 h04 h4
 refine (Zhe p m L w4 (hM.led.ext h04)).mono ?_
 rintro e w5 ⟨v1,rfl,e5,s1⟩
 have s1':=s1
 obtain ⟨A1,k1,rfl,_⟩:=s1'
 refine ⟨_,rfl,Xt h04 e5,?_⟩
 refine Z7 11 56 _ #[.pointer (some ⟨p,0,none⟩)] _ (by rfl) _ _ (by rfl) Tryz.func56 rfl rfl (by kernel_rfl) (by rfl) (by kernel_rfl) (by decide) ?_
 intro w6 h06 h6
 refine (Zd0 p m L w6 (hM.led.ext h06) hM.ok.wf).mono ?_
 rintro e w7 ⟨v2,rfl,e7,s2⟩
 obtain ⟨A2,k2,rfl⟩:=Ye s2
 refine ⟨_,rfl,Xt h06 e7,?_⟩
 refine Z7 17 57 _ #[.pointer (some ⟨pb,0,none⟩)] _ (by rfl) _ _ (by rfl) Tryz.func57 rfl rfl (by kernel_rfl) (by rfl) (by kernel_rfl) (by decide) ?_
 intro w8 h08 h8
 refine (Zqw pb g B w8 (hM.book.ext h08)).mono ?_
 rintro e w9 ⟨v3,rfl,e9,s3⟩
 have s3':=s3
 obtain ⟨A3,k3,rfl,_⟩:=s3'
 refine ⟨_,rfl,Xt h08 e9,?_⟩
 refine Z7 23 58 _ #[.pointer (some ⟨pb,0,none⟩)] _ (by rfl) _ _ (by rfl) Tryz.func58 rfl rfl (by kernel_rfl) (by rfl) (by kernel_rfl) (by decide) ?_
 intro w10 h010 h10
 refine (bnext_any pb g B w10 (hM.book.ext h010)).mono ?_
 rintro e w11 ⟨rfl,e11⟩
 refine ⟨_,rfl,Xt h010 e11,?_⟩
 refine Xu 24 _ (.agg #[.slice A1 (Zx L).length k1,.slice A2 (Yh L.lines).length k2,.slice A3 B.offs.length k3,.int .u64 B.next]) rfl (by kernel_rfl) (by decide) rfl (fun w' _=>by go_simp) ?_
 intro w12 h012 h12
 refine Zi (by kernel_rfl) ?_
 intro w13 e13 e13'
 simp only [Act.put,Rg.puB]
 simp only [Rg.puC,Rg.puB]
 have h13:=e13.at h3
 have z3:=e03.size
 have z4:=h04.size
 have z6:=h06.size
 have z8:=h08.size
 have f11:Ext w11 w13:=Xt h12 e13'
 have f9:Ext w9 w13:=Xt h10 (Xt e11 f11)
 have f7:Ext w7 w13:=Xt h8 (Xt e9 f9)
 have f5:Ext w5 w13:=Xt h6 (Xt e7 f7)
 have s1:=(s1.ext f5).low (show w.heap.size+1<=w4.heap.size by have:=Ze h3;omega)
 have s2:=((Zt.of_own s2).ext f7).low (show w.heap.size+1<=w6.heap.size by have:=Ze h3;omega)
 have s3:=Zt.low (Zt.ext s3 f9) (show w.heap.size+1<=w8.heap.size by have:=Ze h3;omega)
 clear f5 f7 f9 f11 e5 e7 e9 e11 h4 h6 h8 h10 h12 h04 h06 h08 h010 h012
 go_wp2_with (refine Zg rfl rfl 47 _ _ rfl w.heap.size _ rfl rfl 47 _ h13 (by kernel_rfl) (by rfl) (by rfl) ?_
              intro w14 hb14 ho14 hs14)
 have k14:Keep [w.heap.size] w13 w14:=by
  have kz:=hb14 0 w13 (Nat.zero_le _) (Below.refl 0 w13)
  exact ⟨kz.os,kz.tape,kz.output,kz.size,fun k _ hk=>ho14 k (by simpa using hk)⟩
 have hfr:FrA (fun x=>x=w.heap.size) w13 w14:=⟨k14.os,k14.tape,k14.output,k14.size,fun k hk hA=>k14.block k hk (by simpa using hA)⟩
 exact Xb w.heap.size 47 _ _ _ rfl rfl hs14 Tryz.underlying47 rfl (by kernel_rfl) rfl
  ⟨_,rfl,(Keep.trans_fresh (S:=[]) (Kx (Xt e03 e13)) k14 (fun x hx=>by right;simp at hx;omega)).ext,_,_,_,rfl,(s1.fra2 hfr (fun x hx=>by omega)).low (by omega),(s2.fra2 hfr (fun x hx=>by omega)).low (by omega),Zt.low (Zt.fra2 s3 hfr (fun x hx=>by omega)) (by omega)⟩
end Go.Proofs.YtipjchbdogmccaaGreat
