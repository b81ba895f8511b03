/- Compare of rates, the draws counted: cmp.Compare, cmp.Or, rats.Compare, the order of the best offers. -/
import Derived.Test.YtipjchbdogmccaaGreatNumD
import Derived.Test.YtipjchbdogmccaaGreatBestP
import Derived.Test.YtipjchbdogmccaaGreatDivP
import Derived.Shelf.SlSortCmp.WholeK
set_option maxHeartbeats 1600000
set_option maxRecDepth 100000
namespace Go.Proofs.YtipjchbdogmccaaGreat.D
open Go.RowKit Go.RgD Go.BigFrame
theorem Zg3 (x:Int) (w:World):Calls Tryz.prog 253 #[.int .u64 x] w (fun e w'=>e= .returned (.bool false)/\w'=w):=by
 go_enter Tryz.func253,Tryz.ntmps253
 go_wp2
 go_ret
 exact ⟨rfl,rfl⟩
theorem Za1 (x y:Int) (w:World):Calls Tryz.prog 261 #[.int .u64 x,.int .u64 y] w (fun e w'=>e= .returned (.int .i64 (Vz x y))/\w'=w):=by
 have hx:=Zg3 x
 have hy:=Zg3 y
 unfold Vz
 by_cases h1:x<y
 ·have h1':decide (x<y)=true:=by simpa using h1
  rw [if_pos h1]
  go_enter Tryz.func261,Tryz.ntmps261
  go_wp2_with fail
  refine (hx _).mono ?_
  rintro e w' ⟨rfl,rfl⟩
  go_wp2_with fail
  refine (hy _).mono ?_
  rintro e w' ⟨rfl,rfl⟩
  go_wp2
  go_ret
  exact ⟨rfl,rfl⟩
 have h1':decide (x<y)=false:=by simpa using h1
 rw [if_neg h1]
 by_cases h2:y<x
 ·have h2':decide (y<x)=true:=by simpa using h2
  rw [if_pos h2]
  go_enter Tryz.func261,Tryz.ntmps261
  go_wp2_with fail
  refine (hx _).mono ?_
  rintro e w' ⟨rfl,rfl⟩
  go_wp2_with fail
  refine (hy _).mono ?_
  rintro e w' ⟨rfl,rfl⟩
  go_wp2
  go_ret
  exact ⟨rfl,rfl⟩
 have h2':decide (y<x)=false:=by simpa using h2
 rw [if_neg h2]
 go_enter Tryz.func261,Tryz.ntmps261
 go_wp2_with fail
 refine (hx _).mono ?_
 rintro e w' ⟨rfl,rfl⟩
 go_wp2_with fail
 refine (hy _).mono ?_
 rintro e w' ⟨rfl,rfl⟩
 go_wp2
 go_ret
 exact ⟨rfl,rfl⟩
theorem Zhs (a b:Int) (g cap:Nat) (w:World) (c0:w.cell? ⟨g,0,none⟩=some (.int .i64 a)) (c1:w.cell? ⟨g,1,none⟩=some (.int .i64 b)):
 Calls Tryz.prog 157 #[.slice (some ⟨g,0,none⟩) 2 cap] w (fun e w'=>e= .returned (.int .i64 (orI a b))/\w'=w):=by
 obtain ⟨r,hr⟩:∃r,r=orI a b:=⟨_,rfl⟩
 rw [<-hr]
 have HR:=Lib.hid hr
 clear hr
 go_enter Tryz.func157,Tryz.ntmps157
 go_wp2
 go_loopw [8] (fun i wr=>∃k:Nat,k<=2/\i= .int .i64 k/\wr=w/\(1<=k->a=0)/\(2<=k->b=0)) (fun i _=>2-(intOf i).toNat)
 case atStart=>exact ⟨0,by omega,rfl,rfl,by omega,by omega⟩
 obtain ⟨k,hk,rfl,rfl,ha,hb⟩:=hrel
 by_cases h2:k=2
 ·subst h2
  rw [show ((2:Nat):Int)=2 from rfl]
  have ha:=ha (by omega)
  have hb:=hb (by omega)
  subst ha hb
  have HO:=Lib.hid (show orI 0 0=0 by unfold orI;rw [if_pos rfl])
  go_wp2
  go_ret
  exact ⟨by first | (rw [HR.out,HO.out];rfl) | rw [HR.out,HO.out],rfl⟩
 by_cases h1:k=1
 ·subst h1
  rw [show ((1:Nat):Int)=1 from rfl]
  have ha:=ha (by omega)
  subst ha
  by_cases q:b=0
  ·subst q
   go_wp2
   exact ⟨⟨2,by omega,by go_num,by first | exact ⟨rfl,by omega,by omega⟩ | simp⟩,by simp [intOf]⟩
  have q':(b==0)=false:=by simpa using q
  have HO:=Lib.hid (show orI 0 b=b by unfold orI;rw [if_pos rfl])
  go_wp2
  go_ret
  exact ⟨by first | (rw [HR.out,HO.out];rfl) | rw [HR.out,HO.out],rfl⟩
 have h0:k=0:=by omega
 subst h0
 rw [show ((0:Nat):Int)=0 from rfl]
 by_cases q:a=0
 ·subst q
  go_wp2
  exact ⟨⟨1,by omega,by go_num,by first | exact ⟨rfl,by omega,by omega⟩ | simp⟩,by simp [intOf]⟩
 have q':(a==0)=false:=by simpa using q
 have HO:=Lib.hid (show orI a b=a by unfold orI;rw [if_neg q])
 go_wp2
 go_ret
 exact ⟨by first | (rw [HR.out,HO.out];rfl) | rw [HR.out,HO.out],rfl⟩
theorem Zda (x y hi lo:Int) (w:World) (hx:0<=x) (hx2:x<W64) (hy:0<=y) (hy2:y<W64) (h:x*y=hi*W64+lo) (hl:0<=lo) (hl2:lo<W64):
 Calls Tryz.prog 296 #[.int .u64 x,.int .u64 y] w (Ret (.tuple #[.int .u64 hi,.int .u64 lo]) w):=by
 obtain ⟨m,rfl⟩:=Int.eq_ofNat_of_zero_le hx
 obtain ⟨n,rfl⟩:=Int.eq_ofNat_of_zero_le hy
 rw [Vl] at *
 refine (Tryz.bits_Mul64 m n (by omega) (by omega) w).mono ?_
 rintro e w' ⟨rfl,rfl⟩
 have e1:((m*n / 18446744073709551616:Nat):Int)=hi:=by
  rw [Int.natCast_ediv,Int.natCast_mul,h]
  omega
 have e2:((m*n%18446744073709551616:Nat):Int)=lo:=by
  rw [Int.natCast_emod,Int.natCast_mul,h]
  omega
 rw [e1,e2]
 exact ⟨rfl,Ext.refl _⟩
theorem cmp_two {a b c d:Int} (hb:0<=b) (hb2:b<W64) (hd:0<=d) (hd2:d<W64):orI (Vz a c) (Vz b d)=Vz (a*W64+b) (c*W64+d):=by
 rw [Vl] at *
 unfold orI Vz
 repeat' split
 all_goals omega
theorem Zev (n d m q:Int) (w:World) (b1:n<=9223372036854775807) (b2:d<=9223372036854775807) (b3:m<=9223372036854775807) (b4:q<=9223372036854775807):
 Calls Tryz.prog 260 #[rat (n,d),rat (m,q)] w (Ret (.int .i64 (Zfh n d m q)) w):=by
 have e0:=Zc w (.cells #[.int .i64 n,.int .i64 d] 27)
 have h0:=Zb w (.cells #[.int .i64 n,.int .i64 d] 27)
 have s0:=size_alloc w (.cells #[.int .i64 n,.int .i64 d] 27)
 have e1:=Zc (w.alloc (.cells #[.int .i64 n,.int .i64 d] 27)) (.cells #[.int .i64 m,.int .i64 q] 27)
 have h1:=Zb (w.alloc (.cells #[.int .i64 n,.int .i64 d] 27)) (.cells #[.int .i64 m,.int .i64 q] 27)
 have h0:=e1.at h0
 rw [s0] at h1
 have E1:=Xt e0 e1
 have m1:=fun w=>Zau n d w b1 b2
 have m2:=fun w=>Zau m q w b3 b4
 simp only [rat] at m1 m2 ⊢
 have a0:=Za (j:=0) h0 rfl
 have a1:=Za (j:=1) h0 rfl
 have c0:=Za (j:=0) h1 rfl
 have c1:=Za (j:=1) h1 rfl
 clear e0 e1 s0
 cases q1:Xq n d with
 | false=>
   have hr:Zfh n d m q=0:=by unfold Zfh;rw [q1];rfl
   rw [hr]
   rw [q1] at m1
   go_enter Tryz.func260,Tryz.ntmps260
   go_wp2_with fail
   refine (m1 _).mono ?_
   rintro e w1 ⟨rfl,k1⟩
   go_wp2_with fail
   go_ret
   exact ⟨rfl,Xt E1 k1⟩
 | true=>
   rw [q1] at m1
   cases q2:Xq m q with
   | false=>
     have hr:Zfh n d m q=0:=by unfold Zfh;rw [q1,q2];rfl
     rw [hr]
     rw [q2] at m2
     go_enter Tryz.func260,Tryz.ntmps260
     go_wp2_with fail
     refine (m1 _).mono ?_
     rintro e w1 ⟨rfl,k1⟩
     have c0:=Za (j:=0) (k1.at h1) rfl
     have c1:=Za (j:=1) (k1.at h1) rfl
     go_wp2_with fail
     refine (m2 _).mono ?_
     rintro e w2 ⟨rfl,k2⟩
     go_wp2_with fail
     go_ret
     exact ⟨rfl,Xt E1 (Xt k1 k2)⟩
   | true=>
     rw [q2] at m2
     have hr:Zfh n d m q=Vz (n*q) (m*d):=by unfold Zfh;rw [q1,q2];rfl
     rw [hr]
     unfold Xq at q1 q2
     rw [decide_eq_true_eq] at q1 q2
     have p1:n*q=n*q / W64*W64+n*q%W64:=by rw [Int.mul_comm (n*q / W64)];exact (Int.mul_ediv_add_emod _ _).symm
     have p2:m*d=m*d / W64*W64+m*d%W64:=by rw [Int.mul_comm (m*d / W64)];exact (Int.mul_ediv_add_emod _ _).symm
     have l1:0<=n*q%W64:=Int.emod_nonneg _ (by rw [Vl];decide)
     have l2:n*q%W64<W64:=Int.emod_lt_of_pos _ (by rw [Vl];decide)
     have l3:0<=m*d%W64:=Int.emod_nonneg _ (by rw [Vl];decide)
     have l4:m*d%W64<W64:=Int.emod_lt_of_pos _ (by rw [Vl];decide)
     have u1:=fun w=>Zda n q _ _ w (by omega) (by rw [Vl];omega) (by omega) (by rw [Vl];omega) p1 l1 l2
     have u2:=fun w=>Zda m d _ _ w (by omega) (by rw [Vl];omega) (by omega) (by rw [Vl];omega) p2 l3 l4
     have ht:=cmp_two (a:=n*q / W64) (c:=m*d / W64) l1 l2 l3 l4
     rw [<-p1,<-p2] at ht
     rw [<-ht]
     clear ht p1 p2 l1 l2 l3 l4 hr
     generalize n*q / W64=A at *
     generalize n*q%W64=B at *
     generalize m*d / W64=C at *
     generalize m*d%W64=D at *
     have hc1:=Za1 A C
     have hc2:=Za1 B D
     generalize Vz A C=x at *
     generalize Vz B D=y at *
     go_enter Tryz.func260,Tryz.ntmps260
     go_wp2_with fail
     refine (m1 _).mono ?_
     rintro e w1 ⟨rfl,k1⟩
     have h0:=k1.at h0
     have h1:=k1.at h1
     clear a0 a1 c0 c1
     have c0:=Za (j:=0) h1 rfl
     have c1:=Za (j:=1) h1 rfl
     go_wp2_with fail
     refine (m2 _).mono ?_
     rintro e w2 ⟨rfl,k2⟩
     have h0:=k2.at h0
     have h1:=k2.at h1
     clear c0 c1
     have a0:=Za (j:=0) h0 rfl
     have a1:=Za (j:=1) h0 rfl
     have c0:=Za (j:=0) h1 rfl
     have c1:=Za (j:=1) h1 rfl
     go_wp2_with fail
     refine (u1 _).mono ?_
     rintro e w3 ⟨rfl,k3⟩
     have h0:=k3.at h0
     have h1:=k3.at h1
     clear a0 a1 c0 c1
     have a0:=Za (j:=0) h0 rfl
     have a1:=Za (j:=1) h0 rfl
     have c0:=Za (j:=0) h1 rfl
     have c1:=Za (j:=1) h1 rfl
     go_wp2_with fail
     refine (u2 _).mono ?_
     rintro e w4 ⟨rfl,k4⟩
     clear a0 a1 c0 c1
     have E4:=Xt E1 (Xt k1 (Xt k2 (Xt k3 k4)))
     go_wp2_with fail
     refine (hc1 _).mono ?_
     rintro e w5 ⟨rfl,rfl⟩
     go_wp2_with fail
     refine (hc2 _).mono ?_
     rintro e w6 ⟨rfl,rfl⟩
     go_wp2_with fail
     refine (Zhs x y _ _ _ (Za (j:=0) (Zb _ _) rfl) (Za (j:=1) (Zb _ _) rfl)).mono ?_
     rintro e w7 ⟨rfl,rfl⟩
     go_wp2
     go_ret
     exact ⟨rfl,Xt E4 (Zc _ _)⟩
theorem Zcv (o x:Off) (w:World) (b1:o.num<=9223372036854775807) (b2:o.den<=9223372036854775807) (b3:x.num<=9223372036854775807) (b4:x.den<=9223372036854775807):
 Calls Tryz.prog 224 #[o.agg,x.agg] w (Ret (.int .i64 (Zq2 o x)) w):=by
 have hr:=fun w=>Zev o.num o.den x.num x.den w b1 b2 b3 b4
 have hq:∀w,Calls Tryz.prog 261 #[.int .u64 o.seq,.int .u64 x.seq] w (Ret (.int .i64 (Vz o.seq x.seq)) w):=fun w=>(Za1 o.seq x.seq w).mono (by rintro e w' ⟨rfl,rfl⟩;exact ⟨rfl,Ext.refl _⟩)
 unfold Zq2
 obtain ⟨o0,o1,o2,o3,o4,o5,o6⟩:=o
 obtain ⟨x0,x1,x2,x3,x4,x5,x6⟩:=x
 simp only [rat,Off.agg] at *
 generalize Zfh o5 o6 x5 x6=rv at *
 generalize Vz o0 x0=sv at *
 have e0:=Zc w (.cells #[.int .u64 o0,.int .u8 o1,.int .u8 o2,.int .u8 o3,.int .i64 o4,.int .i64 o5,.int .i64 o6] 339)
 have h0:=Zb w (.cells #[.int .u64 o0,.int .u8 o1,.int .u8 o2,.int .u8 o3,.int .i64 o4,.int .i64 o5,.int .i64 o6] 339)
 have s0:=size_alloc w (.cells #[.int .u64 o0,.int .u8 o1,.int .u8 o2,.int .u8 o3,.int .i64 o4,.int .i64 o5,.int .i64 o6] 339)
 generalize hW:w.alloc (.cells #[.int .u64 o0,.int .u8 o1,.int .u8 o2,.int .u8 o3,.int .i64 o4,.int .i64 o5,.int .i64 o6] 339)=W at *
 have e1:=Zc W (.cells #[.int .u64 x0,.int .u8 x1,.int .u8 x2,.int .u8 x3,.int .i64 x4,.int .i64 x5,.int .i64 x6] 339)
 have h1:=Zb W (.cells #[.int .u64 x0,.int .u8 x1,.int .u8 x2,.int .u8 x3,.int .i64 x4,.int .i64 x5,.int .i64 x6] 339)
 have h0:=e1.at h0
 rw [s0] at h1
 have E1:=Xt e0 e1
 have HW:=Lib.hid hW
 clear hW
 go_enter Tryz.func224,Tryz.ntmps224
 go_wp2
 rw [HW.out]
 refine Zf Zk 10 [] (by kernel_rfl) (by kernel_rfl) ?_
 intro w1 hw1
 have q0:∀u:ExtOf w1,u.to.heap[w.heap.size]? =_:=fun u=>(Xt hw1 u.h).at h0
 have q1:∀u:ExtOf w1,u.to.heap[w.heap.size+1]? =_:=fun u=>(Xt hw1 u.h).at h1
 have d0:=fun u:ExtOf w1=>Za (j:=0) (q0 u) rfl
 have d5:=fun u:ExtOf w1=>Za (j:=5) (q0 u) rfl
 have d6:=fun u:ExtOf w1=>Za (j:=6) (q0 u) rfl
 have f0:=fun u:ExtOf w1=>Za (j:=0) (q1 u) rfl
 have f5:=fun u:ExtOf w1=>Za (j:=5) (q1 u) rfl
 have f6:=fun u:ExtOf w1=>Za (j:=6) (q1 u) rfl
 clear q0 q1
 simp only [Zj,Rg.hsB,Nat.reduceAdd,↓reduceIte]
 repeat (go_big_quiet_step (first | (go_at_call 260;exact Ret.cls (hr _)) | (go_at_call 261;exact Ret.cls (hq _))))
 refine wpQuiet_nil ?_
 refine Zi (by kernel_rfl) ?_
 intro w2 e2 e2'
 simp only [Rg.puB]
 clear d0 d5 d6 f0 f5 f6
 go_wp2_with fail
 refine (Zhs rv sv _ _ _ (Za (j:=0) (Zb _ _) rfl) (Za (j:=1) (Zb _ _) rfl)).mono ?_
 rintro e w7 ⟨rfl,rfl⟩
 go_wp2
 go_ret
 exact ⟨rfl,Xt E1 (Xt e2 (Zc _ _))⟩
open Go.Shelf in
theorem cmpLays (l:List Off) [Inhabited {o:Off // o∈l}] (hb:∀o∈l,o.num<=9223372036854775807/\o.den<=9223372036854775807) (blk size:Nat) (w:World):
 CmpLays Tryz.prog 224 #[] (fun x:{o // o∈l}=>x.1.cells) 7 (fun x y=>Zq2 x.1 y.1) blk 0 size w:=
 fun _ _ _ _ x y=>(Zcv x.1 y.1 _ (hb _ x.2).1 (hb _ x.2).2 (hb _ y.2).1 (hb _ y.2).2).mono fun _ _ ⟨h1,h2⟩=>⟨h1,h2.grows⟩
end Go.Proofs.YtipjchbdogmccaaGreat.D
