/- Compare of rates, the draws counted: cmp.Compare, cmp.Or, rats.Compare, the order of the best offers. The best offers, plainly: sorted by rate, then by number. -/
import Derived.Test.YtipjchbdogmccaaGreatBk
import Derived.Test.YtipjchbdogmccaaGreatSortW
import Derived.Test.YtipjchbdogmccaaGreatNumD
import Derived.Test.YtipjchbdogmccaaGreatDiv
import Derived.Shelf.SlSortCmp.WholeK
set_option maxHeartbeats 1600000
set_option maxRecDepth 100000
namespace Go.Proofs.YtipjchbdogmccaaGreat
def Zgh (n d m e:Int):Int:=if Xp n d&&Xp m e then Vy (n*e) (m*d) else 0
def Zsv (x y:Off):Int:=orI (Zgh x.num x.den y.num y.den) (Vy x.seq y.seq)
def ltO (x y:Off):Bool:=decide (Zsv x y<0)
def Vm (l:List Off) (sell buy:Int):List Off:=Jj ltO (l.filter fun o=>o.sell==sell&&o.buy==buy)
def X5 (o:Off):Prop:=Xp o.num o.den=true
theorem Zfe {o:Off} (h:X5 o):0<o.num/\0<o.den:=by
 unfold X5 Xp at h
 rw [decide_eq_true_eq] at h
 omega
theorem Zo9 {x y:Off} (hx:X5 x) (hy:X5 y):ltO x y=true↔x.num*y.den<y.num*x.den\/(x.num*y.den=y.num*x.den/\x.seq<y.seq):=by
 unfold ltO Zsv Zgh
 unfold X5 at hx hy
 rw [hx,hy,decide_eq_true_eq,Zir]
 simp only [Bool.and_self,↓reduceIte]
 rw [Za1,Zei,Za1]
theorem Jt {x y:Off} (hx:X5 x) (hy:X5 y):ltO x y=false↔y.num*x.den<=x.num*y.den/\(x.num*y.den=y.num*x.den->y.seq<=x.seq):=by
 rw [<-Bool.not_eq_true,Zo9 hx hy]
 omega
theorem Zl0 (x y:Off) (hx:X5 x) (hy:X5 y) (h:ltO x y=true):ltO y x=false:=by
 rw [Zo9 hx hy] at h
 rw [Jt hy hx]
 omega
theorem Zfh (x y z:Off) (hx:X5 x) (hy:X5 y) (hz:X5 z) (h1:ltO x y=false) (h2:ltO y z=false):ltO x z=false:=by
 rw [Jt hx hy] at h1
 rw [Jt hy hz] at h2
 rw [Jt hx hz]
 obtain ⟨_,px⟩:=Zfe hx
 obtain ⟨_,py⟩:=Zfe hy
 obtain ⟨_,pz⟩:=Zfe hz
 refine ⟨Zfd px py pz h1.1 h2.1,fun e=> ?_⟩
 have a:=Zfd (n1:=z.num) (n2:=x.num) (n3:=y.num) pz px py (by omega) h1.1
 have b:=Zfd (n1:=y.num) (n2:=z.num) (n3:=x.num) py pz px h2.1 (by omega)
 have c1:=h1.2 (by omega)
 have c2:=h2.2 (by omega)
 omega
theorem Zrs (x:Off) (hx:X5 x):ltO x x=false:=by
 rw [Jt hx hx];omega
theorem ltO_trans (x y z:Off) (hx:X5 x) (hy:X5 y) (hz:X5 z) (h1:ltO x y=true) (h2:ltO y z=true):ltO x z=true:=by
 rw [<-Bool.not_eq_false]
 intro h
 have:=Zfh _ _ _ hy hx hz (Zl0 _ _ hx hy h1) h
 rw [h2] at this
 cases this
theorem ltO_total {x y:Off} (hx:X5 x) (hy:X5 y) (h1:ltO x y=false) (h2:ltO y x=false):x.seq=y.seq:=by
 rw [Jt hx hy] at h1
 rw [Jt hy hx] at h2
 omega
theorem Zfn (l:List Off) (sell buy:Int):(Vm l sell buy).Perm (l.filter fun o=>o.sell==sell&&o.buy==buy):=Va _ _
theorem Zly {l:List Off} {sell buy:Int} {o:Off} (h:o∈Vm l sell buy):o∈l/\o.sell=sell/\o.buy=buy:=by
 have:=(Zfn l sell buy).subset h
 rw [List.mem_filter] at this
 simpa using this
end Go.Proofs.YtipjchbdogmccaaGreat
namespace Go.Proofs.YtipjchbdogmccaaGreat.D
open Go.RowKit Go.RgD Go.BigFrame
theorem Zh2 (x:Int) (w:World):Calls Tryz.prog 253 #[.int .u64 x] w (fun e w'=>e= .returned (.bool false)/\w'=w):=by
 go_enter Tryz.func253,Tryz.ntmps253
 go_wp2
 go_ret
 exact ⟨rfl,rfl⟩
theorem Zbo (x y:Int) (w:World):Calls Tryz.prog 261 #[.int .u64 x,.int .u64 y] w (fun e w'=>e= .returned (.int .i64 (Vy x y))/\w'=w):=by
 have hx:=Zh2 x
 have hy:=Zh2 y
 unfold Vy
 by_cases h1:x<y
 focus
  have h1':decide (x<y)=true:=by simpa using h1
  rw [if_pos h1]
 rotate_left
 focus
  have h1':decide (x<y)=false:=by simpa using h1
  rw [if_neg h1]
  by_cases h2:y<x
  focus
   have h2':decide (y<x)=true:=by simpa using h2
   rw [if_pos h2]
  rotate_left
  focus
   have h2':decide (y<x)=false:=by simpa using h2
   rw [if_neg h2]
 all_goals
  go_enter Tryz.func261,Tryz.ntmps261
  go_wp2_with fail
  refine (hx _).mono ?_
  rintro e w' ⟨rfl,rfl⟩
  go_wp2_with fail
  refine (hy _).mono ?_
  rintro e w' ⟨rfl,rfl⟩
  go_wp2
  go_ret
  exact ⟨rfl,rfl⟩
theorem Zis (a b:Int) (g cap:Nat) (w:World) (c0:w.cell? ⟨g,0,none⟩=some (.int .i64 a)) (c1:w.cell? ⟨g,1,none⟩=some (.int .i64 b)):
 Calls Tryz.prog 157 #[.slice (some ⟨g,0,none⟩) 2 cap] w (fun e w'=>e= .returned (.int .i64 (orI a b))/\w'=w):=by
 obtain ⟨r,hr⟩:∃r,r=orI a b:=⟨_,rfl⟩
 rw [<-hr]
 have HR:=Lib.hid hr
 clear hr
 go_enter Tryz.func157,Tryz.ntmps157
 go_wp2
 go_loopw [8] (fun i wr=>∃k:Nat,k<=2/\i= .int .i64 k/\wr=w/\(1<=k->a=0)/\(2<=k->b=0)) (fun i _=>2-(intOf i).toNat)
 case atStart=>exact ⟨0,by omega,rfl,rfl,by omega,by omega⟩
 obtain ⟨k,hk,rfl,rfl,ha,hb⟩:=hrel
 by_cases h2:k=2
 focus
  subst h2
  rw [show ((2:Nat):Int)=2 from rfl]
  have ha:=ha (by omega)
  have hb:=hb (by omega)
  subst ha hb
  have HO:=Lib.hid (show orI 0 0=0 by unfold orI;rw [if_pos rfl])
 rotate_left
 focus
  by_cases h1:k=1
  focus
   subst h1
   rw [show ((1:Nat):Int)=1 from rfl]
   have ha:=ha (by omega)
   subst ha
   by_cases q:b=0
   ·subst q
    go_wp2
    exact ⟨⟨2,by omega,by go_num,by first | exact ⟨rfl,by omega,by omega⟩ | simp⟩,by simp [intOf]⟩
   have q':(b==0)=false:=by simpa using q
   have HO:=Lib.hid (show orI 0 b=b by unfold orI;rw [if_pos rfl])
  rotate_left
  focus
   have h0:k=0:=by omega
   subst h0
   rw [show ((0:Nat):Int)=0 from rfl]
   by_cases q:a=0
   ·subst q
    go_wp2
    exact ⟨⟨1,by omega,by go_num,by first | exact ⟨rfl,by omega,by omega⟩ | simp⟩,by simp [intOf]⟩
   have q':(a==0)=false:=by simpa using q
   have HO:=Lib.hid (show orI a b=a by unfold orI;rw [if_neg q])
 all_goals
  go_wp2
  go_ret
  exact ⟨by first | (rw [HR.out,HO.out];rfl) | rw [HR.out,HO.out],rfl⟩
theorem Zeb (x y hi lo:Int) (w:World) (hx:0<=x) (hx2:x<W64) (hy:0<=y) (hy2:y<W64) (h:x*y=hi*W64+lo) (hl:0<=lo) (hl2:lo<W64):
 Calls Tryz.prog 296 #[.int .u64 x,.int .u64 y] w (Ret (.tuple #[.int .u64 hi,.int .u64 lo]) w):=by
 obtain ⟨m,rfl⟩:=Int.eq_ofNat_of_zero_le hx
 obtain ⟨n,rfl⟩:=Int.eq_ofNat_of_zero_le hy
 rw [Vj] at *
 refine (Tryz.bits_Mul64 m n (by omega) (by omega) w).mono ?_
 rintro e w' ⟨rfl,rfl⟩
 have e1:((m*n / 18446744073709551616:Nat):Int)=hi:=by
  rw [Int.natCast_ediv,Int.natCast_mul,h]
  omega
 have e2:((m*n%18446744073709551616:Nat):Int)=lo:=by
  rw [Int.natCast_emod,Int.natCast_mul,h]
  omega
 rw [e1,e2]
 exact ⟨rfl,Ext.refl _⟩
theorem cmp_two {a b c d:Int} (hb:0<=b) (hb2:b<W64) (hd:0<=d) (hd2:d<W64):orI (Vy a c) (Vy b d)=Vy (a*W64+b) (c*W64+d):=by
 rw [Vj] at *
 unfold orI Vy
 repeat' split
 all_goals omega
theorem Zfv (n d m q:Int) (w:World) (b1:n<=9223372036854775807) (b2:d<=9223372036854775807) (b3:m<=9223372036854775807) (b4:q<=9223372036854775807):
 Calls Tryz.prog 260 #[rat (n,d),rat (m,q)] w (Ret (.int .i64 (Zgh n d m q)) w):=by
 have e0:=Zc w (.cells #[.int .i64 n,.int .i64 d] 27)
 have h0:=Zb w (.cells #[.int .i64 n,.int .i64 d] 27)
 have s0:=size_alloc w (.cells #[.int .i64 n,.int .i64 d] 27)
 have e1:=Zc (w.alloc (.cells #[.int .i64 n,.int .i64 d] 27)) (.cells #[.int .i64 m,.int .i64 q] 27)
 have h1:=Zb (w.alloc (.cells #[.int .i64 n,.int .i64 d] 27)) (.cells #[.int .i64 m,.int .i64 q] 27)
 have h0:=e1.at h0
 rw [s0] at h1
 have E1:=Xt e0 e1
 have m1:=fun w=>Zbe n d w b1 b2
 have m2:=fun w=>Zbe m q w b3 b4
 simp only [rat] at m1 m2 ⊢
 have a0:=Za (j:=0) h0 rfl
 have a1:=Za (j:=1) h0 rfl
 have c0:=Za (j:=0) h1 rfl
 have c1:=Za (j:=1) h1 rfl
 clear e0 e1 s0
 cases q1:Xp n d with
 | false=>
   have hr:Zgh n d m q=0:=by unfold Zgh;rw [q1];rfl
   rw [hr]
   rw [q1] at m1
   go_enter Tryz.func260,Tryz.ntmps260
   go_wp2_with fail
   refine (m1 _).mono ?_
   rintro e w1 ⟨rfl,k1⟩
   go_wp2_with fail
   go_ret
   exact ⟨rfl,Xt E1 k1⟩
 | true=>
   rw [q1] at m1
   cases q2:Xp m q with
   | false=>
     have hr:Zgh n d m q=0:=by unfold Zgh;rw [q1,q2];rfl
     rw [hr]
     rw [q2] at m2
     go_enter Tryz.func260,Tryz.ntmps260
     go_wp2_with fail
     refine (m1 _).mono ?_
     rintro e w1 ⟨rfl,k1⟩
     have c0:=Za (j:=0) (k1.at h1) rfl
     have c1:=Za (j:=1) (k1.at h1) rfl
     go_wp2_with fail
     refine (m2 _).mono ?_
     rintro e w2 ⟨rfl,k2⟩
     go_wp2_with fail
     go_ret
     exact ⟨rfl,Xt E1 (Xt k1 k2)⟩
   | true=>
     rw [q2] at m2
     have hr:Zgh n d m q=Vy (n*q) (m*d):=by unfold Zgh;rw [q1,q2];rfl
     rw [hr]
     unfold Xp at q1 q2
     rw [decide_eq_true_eq] at q1 q2
     have p1:n*q=n*q / W64*W64+n*q%W64:=by rw [Int.mul_comm (n*q / W64)];exact (Int.mul_ediv_add_emod _ _).symm
     have p2:m*d=m*d / W64*W64+m*d%W64:=by rw [Int.mul_comm (m*d / W64)];exact (Int.mul_ediv_add_emod _ _).symm
     have l1:0<=n*q%W64:=Int.emod_nonneg _ (by rw [Vj];decide)
     have l2:n*q%W64<W64:=Int.emod_lt_of_pos _ (by rw [Vj];decide)
     have l3:0<=m*d%W64:=Int.emod_nonneg _ (by rw [Vj];decide)
     have l4:m*d%W64<W64:=Int.emod_lt_of_pos _ (by rw [Vj];decide)
     have u1:=fun w=>Zeb n q _ _ w (by omega) (by rw [Vj];omega) (by omega) (by rw [Vj];omega) p1 l1 l2
     have u2:=fun w=>Zeb m d _ _ w (by omega) (by rw [Vj];omega) (by omega) (by rw [Vj];omega) p2 l3 l4
     have ht:=cmp_two (a:=n*q / W64) (c:=m*d / W64) l1 l2 l3 l4
     rw [<-p1,<-p2] at ht
     rw [<-ht]
     clear ht p1 p2 l1 l2 l3 l4 hr
     generalize n*q / W64=A at *
     generalize n*q%W64=B at *
     generalize m*d / W64=C at *
     generalize m*d%W64=D at *
     have hc1:=Zbo A C
     have hc2:=Zbo B D
     generalize Vy A C=x at *
     generalize Vy B D=y at *
     go_enter Tryz.func260,Tryz.ntmps260
     go_wp2_with fail
     refine (m1 _).mono ?_
     rintro e w1 ⟨rfl,k1⟩
     have h0:=k1.at h0
     have h1:=k1.at h1
     clear a0 a1 c0 c1
     have c0:=Za (j:=0) h1 rfl
     have c1:=Za (j:=1) h1 rfl
     go_wp2_with fail
     refine (m2 _).mono ?_
     rintro e w2 ⟨rfl,k2⟩
     have h0:=k2.at h0
     have h1:=k2.at h1
     clear c0 c1
     have a0:=Za (j:=0) h0 rfl
     have a1:=Za (j:=1) h0 rfl
     have c0:=Za (j:=0) h1 rfl
     have c1:=Za (j:=1) h1 rfl
     go_wp2_with fail
     refine (u1 _).mono ?_
     rintro e w3 ⟨rfl,k3⟩
     have h0:=k3.at h0
     have h1:=k3.at h1
     clear a0 a1 c0 c1
     have a0:=Za (j:=0) h0 rfl
     have a1:=Za (j:=1) h0 rfl
     have c0:=Za (j:=0) h1 rfl
     have c1:=Za (j:=1) h1 rfl
     go_wp2_with fail
     refine (u2 _).mono ?_
     rintro e w4 ⟨rfl,k4⟩
     clear a0 a1 c0 c1
     have E4:=Xt E1 (Xt k1 (Xt k2 (Xt k3 k4)))
     go_wp2_with fail
     refine (hc1 _).mono ?_
     rintro e w5 ⟨rfl,rfl⟩
     go_wp2_with fail
     refine (hc2 _).mono ?_
     rintro e w6 ⟨rfl,rfl⟩
     go_wp2_with fail
     refine (Zis x y _ _ _ (Za (j:=0) (Zb _ _) rfl) (Za (j:=1) (Zb _ _) rfl)).mono ?_
     rintro e w7 ⟨rfl,rfl⟩
     go_wp2
     go_ret
     exact ⟨rfl,Xt E4 (Zc _ _)⟩
theorem Zdy (o x:Off) (w:World) (b1:o.num<=9223372036854775807) (b2:o.den<=9223372036854775807) (b3:x.num<=9223372036854775807) (b4:x.den<=9223372036854775807):
 Calls Tryz.prog 224 #[o.agg,x.agg] w (Ret (.int .i64 (Zsv o x)) w):=by
 have hr:=fun w=>Zfv o.num o.den x.num x.den w b1 b2 b3 b4
 have hq:∀w,Calls Tryz.prog 261 #[.int .u64 o.seq,.int .u64 x.seq] w (Ret (.int .i64 (Vy o.seq x.seq)) w):=fun w=>(Zbo o.seq x.seq w).mono (by rintro e w' ⟨rfl,rfl⟩;exact ⟨rfl,Ext.refl _⟩)
 unfold Zsv
 obtain ⟨o0,o1,o2,o3,o4,o5,o6⟩:=o
 obtain ⟨x0,x1,x2,x3,x4,x5,x6⟩:=x
 simp only [rat,Off.agg] at *
 generalize Zgh o5 o6 x5 x6=rv at *
 generalize Vy o0 x0=sv at *
 have e0:=Zc w (.cells #[.int .u64 o0,.int .u8 o1,.int .u8 o2,.int .u8 o3,.int .i64 o4,.int .i64 o5,.int .i64 o6] 339)
 have h0:=Zb w (.cells #[.int .u64 o0,.int .u8 o1,.int .u8 o2,.int .u8 o3,.int .i64 o4,.int .i64 o5,.int .i64 o6] 339)
 have s0:=size_alloc w (.cells #[.int .u64 o0,.int .u8 o1,.int .u8 o2,.int .u8 o3,.int .i64 o4,.int .i64 o5,.int .i64 o6] 339)
 generalize hW:w.alloc (.cells #[.int .u64 o0,.int .u8 o1,.int .u8 o2,.int .u8 o3,.int .i64 o4,.int .i64 o5,.int .i64 o6] 339)=W at *
 have e1:=Zc W (.cells #[.int .u64 x0,.int .u8 x1,.int .u8 x2,.int .u8 x3,.int .i64 x4,.int .i64 x5,.int .i64 x6] 339)
 have h1:=Zb W (.cells #[.int .u64 x0,.int .u8 x1,.int .u8 x2,.int .u8 x3,.int .i64 x4,.int .i64 x5,.int .i64 x6] 339)
 have h0:=e1.at h0
 rw [s0] at h1
 have E1:=Xt e0 e1
 have HW:=Lib.hid hW
 clear hW
 go_enter Tryz.func224,Tryz.ntmps224
 go_wp2
 rw [HW.out]
 refine Zg Zl 10 [] (by kernel_rfl) (by kernel_rfl) ?_
 intro w1 hw1
 have q0:∀u:ExtOf w1,u.to.heap[w.heap.size]? =_:=fun u=>(Xt hw1 u.h).at h0
 have q1:∀u:ExtOf w1,u.to.heap[w.heap.size+1]? =_:=fun u=>(Xt hw1 u.h).at h1
 have d0:=fun u:ExtOf w1=>Za (j:=0) (q0 u) rfl
 have d5:=fun u:ExtOf w1=>Za (j:=5) (q0 u) rfl
 have d6:=fun u:ExtOf w1=>Za (j:=6) (q0 u) rfl
 have f0:=fun u:ExtOf w1=>Za (j:=0) (q1 u) rfl
 have f5:=fun u:ExtOf w1=>Za (j:=5) (q1 u) rfl
 have f6:=fun u:ExtOf w1=>Za (j:=6) (q1 u) rfl
 clear q0 q1
 simp only [Zj,Rg.hsB,Nat.reduceAdd,↓reduceIte]
 repeat (go_big_quiet_step (first | (go_at_call 260;exact Ret.cls (hr _)) | (go_at_call 261;exact Ret.cls (hq _))))
 refine wpQuiet_nil ?_
 refine Zi (by kernel_rfl) ?_
 intro w2 e2 e2'
 simp only [Rg.puB]
 clear d0 d5 d6 f0 f5 f6
 go_wp2_with fail
 refine (Zis rv sv _ _ _ (Za (j:=0) (Zb _ _) rfl) (Za (j:=1) (Zb _ _) rfl)).mono ?_
 rintro e w7 ⟨rfl,rfl⟩
 go_wp2
 go_ret
 exact ⟨rfl,Xt E1 (Xt e2 (Zc _ _))⟩
open Go.Shelf in
theorem cmpLays (l:List Off) [Inhabited {o:Off // o∈l}] (hb:∀o∈l,o.num<=9223372036854775807/\o.den<=9223372036854775807) (blk size:Nat) (w:World):
 CmpLays Tryz.prog 224 #[] (fun x:{o // o∈l}=>x.1.cells) 7 (fun x y=>Zsv x.1 y.1) blk 0 size w:=
 fun _ _ _ _ x y=>(Zdy x.1 y.1 _ (hb _ x.2).1 (hb _ x.2).2 (hb _ y.2).1 (hb _ y.2).2).mono fun _ _ ⟨h1,h2⟩=>⟨h1,h2.grows⟩
end Go.Proofs.YtipjchbdogmccaaGreat.D
