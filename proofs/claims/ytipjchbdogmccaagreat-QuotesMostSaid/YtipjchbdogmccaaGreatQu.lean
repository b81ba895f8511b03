/- Quotes: the chapter's example; walked. Quotes: the chapter's example; walked. -/
import Derived.Test.YtipjchbdogmccaaGreatQo
import Derived.Test.YtipjchbdogmccaaGreatQp
import Derived.Test.YtipjchbdogmccaaGreatQs
set_option maxRecDepth 100000
namespace Go.Proofs.YtipjchbdogmccaaGreat
open Go.RowKit Go.Rg Go.BigFrame
def z3:Stp:=⟨1,3,0,0,0,0,0,0,0,0⟩
def z4:Stp:=⟨2,3,2,1,0,9,0,0,0,0⟩
def z5:Stp:=⟨2,2,1,2,0,7,0,0,0,0⟩
def z6:Stp:=⟨5,2,0,1,2,5,0,3,2,0⟩
def zL:Led:=(Z6 [xs1,xs2,z3,z4,z5,z6] Zjc ⟨[],1⟩).2.1
def zB:Bk:=(Z6 [xs1,xs2,z3,z4,z5,z6] Zjc ⟨[],1⟩).2.2
theorem za1:Z6 [xs1,xs2,z3,z4,z5,z6] Zjc ⟨[],1⟩=((0,0,[(0,0),(0,0),(0,0),(0,0),(0,0),(0,1)]),zL,zB):=by kernel_rfl
theorem zd1:Yh zL zB 1 3 1 2 2=(3,0):=by kernel_rfl
theorem zd2:Yh zL zB 1 3 1 2 5=(0,11):=by kernel_rfl
theorem zm1:Uw zL zB 1 3 1 2 7=(4,6):=by kernel_rfl
theorem zm2:Uw zL zB 1 3 1 2 1=(0,0):=by kernel_rfl
def zs:Stp:=swS 1 3 1 2 2 9
theorem zo1:zB.offs=[⟨1,2,1,2,5,3,2⟩]:=by kernel_rfl
theorem zo2:(Z6 [zs] zL zB).2.2.offs=[⟨1,2,1,2,3,3,2⟩]:=by kernel_rfl
def zM:List Mv:=[(1,2,0,-3),(2,1,0,-2),(2,2,0,3),(3,1,0,2)]
def zD:List Dt:=[(3,2,1,0,2),(2,1,2,0,3)]
def zF:List Lf:=[(1,5,3)]
theorem zq1:Zmr [zs] zL zB [1]=⟨(0,0,[(3,1)]),zM,zD,zF⟩:=by kernel_rfl
theorem eq_mv (a b c d:Int) (w:World):(Op.equalIn 10000 125 (.agg #[.int .u8 a,.int .u8 b,.int .i64 c,.int .i64 d]) (.agg #[.int .u8 a,.int .u8 b,.int .i64 c,.int .i64 d])).run Tryz.prog w= .ok true w:=by
 have hS:Tryz.prog.underlying 125=some (.struct (Tryz.prog.fieldsOf 125)):=by kernel_rfl
 have hp:Tryz.prog.stoodInHeld 125=false:=by kernel_rfl
 rw [show (10000:Nat)=9999+1 from rfl,run_equalIn_agg w 9999 125 _ _ hS hp]
 simp only [Program.fieldsOf,Tryz.underlying125]
 go_simp
theorem eq_dt (a b c d e:Int) (w:World):(Op.equalIn 10000 127 (.agg #[.int .u8 a,.int .u8 b,.int .u8 c,.int .i64 d,.int .i64 e]) (.agg #[.int .u8 a,.int .u8 b,.int .u8 c,.int .i64 d,.int .i64 e])).run Tryz.prog w= .ok true w:=by
 have hS:Tryz.prog.underlying 127=some (.struct (Tryz.prog.fieldsOf 127)):=by kernel_rfl
 have hp:Tryz.prog.stoodInHeld 127=false:=by kernel_rfl
 rw [show (10000:Nat)=9999+1 from rfl,run_equalIn_agg w 9999 127 _ _ hS hp]
 simp only [Program.fieldsOf,Tryz.underlying127]
 go_simp
theorem eq_lf (a b c:Int) (w:World):(Op.equalIn 10000 129 (.agg #[.int .u64 a,.int .i64 b,.int .i64 c]) (.agg #[.int .u64 a,.int .i64 b,.int .i64 c])).run Tryz.prog w= .ok true w:=by
 have hS:Tryz.prog.underlying 129=some (.struct (Tryz.prog.fieldsOf 129)):=by kernel_rfl
 have hp:Tryz.prog.stoodInHeld 129=false:=by kernel_rfl
 rw [show (10000:Nat)=9999+1 from rfl,run_equalIn_agg w 9999 129 _ _ hS hp]
 simp only [Program.fieldsOf,Tryz.underlying129]
 go_simp
theorem z_in:∀s∈[xs1,xs2,z3,z4,z5,z6],Zfl s:=by
 intro s hs
 simp only [List.mem_cons,List.not_mem_nil,or_false] at hs
 rcases hs with rfl | rfl | rfl | rfl | rfl | rfl<;>exact Jw _ ⟨by decide,by decide,by decide,by decide⟩
theorem zs_in:∀s∈[zs],Zfl s:=by
 intro s hs
 rw [List.mem_singleton.1 hs]
 exact Jw _ ⟨by decide,by decide,by decide,by decide⟩
set_option maxHeartbeats 12800000 in
theorem Vg (w:World):Calls Tryz.prog 47 #[] w (Ret (.bool true) w):=by
 have HIN:=Lib.hid z_in
 have HIS:=Lib.hid zs_in
 have HEM:=Lib.hid eq_mv
 have HED:=Lib.hid eq_dt
 have HEL:=Lib.hid eq_lf
 go_enter Tryz.func47,Tryz.ntmps47
 go_wp2_with fail
 refine (Zok w).mono ?_
 rintro e w1 ⟨q,p,m,pb,g,rfl,e1,hM1,hq⟩
 go_wp2_with (first
  | (refine Jp (len:=6) rfl (by kernel_rfl) (.cells (X3 [xs1,xs2,z3,z4,z5,z6]).toArray 30) (.slice (some ⟨w1.heap.size,0,none⟩) 6 6) _ rfl (by kernel_rfl) ?_
     intro w2 e2 h2))
 refine (ap_at za1 6 rfl q p m pb g _ w2 (hM1.ext e2) (Zch h2 rfl (show 6<=maxLen by decide) (Nat.zero_le _)) HIN.out).mono ?_
 rintro e w3 ⟨A3,c3,p3,m3,pb3,g3,rfl,f3,hs3,hM3⟩
 have E3:Ext w w3:=FrA.ext0 (Xt e1 e2) f3 (fun x (hx:x=q)=>by omega)
 clear hM1 h2 hs3 e1 e2 f3 HIN
 have d1:=fun W (k:Ext w3 W)=>U1 q p3 m3 pb3 g3 zL zB 1 3 1 2 2 W (hM3.ext k) (by decide)
 have d2:=fun W (k:Ext w3 W)=>U1 q p3 m3 pb3 g3 zL zB 1 3 1 2 5 W (hM3.ext k) (by decide)
 have d3:=fun W (k:Ext w3 W)=>Ze0 q p3 m3 pb3 g3 zL zB 1 3 1 2 7 W (hM3.ext k)
 have d4:=fun W (k:Ext w3 W)=>Ze0 q p3 m3 pb3 g3 zL zB 1 3 1 2 1 W (hM3.ext k)
 rw [zd1] at d1
 rw [zd2] at d2
 rw [zm1] at d3
 rw [zm2] at d4
 go_wp2_with fail
 refine (d1 w3 (Ext.refl _)).mono ?_
 rintro e w4 ⟨rfl,e4⟩
 go_wp2_with fail
 refine (d2 w4 e4).mono ?_
 rintro e w5 ⟨rfl,e5⟩
 go_wp2_with fail
 refine (d3 w5 (Xt e4 e5)).mono ?_
 rintro e w6 ⟨rfl,e6⟩
 go_wp2_with fail
 refine (d4 w6 (Xt e4 (Xt e5 e6))).mono ?_
 rintro e w7 ⟨rfl,e7⟩
 have E37:=Xt e4 (Xt e5 (Xt e6 e7))
 have E7:=Xt E3 E37
 have hM7:=hM3.ext E37
 clear d1 d2 d3 d4 hM3 e4 e5 e6 e7 E37 E3
 go_wp2_with (first
  | (refine Jp (w:=w7) (len:=1) rfl (by kernel_rfl) (.cells (X3 [zs]).toArray 30) (.slice (some ⟨w7.heap.size,0,none⟩) 1 1) _ rfl (by kernel_rfl) ?_
     intro w8 e8 h8))
 have hof:=qof_any q p3 m3 pb3 g3 zL zB [zs] _ w8 (hM7.ext e8) (Zch (base:=0) h8 rfl (show 1<=maxLen by decide) (Nat.zero_le _)).arg HIS.out [1] (by decide) (fun _ W v1 v2 v3 nx u1 u2 u3 nu t1 t2 t3 t4 t5 t6 k1 k2=>by
  rw [zo1] at k1
  rw [zo2] at k2
  exact num1_any v1 v2 v3 u1 u2 u3 nx nu ⟨1,2,1,2,5,3,2⟩ ⟨1,2,1,2,3,3,2⟩ rfl W t1 t2 t3 t4 t5 t6 k1 k2)
 rw [zq1] at hof
 refine hof.mono ?_
 clear hof
 rintro e w9 ⟨vg,vm,vd,vo,rfl,e9,sg,sm,sd,sf⟩
 simp only at sg sm sd sf
 have SG:=Lib.hid sg
 obtain ⟨Ag,cg,rfl,_⟩:=id sg
 obtain ⟨Am,cm,rfl,_,_,_,sm4⟩:=sm
 obtain ⟨Ad,cd,rfl,_,_,_,sd4⟩:=sd
 obtain ⟨Af,cf,rfl,_,_,_,sf4⟩:=sf
 rcases sm4 with sm4 | ⟨gm,rfl,gm1,gm2,gm3⟩
 ·exact absurd sm4 (by decide)
 rcases sd4 with sd4 | ⟨gd,rfl,gd1,gd2,gd3⟩
 ·exact absurd sd4 (by decide)
 rcases sf4 with sf4 | ⟨gf,rfl,gf1,gf2,gf3⟩
 ·exact absurd sf4 (by decide)
 rw [show [((3:Int),(1:Int))].length=1 from rfl,show zM.length=4 from rfl,show zD.length=2 from rfl,show zF.length=1 from rfl]
 have E9:=Xt E7 (Xt e8 e9)
 have hz:=Zb w9 (.cells #[.int .i64 0,.int .i64 0,.slice none 0 0,.slice none 0 0,.slice none 0 0,.slice none 0 0] 116)
 have GM:=Lib.hid gm3
 have GD:=Lib.hid gd3
 have GF:=Lib.hid gf3
 clear gm3 gd3 gf3 hM7 h8 e8 e9 E7 sg HIS
 go_wp2_with (first
  | (refine Ze rfl rfl 116 _ _ rfl w9.heap.size _ rfl rfl 116 _ hz (by kernel_rfl) (by rfl) (by rfl) ?_
     intro w10 hb10 ho10 h10
     have e10:Ext w9 w10:=hb10 _ _ (Nat.le_refl _) (Zc _ _)
     have x0:=Za (j:=0) h10 rfl
     have x1:=Za (j:=1) h10 rfl
     have x2:=Za (j:=2) h10 rfl
     have x3:=Za (j:=3) h10 rfl
     have x4:=Za (j:=4) h10 rfl
     have x5:=Za (j:=5) h10 rfl))
 have e11:=Zc w10 (.cells #[.int .i64 3,.int .i64 1] 55)
 have h11:=Zb w10 (.cells #[.int .i64 3,.int .i64 1] 55)
 clear x0 x1 x2 x3 x4 x5 hz hb10 ho10
 refine (sameR_any w8.heap.size 0 _ _ 0 0 [(3,1)] _ (SG.out.ext (Xt e10 e11)) (Zch (base:=0) h11 rfl (show 1<=maxLen by decide) (Nat.zero_le _))).mono ?_
 rintro e w12 ⟨rfl,e12⟩
 have EE:=Xt e10 (Xt e11 e12)
 have h12:=(Xt e11 e12).at h10
 have y3:=Za (j:=3) h12 rfl
 have y4:=Za (j:=4) h12 rfl
 have y5:=Za (j:=5) h12 rfl
 have m0:=(Zf (a:=⟨gm,0,none⟩) (EE.block gm2)).trans (GM.out 0 _ rfl)
 have m1:=(Zf (a:=⟨gm,1,none⟩) (EE.block gm2)).trans (GM.out 1 _ rfl)
 have m2:=(Zf (a:=⟨gm,2,none⟩) (EE.block gm2)).trans (GM.out 2 _ rfl)
 have m3:=(Zf (a:=⟨gm,3,none⟩) (EE.block gm2)).trans (GM.out 3 _ rfl)
 have m4:=(Zf (a:=⟨gm,4,none⟩) (EE.block gm2)).trans (GM.out 4 _ rfl)
 have m5:=(Zf (a:=⟨gm,5,none⟩) (EE.block gm2)).trans (GM.out 5 _ rfl)
 have m6:=(Zf (a:=⟨gm,6,none⟩) (EE.block gm2)).trans (GM.out 6 _ rfl)
 have m7:=(Zf (a:=⟨gm,7,none⟩) (EE.block gm2)).trans (GM.out 7 _ rfl)
 have m8:=(Zf (a:=⟨gm,8,none⟩) (EE.block gm2)).trans (GM.out 8 _ rfl)
 have m9:=(Zf (a:=⟨gm,9,none⟩) (EE.block gm2)).trans (GM.out 9 _ rfl)
 have m10:=(Zf (a:=⟨gm,10,none⟩) (EE.block gm2)).trans (GM.out 10 _ rfl)
 have m11:=(Zf (a:=⟨gm,11,none⟩) (EE.block gm2)).trans (GM.out 11 _ rfl)
 have m12:=(Zf (a:=⟨gm,12,none⟩) (EE.block gm2)).trans (GM.out 12 _ rfl)
 have m13:=(Zf (a:=⟨gm,13,none⟩) (EE.block gm2)).trans (GM.out 13 _ rfl)
 have m14:=(Zf (a:=⟨gm,14,none⟩) (EE.block gm2)).trans (GM.out 14 _ rfl)
 have m15:=(Zf (a:=⟨gm,15,none⟩) (EE.block gm2)).trans (GM.out 15 _ rfl)
 have d0:=(Zf (a:=⟨gd,0,none⟩) (EE.block gd2)).trans (GD.out 0 _ rfl)
 have d1:=(Zf (a:=⟨gd,1,none⟩) (EE.block gd2)).trans (GD.out 1 _ rfl)
 have d2:=(Zf (a:=⟨gd,2,none⟩) (EE.block gd2)).trans (GD.out 2 _ rfl)
 have d3:=(Zf (a:=⟨gd,3,none⟩) (EE.block gd2)).trans (GD.out 3 _ rfl)
 have d4:=(Zf (a:=⟨gd,4,none⟩) (EE.block gd2)).trans (GD.out 4 _ rfl)
 have d5:=(Zf (a:=⟨gd,5,none⟩) (EE.block gd2)).trans (GD.out 5 _ rfl)
 have d6:=(Zf (a:=⟨gd,6,none⟩) (EE.block gd2)).trans (GD.out 6 _ rfl)
 have d7:=(Zf (a:=⟨gd,7,none⟩) (EE.block gd2)).trans (GD.out 7 _ rfl)
 have d8:=(Zf (a:=⟨gd,8,none⟩) (EE.block gd2)).trans (GD.out 8 _ rfl)
 have d9:=(Zf (a:=⟨gd,9,none⟩) (EE.block gd2)).trans (GD.out 9 _ rfl)
 have f0:=(Zf (a:=⟨gf,0,none⟩) (EE.block gf2)).trans (GF.out 0 _ rfl)
 have f1:=(Zf (a:=⟨gf,1,none⟩) (EE.block gf2)).trans (GF.out 1 _ rfl)
 have f2:=(Zf (a:=⟨gf,2,none⟩) (EE.block gf2)).trans (GF.out 2 _ rfl)
 have q1:=HEM.out 1 2 0 (-3) w12
 have q2:=HEM.out 2 1 0 (-2) w12
 have q3:=HEM.out 2 2 0 3 w12
 have q4:=HEM.out 3 1 0 2 w12
 have q5:=HED.out 3 2 1 0 2 w12
 have q6:=HED.out 2 1 2 0 3 w12
 have q7:=HEL.out 1 5 3 w12
 clear e11 h11 h10 e12 h12 SG GM GD GF HEM HED HEL
 go_wp2_with fail
 go_ret
 exact ⟨rfl,Xt E9 EE⟩
end Go.Proofs.YtipjchbdogmccaaGreat
