/- math/bits.Mul64 and Div64, as whole numbers say it. Knuth's division of two digits, in plain Lean. -/
import Derived.Test.YtipjchbdogmccaaGreatBase
import Derived.Laws.Bits64
import Derived.Test.YtipjchbdogmccaaGreatShelf
import Derived.Lib.ItoaNum
namespace Go.Proofs.YtipjchbdogmccaaGreat
structure Kn (y1 y0 u d:Nat):Prop where
 h1:2147483648<=y1
 h2:y1<4294967296
 h0:y0<4294967296
 hu:u<y1*4294967296+y0
 hd:d<4294967296
def knQ (y1 y0 u d:Nat):Nat:=(u*4294967296+d) / (y1*4294967296+y0)
theorem Kn.small {y1 y0 u d:Nat} (h:Kn y1 y0 u d):knQ y1 y0 u d<4294967296:=by
 unfold knQ
 have:=h.hu;have:=h.hd;have:=h.h1
 rw [Nat.div_lt_iff_lt_mul (by omega)]
 have e:4294967296*(y1*4294967296+y0)=(y1*4294967296+y0)*4294967296:=Nat.mul_comm _ _
 rw [e]
 have:(u+1)*4294967296<=(y1*4294967296+y0)*4294967296:=Nat.mul_le_mul_right _ (by omega)
 omega
structure KnI (y1 y0 u d q r:Nat):Prop where
 eq:u=q*y1+r
 ge:knQ y1 y0 u d<=q
 le:q<=4294967297
theorem Kn.start {y1 y0 u d:Nat} (h:Kn y1 y0 u d):KnI y1 y0 u d (u / y1) (u%y1)/\u%y1<4294967296:=by
 have h1:=h.h1;have h2:=h.h2;have h0:=h.h0;have hu:=h.hu;have hd:=h.hd
 have hm:u%y1<y1:=Nat.mod_lt _ (by omega)
 refine ⟨⟨by rw [Nat.mul_comm];exact (Nat.div_add_mod u y1).symm,?_,?_⟩,by omega⟩
 ·unfold knQ
  have hlt:u*4294967296+d<(u / y1+1)*(y1*4294967296+y0):=by
   have a1:u<(u / y1+1)*y1:=by
    have:=Nat.div_add_mod u y1
    rw [Nat.add_mul,Nat.one_mul,Nat.mul_comm (u / y1) y1]
    omega
   have a2:(u+1)*4294967296<=(u / y1+1)*y1*4294967296:=Nat.mul_le_mul_right _ a1
   have a3:(u / y1+1)*(y1*4294967296+y0)=(u / y1+1)*y1*4294967296+(u / y1+1)*y0:=by rw [Nat.mul_add,Nat.mul_assoc]
   rw [a3]
   omega
  have:=(Nat.div_lt_iff_lt_mul (show 0<y1*4294967296+y0 by omega)).2 hlt
  omega
 have:u / y1<4294967298:=by
  rw [Nat.div_lt_iff_lt_mul (by omega)]
  omega
 omega
theorem Kn.cond {y1 y0 u d q r:Nat} (h:Kn y1 y0 u d) (k:KnI y1 y0 u d q r):(4294967296<=q\/4294967296*r+d<q*y0)↔knQ y1 y0 u d<q:=by
 have hs:=h.small
 have h1:=h.h1
 have key:knQ y1 y0 u d<q↔u*4294967296+d<q*(y1*4294967296+y0):=by
  unfold knQ
  exact Nat.div_lt_iff_lt_mul (by omega)
 have e:q*(y1*4294967296+y0)=q*y1*4294967296+q*y0:=by rw [Nat.mul_add,Nat.mul_assoc]
 have eu:=k.eq
 generalize q*y1=A at *
 generalize hB:q*y0=B at *
 constructor
 ·rintro (hq | hq)
  ·omega
  rw [key,e];omega
 intro hq
 right
 rw [key,e] at hq
 omega
theorem Kn.next {y1 y0 u d q r:Nat} (k:KnI y1 y0 u d q r) (hq:knQ y1 y0 u d<q):KnI y1 y0 u d (q-1) (r+y1)/\q-1<=4294967296:=by
 have hl:=k.le
 refine ⟨⟨?_,by omega,by omega⟩,by omega⟩
 obtain ⟨q',rfl⟩:∃q',q=q'+1:=⟨q-1,by omega⟩
 have:=k.eq
 rw [Nat.add_mul,Nat.one_mul] at this
 simp only [Nat.add_sub_cancel]
 omega
theorem Kn.done {y1 y0 u d q r:Nat} (h:Kn y1 y0 u d) (k:KnI y1 y0 u d q r) (hr:4294967296<=r) (hq:q<=4294967296):q=knQ y1 y0 u d:=by
 have hc:=h.cond k
 have hge:=k.ge
 have h0:=h.h0
 have hb:q*y0<=4294967296*y0:=Nat.mul_le_mul_right _ hq
 by_cases hq2:knQ y1 y0 u d<q
 ·rcases hc.2 hq2 with hx | hx
  ·have hq3:q=4294967296:=by omega
   have key:knQ y1 y0 u d<q↔u*4294967296+d<q*(y1*4294967296+y0):=by
    unfold knQ
    exact Nat.div_lt_iff_lt_mul (by have:=h.h1;omega)
   have e:q*(y1*4294967296+y0)=q*y1*4294967296+q*y0:=by rw [Nat.mul_add,Nat.mul_assoc]
   have eu:=k.eq
   have:=key.1 hq2
   rw [e] at this
   generalize q*y1=A at *
   omega
  omega
 omega
theorem kn_two (Y u d1 d0 q1 v q0:Nat) (hY:0<Y) (hq1:q1=(u*4294967296+d1) / Y) (hv:v=(u*4294967296+d1)%Y) (hq0:q0=(v*4294967296+d0) / Y) (_hd0:d0<4294967296) (_hv2:v<Y):
 (u*18446744073709551616+d1*4294967296+d0) / Y=q1*4294967296+q0/\(u*18446744073709551616+d1*4294967296+d0)%Y=(v*4294967296+d0)%Y:=by
 have e1:=Nat.div_add_mod (u*4294967296+d1) Y
 rw [<-hq1,<-hv] at e1
 have e:u*18446744073709551616+d1*4294967296+d0=Y*(q1*4294967296)+(v*4294967296+d0):=by
  have:(Y*q1+v)*4294967296=(u*4294967296+d1)*4294967296:=by rw [e1]
  rw [Nat.add_mul,Nat.add_mul,Nat.mul_assoc] at this
  omega
 rw [e]
 constructor
 ·rw [Nat.mul_add_div hY,<-hq0]
 rw [Nat.mul_add_mod]
theorem Znw {y1 y0 U d1 q Y:Nat} (hk:Kn y1 y0 U d1) (hY:Y=y1*4294967296+y0) (hq:q=knQ y1 y0 U d1):
 IntKind.u64.wrap (IntKind.u64.wrap (IntKind.u64.wrap ((U:Int)*4294967296)+(d1:Int))-IntKind.u64.wrap ((q:Int)*(Y:Int)))=(((U*4294967296+d1)%Y:Nat):Int):=by
 have h0:=hk.h0;have h2:=hk.h2;have h1:=hk.h1
 have e:=Nat.div_add_mod (U*4294967296+d1) Y
 have hlt:=Nat.mod_lt (U*4294967296+d1) (show 0<Y by omega)
 have hq':q=(U*4294967296+d1) / Y:=by rw [hq,hY];rfl
 rw [<-hq'] at e
 generalize (U*4294967296+d1)%Y=V at *
 have ec:(q:Int)*(Y:Int)=((Y*q:Nat):Int):=by rw [Nat.mul_comm];simp
 rw [ec]
 generalize Y*q=P at *
 simp only [IntKind.wrap_u64]
 omega
theorem Kn.second {y1 y0 U d1 d0 Y:Nat} (hk:Kn y1 y0 U d1) (hY:Y=y1*4294967296+y0) (hd:d0<4294967296):Kn y1 y0 ((U*4294967296+d1)%Y) d0:=
 ⟨hk.h1,hk.h2,hk.h0,by rw [hY];exact Nat.mod_lt _ (by have:=hk.h1;omega),hd⟩
theorem Zf4 (a b:Nat) (ha:a<=4294967295) (hb:b<=4294967295):IntKind.u64.wrap ((a:Int)*(b:Int))=((a*b:Nat):Int):=by
 have h:a*b<=4294967295*4294967295:=Nat.mul_le_mul ha hb
 have e:(a:Int)*(b:Int)=((a*b:Nat):Int):=by simp
 rw [e]
 generalize a*b=M at *
 rw [IntKind.wrap_u64];omega
theorem Zf3 (U y1:Nat) (hU:U<18446744073709551616):IntKind.u64.wrap (((U / y1:Nat):Int)*(y1:Int))=((U / y1*y1:Nat):Int):=by
 have h:U / y1*y1<=U:=Nat.div_mul_le_self U y1
 have e:((U / y1:Nat):Int)*(y1:Int)=((U / y1*y1:Nat):Int):=by simp
 rw [e]
 generalize U / y1*y1=M at *
 rw [IntKind.wrap_u64];omega
theorem Zfr (U y1:Nat) (hU:U<18446744073709551616):IntKind.u64.wrap ((U:Int)-((U / y1*y1:Nat):Int))=((U%y1:Nat):Int):=by
 have h:U / y1*y1+U%y1=U:=by rw [Nat.mul_comm];exact Nat.div_add_mod U y1
 generalize U / y1*y1=M at *
 generalize U%y1=r at *
 rw [IntKind.wrap_u64];omega
theorem kn_end {hi lo y s Y H Lh Lw U d1 d0 q1 q0 y1 y0:Nat} (hs:s<=63) (_hy0:0<y) (_hlt:hi<y) (hYd:Y=y*2 ^ s) (hY:Y=y1*4294967296+y0) (hH:H=hi*2 ^ s) (hLh:Lh=lo / 2 ^ (64-s)) (hLw:Lw=(lo*2 ^ s)%18446744073709551616)
 (hU:U=H+Lh) (hd1:d1=Lw / 4294967296) (hd0:d0=Lw%4294967296) (hk:Kn y1 y0 U d1) (hq1:q1=knQ y1 y0 U d1) (hq0:q0=knQ y1 y0 ((U*4294967296+d1)%Y) d0):
 (hi*18446744073709551616+lo) / y=q1*4294967296+q0/\(hi*18446744073709551616+lo)%y=((U*4294967296+d1)%Y*4294967296+d0)%Y / 2 ^ s:=by
 have hp:0<2 ^ s:=Nat.pow_pos (by omega)
 have hYp:0<Y:=by have:=hk.h1;omega
 have hshift:lo*2 ^ s / 18446744073709551616=Lh:=by
  rw [hLh,show (18446744073709551616:Nat)=2 ^ (64-s)*2 ^ s by rw [<-Nat.pow_add,show 64-s+s=64 by omega]]
  exact Nat.mul_div_mul_right _ _ hp
 have hlo:lo*2 ^ s=Lh*18446744073709551616+Lw:=by
  have:=Nat.div_add_mod (lo*2 ^ s) 18446744073709551616
  rw [hshift,<-hLw] at this
  omega
 have hLd:Lw=d1*4294967296+d0:=by omega
 have hN:(hi*18446744073709551616+lo)*2 ^ s=U*18446744073709551616+d1*4294967296+d0:=by
  have:(hi*18446744073709551616+lo)*2 ^ s=hi*2 ^ s*18446744073709551616+lo*2 ^ s:=by
   rw [Nat.add_mul,Nat.mul_right_comm]
  rw [this,hlo,<-hH,hU,hLd]
  omega
 have hv2:(U*4294967296+d1)%Y<Y:=Nat.mod_lt _ hYp
 obtain ⟨k1,k2⟩:=kn_two Y U d1 d0 q1 ((U*4294967296+d1)%Y) q0 hYp (by rw [hq1,hY];rfl) rfl (by rw [hq0];unfold knQ;rw [<-hY]) (by omega) hv2
 rw [<-hN,hYd] at k1 k2
 rw [Nat.mul_div_mul_right _ _ hp] at k1
 rw [Nat.mul_mod_mul_right] at k2
 refine ⟨k1,?_⟩
 rw [hYd,<-k2,Nat.mul_div_cancel _ hp]
open Go.RowKit Go.Rg Go.BigFrame
def W64:Int:=18446744073709551616
theorem Vd:W64=18446744073709551616:=rfl
theorem Zdi (x y hi lo:Int) (w:World) (hx:0<=x) (hx2:x<W64) (hy:0<=y) (hy2:y<W64) (h:x*y=hi*W64+lo) (hl:0<=lo) (hl2:lo<W64):
 Calls Tryz.prog 296 #[.int .u64 x,.int .u64 y] w (Ret (.tuple #[.int .u64 hi,.int .u64 lo]) w):=by
 obtain ⟨m,rfl⟩:=Int.eq_ofNat_of_zero_le hx
 obtain ⟨n,rfl⟩:=Int.eq_ofNat_of_zero_le hy
 rw [Vd] at *
 refine (Tryz.bits_Mul64 m n (by omega) (by omega) w).mono ?_
 rintro e w' ⟨rfl,rfl⟩
 have e1:((m*n / 18446744073709551616:Nat):Int)=hi:=by
  rw [Int.natCast_ediv,Int.natCast_mul,h]
  omega
 have e2:((m*n%18446744073709551616:Nat):Int)=lo:=by
  rw [Int.natCast_emod,Int.natCast_mul,h]
  omega
 rw [e1,e2]
 exact ⟨rfl,Ext.refl _⟩
theorem lz_spec (y:Nat) (h0:0<y) (h1:y<18446744073709551616):∃s:Nat,s<=63/\(64-(Lib.bitLen y:Int))=(s:Int)/\9223372036854775808<=y*2 ^ s/\y*2 ^ s<18446744073709551616:=by
 obtain ⟨b1,b2,b3⟩:=Lib.bitLenAux_bounds 64 y (by simpa using h1) (by omega)
 have hle:Lib.bitLen y<=64:=Lib.bitLen_le y 64 (by omega) (by simpa using h1)
 have hb:Lib.bitLenAux 64 y=Lib.bitLen y:=rfl
 rw [hb] at b1 b2 b3
 generalize Lib.bitLen y=L at *
 refine ⟨64-L,by omega,by omega,?_,?_⟩
 ·have:2 ^ (L-1)*2 ^ (64-L)<=y*2 ^ (64-L):=Nat.mul_le_mul_right _ b2
  rw [<-Nat.pow_add,show L-1+(64-L)=63 by omega] at this
  exact this
 have:y*2 ^ (64-L)<2 ^ L*2 ^ (64-L):=Nat.mul_lt_mul_of_pos_right b3 (Nat.pow_pos (by omega))
 rw [<-Nat.pow_add,show L+(64-L)=64 by omega] at this
 exact this
set_option maxRecDepth 100000 in
set_option maxHeartbeats 3200000 in
theorem div64_nat (hi lo y:Nat) (w:World) (hy:hi<y) (hy2:y<18446744073709551616) (hl:lo<18446744073709551616):
 Calls Tryz.prog 320 #[.int .u64 hi,.int .u64 lo,.int .u64 y] w (Ret (.tuple #[.int .u64 ((hi*18446744073709551616+lo) / y:Nat),.int .u64 ((hi*18446744073709551616+lo)%y:Nat)]) w):=by
 by_cases h0:hi=0
 ·subst h0
  have hy0:((y:Int)==0)=false:=by rw [beq_eq_false_iff_ne];omega
  have hyh:decide ((y:Int)<=0)=false:=by rw [decide_eq_false_iff_not];omega
  have hyne:¬y=0:=by omega
  have hyz:decide (y=0)=false:=by rw [decide_eq_false_iff_not];omega
  have e1:(((0*18446744073709551616+lo) / y:Nat):Int)=(lo:Int) / (y:Int):=by simp
  have e2:(((0*18446744073709551616+lo)%y:Nat):Int)=(lo:Int)%(y:Int):=by simp
  rw [e1,e2]
  have hlo2:(lo:Int)<18446744073709551616:=by omega
  obtain ⟨dq,hdq⟩:∃dq:Nat,dq=lo / y:=⟨_,rfl⟩
  obtain ⟨dr,hdr⟩:∃dr:Nat,dr=lo%y:=⟨_,rfl⟩
  have f1:(lo:Int) / (y:Int)=(dq:Int):=by rw [hdq];simp
  have f2:(lo:Int)%(y:Int)=(dr:Int):=by rw [hdr];simp
  have f3:IntKind.u64.wrap (dq:Int)=(dq:Int):=by
   have:dq<=lo:=by rw [hdq];exact Nat.div_le_self _ _
   rw [IntKind.wrap_u64];omega
  have f4:IntKind.u64.wrap (dr:Int)=(dr:Int):=by
   have:dr<=lo:=by rw [hdr];exact Nat.mod_le _ _
   rw [IntKind.wrap_u64];omega
  rw [f1]
  clear f2 f4
  rw [show ((0:Nat):Int)=0 from rfl]
  clear hdq hdr e1 e2 hy hy2 hl hlo2
  have hquo:∀w:World,(binOp .quo 28 (.int .u64 (lo:Int)) (.int .u64 (y:Int))).run Tryz.prog w= .ok (.int .u64 (dq:Int)) w:=by
   intro w
   go_simp
  go_enter Tryz.func320,Tryz.ntmps320
  go_wp2
  refine Zh Zl 7 [] (by kernel_rfl) (by kernel_rfl) ?_
  intro w1 hw1
  simp only [Zk,Rg.hsB,Nat.reduceAdd,↓reduceIte]
  repeat (go_big_quiet_step ((fail)))
  refine wpQuiet_nil ?_
  refine Zj (by kernel_rfl) ?_
  intro w4 e4 e4'
  simp only [Rg.puB]
  go_wp2
  go_ret2
  exact ⟨rfl,e4⟩
 focus
  obtain ⟨s,hs,hsv,hY1,hY2⟩:=lz_spec y (by omega) hy2
  have hlz:=fun w=>(Tryz.bits_LeadingZeros64 (y:Int) w (by omega) (by omega))
  rw [Int.toNat_natCast,hsv] at hlz
  have hy0:((y:Int)==0)=false:=by rw [beq_eq_false_iff_ne];omega
  have hyh:decide ((y:Int)<=hi)=false:=by rw [decide_eq_false_iff_not];omega
  have hh0:((hi:Int)==0)=false:=by rw [beq_eq_false_iff_ne];omega
  have hs63:(s:Int)<=63:=by omega
  obtain ⟨Y,hYd⟩:∃Y,Y=y*2 ^ s:=⟨_,rfl⟩
  rw [<-hYd] at hY1 hY2
  obtain ⟨y1,hy1d⟩:∃y1,y1=Y / 4294967296:=⟨_,rfl⟩
  obtain ⟨y0,hy0d⟩:∃y0,y0=Y%4294967296:=⟨_,rfl⟩
  obtain ⟨H,hHd⟩:∃H,H=hi*2 ^ s:=⟨_,rfl⟩
  obtain ⟨Lh,hLhd⟩:∃Lh,Lh=lo / 2 ^ (64-s):=⟨_,rfl⟩
  obtain ⟨Lw,hLwd⟩:∃Lw,Lw=(lo*2 ^ s)%18446744073709551616:=⟨_,rfl⟩
  obtain ⟨d1,hd1d⟩:∃d1,d1=Lw / 4294967296:=⟨_,rfl⟩
  obtain ⟨d0,hd0d⟩:∃d0,d0=Lw%4294967296:=⟨_,rfl⟩
  obtain ⟨U,hUd⟩:∃U,U=H+Lh:=⟨_,rfl⟩
  have hpp:0<2 ^ s:=Nat.pow_pos (by omega)
  have hHY:H+2 ^ s<=Y:=by
   have:(hi+1)*2 ^ s<=y*2 ^ s:=Nat.mul_le_mul_right _ hy
   rw [Nat.add_mul,Nat.one_mul] at this
   omega
  have hLh2:Lh<2 ^ s:=by
   rw [hLhd,Nat.div_lt_iff_lt_mul (Nat.pow_pos (by omega)),<-Nat.pow_add,show s+(64-s)=64 by omega]
   exact hl
  have hLw2:Lw<18446744073709551616:=by rw [hLwd];exact Nat.mod_lt _ (by omega)
  have hwY:IntKind.u64.wrap ((y:Int)*2 ^ s)=(Y:Int):=by
   have e:(y:Int)*2 ^ s=((y*2 ^ s:Nat):Int):=by simp
   rw [e,<-hYd,IntKind.wrap_u64];omega
  have hwH:IntKind.u64.wrap ((hi:Int)*2 ^ s)=(H:Int):=by
   have e:(hi:Int)*2 ^ s=((hi*2 ^ s:Nat):Int):=by simp
   rw [e,<-hHd,IntKind.wrap_u64];omega
  have hwL:IntKind.u64.wrap ((lo:Int)*2 ^ s)=(Lw:Int):=by
   have e:(lo:Int)*2 ^ s=((lo*2 ^ s:Nat):Int):=by simp
   rw [e,IntKind.wrap_u64,hLwd]
   generalize lo*2 ^ s=A
   omega
  have hsh:(lo:Int) / 2 ^ (64-s)=(Lh:Int):=by rw [hLhd];simp
  have hk64:∀n:Int,0<=n->n<2 ^ 64->IntKind.u64.wrap n=n:=fun n a b=>by
   have e:(2:Int) ^ 64=18446744073709551616:=by decide
   rw [e] at b
   rw [IntKind.wrap_u64];omega
  have e64:(2:Int) ^ 64=18446744073709551616:=by decide
  have e32:(2:Int) ^ 32-1=4294967295:=by decide
  have e32':(2:Int) ^ 32=4294967296:=by decide
  have hay:bits .and .u64 (Y:Int) 4294967295=(y0:Int):=by
   have:=bits_mask .u64 64 (by decide) hk64 32 (by decide) (Y:Int) (by omega) (by rw [e64];omega)
   rw [e32,e32'] at this
   rw [this];omega
  have haL:bits .and .u64 (Lw:Int) 4294967295=(d0:Int):=by
   have:=bits_mask .u64 64 (by decide) hk64 32 (by decide) (Lw:Int) (by omega) (by rw [e64];omega)
   rw [e32,e32'] at this
   rw [this];omega
  have hor:bits .or .u64 (H:Int) (Lh:Int)=(U:Int):=by
   have h2s:((2 ^ s:Nat):Int)=(2:Int) ^ s:=by simp
   have:=bits_join .u64 64 (by decide) hk64 s (H:Int) (Lh:Int) (by omega) (by
    rw [<-h2s,hHd]
    have:(((hi*2 ^ s:Nat):Int))%((2 ^ s:Nat):Int)=(((hi*2 ^ s)%2 ^ s:Nat):Int):=by simp
    rw [this,Nat.mul_mod_left];rfl) (by rw [e64];omega) (by omega) (by rw [<-h2s];omega) (by rw [e64];omega)
   rw [this,hUd];omega
  have hy1:(Y:Int) / 4294967296=(y1:Int):=by omega
  have hd1:(Lw:Int) / 4294967296=(d1:Int):=by omega
  have hYs:Y=y1*4294967296+y0:=by omega
  have hkn:Kn y1 y0 U d1:=⟨by omega,by omega,by omega,by omega,by omega⟩
  have hd0lt:d0<4294967296:=by omega
  have hy10:((y1:Int)==0)=false:=by rw [beq_eq_false_iff_ne];omega
  obtain ⟨q,hqd⟩:∃q,q=U / y1:=⟨_,rfl⟩
  obtain ⟨r,hrd⟩:∃r,r=U%y1:=⟨_,rfl⟩
  have hq:(U:Int) / (y1:Int)=(q:Int):=by rw [hqd];simp
  have h2:=hkn.h2
  have h1':=hkn.h1
  obtain ⟨hK0,hr32⟩:=hkn.start
  rw [<-hqd,<-hrd] at hK0
  rw [<-hrd] at hr32
  have hUlt:U<18446744073709551616:=by omega
  have HEnd:=Lib.hid (fun (q1 q0:Nat) h1 h2=>kn_end (q1:=q1) (q0:=q0) hs (by omega) hy hYd hYs hHd hLhd hLwd hUd hd1d hd0d hkn h1 h2)
  have HYs:=Lib.hid hYs
  have HD0:=Lib.hid hd0lt
  have HU64:=Lib.hid hUlt
  have HY64:=Lib.hid hY2
  have HYd:=Lib.hid hYd
  have Hy1:=Lib.hid hy1d
  have Hy0:=Lib.hid hy0d
  have HH:=Lib.hid hHd
  have HLh:=Lib.hid hLhd
  have HLw:=Lib.hid hLwd
  have Hd1:=Lib.hid hd1d
  have Hd0:=Lib.hid hd0d
  have HU:=Lib.hid hUd
  have Hq:=Lib.hid hqd
  have Hr:=Lib.hid hrd
  have HK:=Lib.hid hK0.eq
  clear hYd hy1d hy0d hHd hLhd hLwd hd1d hd0d hUd hqd hrd hsv
  obtain ⟨M,hMd⟩:∃M,M=U / y1*y1:=⟨_,rfl⟩
  have hwq:IntKind.u64.wrap (q:Int)=(q:Int):=by have:=hK0.le;rw [IntKind.wrap_u64];omega
  have hmul:IntKind.u64.wrap ((q:Int)*(y1:Int))=(M:Int):=by rw [Hq.out,hMd];exact Zf3 U y1 hUlt
  have hsub:IntKind.u64.wrap ((U:Int)-(M:Int))=(r:Int):=by rw [Hr.out,hMd];exact Zfr U y1 hUlt
  have HM:=Lib.hid hMd
  clear hMd hYs hd0lt hUlt hHY hLh2 hLw2 hk64 e64 e32 e32' hpp hs
  go_enter Tryz.func320,Tryz.ntmps320
  go_wp2_with fail
  refine (hlz _).mono ?_
  rintro e w2 ⟨rfl,rfl⟩
  go_wp2
  clear hwq hmul hsub hq HM Hq Hr
  go_loopw [15,16] (fun v x wr=>∃q r:Nat,v= .int .u64 q/\x= .int .u64 r/\KnI y1 y0 U d1 q r/\r<4294967296/\wr=w2) (fun v _ _=>(intOf v).toNat)
  case atStart=>exact ⟨q,r,rfl,rfl,hK0,hr32,rfl⟩
  clear hK0 hr32 HK
  obtain ⟨q,r,rfl,rfl,hK,hr32,rfl⟩:=hrel
  have hcond:=hkn.cond hK
  have hcd:=Lib.hid hcond
  clear hcond
  have hql:=hK.le
  by_cases hA:4294967296<=q
  focus
   have hA':decide (4294967296<=(q:Int))=true:=by rw [decide_eq_true_eq];omega
   have hlt:=hcd.out.1 (.inl hA)
   obtain ⟨hK2,hq2⟩:=Kn.next hK hlt
   have hq1:1<=q:=by omega
   obtain ⟨q',hq'⟩:∃q',q'=q-1:=⟨_,rfl⟩
   rw [<-hq'] at hK2 hq2
   have hcast:(q:Int)-1=(q':Int):=by omega
   have hqi1:1<=(q:Int):=by omega
   have hqi2:(q:Int)<=4294967297:=by omega
   obtain ⟨rn,hrn⟩:∃rn:Nat,rn=r+y1:=⟨_,rfl⟩
   have hrc:(r:Int)+(y1:Int)=(rn:Int):=by omega
   have hri:(r:Int)<=4294967295:=by omega
   have hyi:(y1:Int)<=4294967295:=by omega
   rw [<-hrn] at hK2
   have hmeas:q'<q:=by omega
   have HK2:=Lib.hid hK2
   have Hq2:=Lib.hid hq2
   have HR32:=Lib.hid hr32
   have HRN:=Lib.hid hrn
   have HME:=Lib.hid hmeas
  rotate_left
  focus
   have hA':decide (4294967296<=(q:Int))=false:=by rw [decide_eq_false_iff_not];omega
   obtain ⟨M0,hM0d⟩:∃M0,M0=q*y0:=⟨_,rfl⟩
   have hm0:IntKind.u64.wrap ((q:Int)*(y0:Int))=(M0:Int):=by rw [hM0d];exact Zf4 q y0 (by omega) (by have:=hkn.h0;omega)
   have hM0:=Lib.hid hM0d
   have hd1i:(d1:Int)<=4294967295:=by have:=hkn.hd;omega
   have hsumw:IntKind.u64.wrap (4294967296*(r:Int)+(d1:Int))=4294967296*(r:Int)+(d1:Int):=by rw [IntKind.wrap_u64];omega
   by_cases hB:4294967296*r+d1<M0
   focus
    have hB':decide (4294967296*(r:Int)+d1<M0)=true:=by rw [decide_eq_true_eq];omega
    have hlt:=hcd.out.1 (.inr (by rw [<-hM0d];exact hB))
    clear hM0d hA hB
    obtain ⟨hK2,hq2⟩:=Kn.next hK hlt
    have hq1:1<=q:=by omega
    obtain ⟨q',hq'⟩:∃q',q'=q-1:=⟨_,rfl⟩
    rw [<-hq'] at hK2 hq2
    have hcast:(q:Int)-1=(q':Int):=by omega
    have hqi1:1<=(q:Int):=by omega
    have hqi2:(q:Int)<=4294967297:=by omega
    obtain ⟨rn,hrn⟩:∃rn:Nat,rn=r+y1:=⟨_,rfl⟩
    have hrc:(r:Int)+(y1:Int)=(rn:Int):=by omega
    have hri:(r:Int)<=4294967295:=by omega
    have hyi:(y1:Int)<=4294967295:=by omega
    rw [<-hrn] at hK2
    have hmeas:q'<q:=by omega
    have HK2:=Lib.hid hK2
    have Hq2:=Lib.hid hq2
    have HR32:=Lib.hid hr32
    have HRN:=Lib.hid hrn
    have HME:=Lib.hid hmeas
   rotate_left
   ·have hB':decide (4294967296*(r:Int)+d1<M0)=false:=by rw [decide_eq_false_iff_not];omega
    have hqe:q=knQ y1 y0 U d1:=by
     have:¬knQ y1 y0 U d1<q:=fun hx=>by
      rcases hcd.out.2 hx with hx | hx
      ·exact hA hx
      rw [<-hM0d] at hx;exact hB hx
     have:=hK.ge
     omega
    have HQE:=Lib.hid hqe
    have hri:(r:Int)<=4294967295:=by omega
    have hqi2:(q:Int)<=4294967297:=by omega
    have HR32:=Lib.hid hr32
    have HKN:=Lib.hid hkn
    clear hM0d hA hB hqe hr32 hkn h2 h1' hql hK hcd
    have hyi2:(y1:Int)<=4294967295:=by have:=HKN.out.h2;omega
    have hun:=Znw HKN.out HYs.out HQE.out
    have hkn2:=HKN.out.second HYs.out HD0.out
    obtain ⟨V,hVd⟩:∃V,V=(U*4294967296+d1)%Y:=⟨_,rfl⟩
    rw [<-hVd] at hun hkn2
    have hVlt:V<18446744073709551616:=by have:=hkn2.hu;have:=HYs.out;have:=HY64.out;omega
    obtain ⟨qa,hqad⟩:∃qa,qa=V / y1:=⟨_,rfl⟩
    obtain ⟨ra,hrad⟩:∃ra,ra=V%y1:=⟨_,rfl⟩
    obtain ⟨Ma,hMad⟩:∃Ma,Ma=V / y1*y1:=⟨_,rfl⟩
    have hqa:(V:Int) / (y1:Int)=(qa:Int):=by rw [hqad];simp
    obtain ⟨hKa,hra32⟩:=hkn2.start
    rw [<-hqad,<-hrad] at hKa
    rw [<-hrad] at hra32
    have hwqa:IntKind.u64.wrap (qa:Int)=(qa:Int):=by have:=hKa.le;rw [IntKind.wrap_u64];omega
    have hmula:IntKind.u64.wrap ((qa:Int)*(y1:Int))=(Ma:Int):=by rw [hqad,hMad];exact Zf3 V y1 hVlt
    have hsuba:IntKind.u64.wrap ((V:Int)-(Ma:Int))=(ra:Int):=by rw [hrad,hMad];exact Zfr V y1 hVlt
    have HVd:=Lib.hid hVd
    have HKN2:=Lib.hid hkn2
    have HKa:=Lib.hid hKa
    have HRa:=Lib.hid hra32
    clear hVd hqad hrad hMad hVlt hkn2 hKa hra32
    go_wp2
    clear hqa hwqa hmula hsuba
    go_loopw [18,16] (fun v x wq=>∃q r:Nat,v= .int .u64 q/\x= .int .u64 r/\KnI y1 y0 V d0 q r/\r<4294967296/\wq=wr) (fun v _ _=>(intOf v).toNat)
    case atStart=>exact ⟨qa,ra,rfl,rfl,HKa.out,HRa.out,rfl⟩
    obtain ⟨qb,rb,rfl,rfl,hK,hrb32,rfl⟩:=hrel
    have hkn:=HKN2.out
    have h2:=hkn.h2
    have h1':=hkn.h1
    have hcd:=Lib.hid (hkn.cond hK)
    have hql:=hK.le
    clear hun
    try clear hA'
    try clear hB'
    try clear hC'
    by_cases hA:4294967296<=qb
    ·have hA':decide (4294967296<=(qb:Int))=true:=by rw [decide_eq_true_eq];omega
     have hlt:=hcd.out.1 (.inl hA)
     obtain ⟨hK2,hq2⟩:=Kn.next hK hlt
     have hq1:1<=qb:=by omega
     obtain ⟨qb',hqb'⟩:∃qb',qb'=qb-1:=⟨_,rfl⟩
     rw [<-hqb'] at hK2 hq2
     have hcast:(qb:Int)-1=(qb':Int):=by omega
     have hqi1:1<=(qb:Int):=by omega
     have hqi2:(qb:Int)<=4294967297:=by omega
     obtain ⟨rnb,hrn⟩:∃rnb:Nat,rnb=rb+y1:=⟨_,rfl⟩
     have hrc:(rb:Int)+(y1:Int)=(rnb:Int):=by omega
     have hri:(rb:Int)<=4294967295:=by omega
     have hyi:(y1:Int)<=4294967295:=by omega
     rw [<-hrn] at hK2
     have hmeas:qb'<qb:=by omega
     have HK2:=Lib.hid hK2
     have Hq2:=Lib.hid hq2
     have HR32b:=Lib.hid hrb32
     have HRN:=Lib.hid hrn
     have HME:=Lib.hid hmeas
     by_cases hC:4294967296<=rnb
     ·have hC':decide (4294967296<=(rnb:Int))=true:=by rw [decide_eq_true_eq];omega
      have HQ0:=Lib.hid (hkn.done HK2.out hC Hq2.out)
      have HKNb:=Lib.hid hkn
      have HC:=Lib.hid hC
      clear hC hrn hkn h2 h1' hK hcd hql hq1 hlt hK2 hq2 hrb32 hqb' hmeas
      try clear hA
      have hend:=HEnd.out q qb' HQE.out (by rw [<-HVd.out];exact HQ0.out)
      have hrem:=Znw HKN2.out HYs.out HQ0.out
      obtain ⟨k1,k2⟩:=hend
      rw [<-HVd.out] at k2
      obtain ⟨RR,hRR⟩:∃RR,RR=(V*4294967296+d0)%Y:=⟨_,rfl⟩
      rw [<-hRR] at hrem k2
      obtain ⟨R6,hR6⟩:∃R6,R6=q*4294967296+qb':=⟨_,rfl⟩
      have hqs:q<4294967296:=by rw [HQE.out];exact HKN.out.small
      have hq0s:qb'<4294967296:=by rw [HQ0.out];exact HKN2.out.small
      have hf1:IntKind.u64.wrap ((q:Int)*4294967296)=(q:Int)*4294967296:=by rw [IntKind.wrap_u64];omega
      have hf6:IntKind.u64.wrap ((q:Int)*4294967296+(qb':Int))=(R6:Int):=by rw [IntKind.wrap_u64];omega
      rw [<-hR6] at k1
      have K1:=Lib.hid k1
      have K2:=Lib.hid k2
      clear k1 k2 hRR hR6 hqs hq0s
      go_wp2
      go_ret2
      exact ⟨by rw [K1.out,K2.out];simp,Ext.refl _⟩
     have hC':decide (4294967296<=(rnb:Int))=false:=by rw [decide_eq_false_iff_not];omega
     have HC:=Lib.hid hC
     have HKNb:=Lib.hid hkn
     clear hC hrn hkn h2 h1' hK hcd hql hq1 hlt hK2 hq2 hrb32 hqb' hmeas
     try clear hA
     go_wp2
     have hk2:=HK2.out
     have hc:=HC.out
     have hm:=HME.out
     exact ⟨⟨qb',rnb,rfl,rfl,hk2,by omega,by trivial⟩,by simp [intOf];omega⟩
    have hA':decide (4294967296<=(qb:Int))=false:=by rw [decide_eq_false_iff_not];omega
    obtain ⟨Mb,hMbd⟩:∃Mb,Mb=qb*y0:=⟨_,rfl⟩
    have hmb:IntKind.u64.wrap ((qb:Int)*(y0:Int))=(Mb:Int):=by rw [hMbd];exact Zf4 qb y0 (by omega) (by have:=hkn.h0;omega)
    have hd0i:(d0:Int)<=4294967295:=by have:=hkn.hd;omega
    have hsumb:IntKind.u64.wrap (4294967296*(rb:Int)+(d0:Int))=4294967296*(rb:Int)+(d0:Int):=by rw [IntKind.wrap_u64];omega
    by_cases hB:4294967296*rb+d0<Mb
    ·have hB':decide (4294967296*(rb:Int)+d0<Mb)=true:=by rw [decide_eq_true_eq];omega
     have hlt:=hcd.out.1 (.inr (by rw [<-hMbd];exact hB))
     clear hMbd hA hB
     obtain ⟨hK2,hq2⟩:=Kn.next hK hlt
     have hq1:1<=qb:=by omega
     obtain ⟨qb',hqb'⟩:∃qb',qb'=qb-1:=⟨_,rfl⟩
     rw [<-hqb'] at hK2 hq2
     have hcast:(qb:Int)-1=(qb':Int):=by omega
     have hqi1:1<=(qb:Int):=by omega
     have hqi2:(qb:Int)<=4294967297:=by omega
     obtain ⟨rnb,hrn⟩:∃rnb:Nat,rnb=rb+y1:=⟨_,rfl⟩
     have hrc:(rb:Int)+(y1:Int)=(rnb:Int):=by omega
     have hri:(rb:Int)<=4294967295:=by omega
     have hyi:(y1:Int)<=4294967295:=by omega
     rw [<-hrn] at hK2
     have hmeas:qb'<qb:=by omega
     have HK2:=Lib.hid hK2
     have Hq2:=Lib.hid hq2
     have HR32b:=Lib.hid hrb32
     have HRN:=Lib.hid hrn
     have HME:=Lib.hid hmeas
     by_cases hC:4294967296<=rnb
     ·have hC':decide (4294967296<=(rnb:Int))=true:=by rw [decide_eq_true_eq];omega
      have HQ0:=Lib.hid (hkn.done HK2.out hC Hq2.out)
      have HKNb:=Lib.hid hkn
      have HC:=Lib.hid hC
      clear hC hrn hkn h2 h1' hK hcd hql hq1 hlt hK2 hq2 hrb32 hqb' hmeas
      try clear hA
      have hend:=HEnd.out q qb' HQE.out (by rw [<-HVd.out];exact HQ0.out)
      have hrem:=Znw HKN2.out HYs.out HQ0.out
      obtain ⟨k1,k2⟩:=hend
      rw [<-HVd.out] at k2
      obtain ⟨RR,hRR⟩:∃RR,RR=(V*4294967296+d0)%Y:=⟨_,rfl⟩
      rw [<-hRR] at hrem k2
      obtain ⟨R6,hR6⟩:∃R6,R6=q*4294967296+qb':=⟨_,rfl⟩
      have hqs:q<4294967296:=by rw [HQE.out];exact HKN.out.small
      have hq0s:qb'<4294967296:=by rw [HQ0.out];exact HKN2.out.small
      have hf1:IntKind.u64.wrap ((q:Int)*4294967296)=(q:Int)*4294967296:=by rw [IntKind.wrap_u64];omega
      have hf6:IntKind.u64.wrap ((q:Int)*4294967296+(qb':Int))=(R6:Int):=by rw [IntKind.wrap_u64];omega
      rw [<-hR6] at k1
      have K1:=Lib.hid k1
      have K2:=Lib.hid k2
      clear k1 k2 hRR hR6 hqs hq0s
      go_wp2
      go_ret2
      exact ⟨by rw [K1.out,K2.out];simp,Ext.refl _⟩
     have hC':decide (4294967296<=(rnb:Int))=false:=by rw [decide_eq_false_iff_not];omega
     have HC:=Lib.hid hC
     have HKNb:=Lib.hid hkn
     clear hC hrn hkn h2 h1' hK hcd hql hq1 hlt hK2 hq2 hrb32 hqb' hmeas
     try clear hA
     go_wp2
     have hk2:=HK2.out
     have hc:=HC.out
     have hm:=HME.out
     exact ⟨⟨qb',rnb,rfl,rfl,hk2,by omega,by trivial⟩,by simp [intOf];omega⟩
    have hB':decide (4294967296*(rb:Int)+d0<Mb)=false:=by rw [decide_eq_false_iff_not];omega
    have hqe:qb=knQ y1 y0 V d0:=by
     have:¬knQ y1 y0 V d0<qb:=fun hx=>by
      rcases hcd.out.2 hx with hx | hx
      ·exact hA hx
      rw [<-hMbd] at hx;exact hB hx
     have:=hK.ge
     omega
    have hrib:(rb:Int)<=4294967295:=by omega
    have hqib2:(qb:Int)<=4294967297:=by omega
    have HQ0:=Lib.hid hqe
    have HR32b:=Lib.hid hrb32
    clear hMbd hA hB hqe hrb32 hkn h2 h1' hql hK hcd
    obtain ⟨qz,hqz⟩:∃qz:Nat,qz=qb:=⟨_,rfl⟩
    have hend:=HEnd.out q qb HQE.out (by rw [<-HVd.out];exact HQ0.out)
    have hrem:=Znw HKN2.out HYs.out HQ0.out
    obtain ⟨k1,k2⟩:=hend
    rw [<-HVd.out] at k2
    obtain ⟨RR,hRR⟩:∃RR,RR=(V*4294967296+d0)%Y:=⟨_,rfl⟩
    rw [<-hRR] at hrem k2
    obtain ⟨R6,hR6⟩:∃R6,R6=q*4294967296+qb:=⟨_,rfl⟩
    have hqs:q<4294967296:=by rw [HQE.out];exact HKN.out.small
    have hq0s:qb<4294967296:=by rw [HQ0.out];exact HKN2.out.small
    have hf1:IntKind.u64.wrap ((q:Int)*4294967296)=(q:Int)*4294967296:=by rw [IntKind.wrap_u64];omega
    have hf6:IntKind.u64.wrap ((q:Int)*4294967296+(qb:Int))=(R6:Int):=by rw [IntKind.wrap_u64];omega
    rw [<-hR6] at k1
    have K1:=Lib.hid k1
    have K2:=Lib.hid k2
    clear k1 k2 hRR hR6 hqs hq0s
    go_wp2
    go_ret2
    exact ⟨by rw [K1.out,K2.out];simp,Ext.refl _⟩
 all_goals
  by_cases hC:4294967296<=rn
  ·have hC':decide (4294967296<=(rn:Int))=true:=by rw [decide_eq_true_eq];omega
   have HQE:=Lib.hid (hkn.done HK2.out hC Hq2.out)
   have HKN:=Lib.hid hkn
   have HC:=Lib.hid hC
   clear hC hrn hkn h2 h1' hK hcd hql hq1 hlt hK2 hq2 hr32 hq' hmeas
   try clear hA
   have hyi2:(y1:Int)<=4294967295:=by have:=HKN.out.h2;omega
   have hun:=Znw HKN.out HYs.out HQE.out
   have hkn2:=HKN.out.second HYs.out HD0.out
   obtain ⟨V,hVd⟩:∃V,V=(U*4294967296+d1)%Y:=⟨_,rfl⟩
   rw [<-hVd] at hun hkn2
   have hVlt:V<18446744073709551616:=by have:=hkn2.hu;have:=HYs.out;have:=HY64.out;omega
   obtain ⟨qa,hqad⟩:∃qa,qa=V / y1:=⟨_,rfl⟩
   obtain ⟨ra,hrad⟩:∃ra,ra=V%y1:=⟨_,rfl⟩
   obtain ⟨Ma,hMad⟩:∃Ma,Ma=V / y1*y1:=⟨_,rfl⟩
   have hqa:(V:Int) / (y1:Int)=(qa:Int):=by rw [hqad];simp
   obtain ⟨hKa,hra32⟩:=hkn2.start
   rw [<-hqad,<-hrad] at hKa
   rw [<-hrad] at hra32
   have hwqa:IntKind.u64.wrap (qa:Int)=(qa:Int):=by have:=hKa.le;rw [IntKind.wrap_u64];omega
   have hmula:IntKind.u64.wrap ((qa:Int)*(y1:Int))=(Ma:Int):=by rw [hqad,hMad];exact Zf3 V y1 hVlt
   have hsuba:IntKind.u64.wrap ((V:Int)-(Ma:Int))=(ra:Int):=by rw [hrad,hMad];exact Zfr V y1 hVlt
   have HVd:=Lib.hid hVd
   have HKN2:=Lib.hid hkn2
   have HKa:=Lib.hid hKa
   have HRa:=Lib.hid hra32
   clear hVd hqad hrad hMad hVlt hkn2 hKa hra32
   go_wp2
   clear hqa hwqa hmula hsuba
   go_loopw [18,16] (fun v x wq=>∃q r:Nat,v= .int .u64 q/\x= .int .u64 r/\KnI y1 y0 V d0 q r/\r<4294967296/\wq=wr) (fun v _ _=>(intOf v).toNat)
   case atStart=>exact ⟨qa,ra,rfl,rfl,HKa.out,HRa.out,rfl⟩
   obtain ⟨qb,rb,rfl,rfl,hK,hrb32,rfl⟩:=hrel
   have hkn:=HKN2.out
   have h2:=hkn.h2
   have h1':=hkn.h1
   have hcd:=Lib.hid (hkn.cond hK)
   have hql:=hK.le
   clear hun
   try clear hA'
   try clear hB'
   try clear hC'
   by_cases hA:4294967296<=qb
   ·have hA':decide (4294967296<=(qb:Int))=true:=by rw [decide_eq_true_eq];omega
    have hlt:=hcd.out.1 (.inl hA)
    obtain ⟨hK2,hq2⟩:=Kn.next hK hlt
    have hq1:1<=qb:=by omega
    obtain ⟨qb',hqb'⟩:∃qb',qb'=qb-1:=⟨_,rfl⟩
    rw [<-hqb'] at hK2 hq2
    have hcast:(qb:Int)-1=(qb':Int):=by omega
    have hqi1:1<=(qb:Int):=by omega
    have hqi2:(qb:Int)<=4294967297:=by omega
    obtain ⟨rnb,hrn⟩:∃rnb:Nat,rnb=rb+y1:=⟨_,rfl⟩
    have hrc:(rb:Int)+(y1:Int)=(rnb:Int):=by omega
    have hri:(rb:Int)<=4294967295:=by omega
    have hyi:(y1:Int)<=4294967295:=by omega
    rw [<-hrn] at hK2
    have hmeas:qb'<qb:=by omega
    have HK2:=Lib.hid hK2
    have Hq2:=Lib.hid hq2
    have HR32b:=Lib.hid hrb32
    have HRN:=Lib.hid hrn
    have HME:=Lib.hid hmeas
    by_cases hC:4294967296<=rnb
    ·have hC':decide (4294967296<=(rnb:Int))=true:=by rw [decide_eq_true_eq];omega
     have HQ0:=Lib.hid (hkn.done HK2.out hC Hq2.out)
     have HKNb:=Lib.hid hkn
     have HC:=Lib.hid hC
     clear hC hrn hkn h2 h1' hK hcd hql hq1 hlt hK2 hq2 hrb32 hqb' hmeas
     try clear hA
     have hend:=HEnd.out q' qb' HQE.out (by rw [<-HVd.out];exact HQ0.out)
     have hrem:=Znw HKN2.out HYs.out HQ0.out
     obtain ⟨k1,k2⟩:=hend
     rw [<-HVd.out] at k2
     obtain ⟨RR,hRR⟩:∃RR,RR=(V*4294967296+d0)%Y:=⟨_,rfl⟩
     rw [<-hRR] at hrem k2
     obtain ⟨R6,hR6⟩:∃R6,R6=q' * 4294967296+qb':=⟨_,rfl⟩
     have hqs:q'<4294967296:=by rw [HQE.out];exact HKN.out.small
     have hq0s:qb'<4294967296:=by rw [HQ0.out];exact HKN2.out.small
     have hf1:IntKind.u64.wrap ((q':Int)*4294967296)=(q':Int)*4294967296:=by rw [IntKind.wrap_u64];omega
     have hf6:IntKind.u64.wrap ((q':Int)*4294967296+(qb':Int))=(R6:Int):=by rw [IntKind.wrap_u64];omega
     rw [<-hR6] at k1
     have K1:=Lib.hid k1
     have K2:=Lib.hid k2
     clear k1 k2 hRR hR6 hqs hq0s
     go_wp2
     go_ret2
     exact ⟨by rw [K1.out,K2.out];simp,Ext.refl _⟩
    have hC':decide (4294967296<=(rnb:Int))=false:=by rw [decide_eq_false_iff_not];omega
    have HC:=Lib.hid hC
    have HKNb:=Lib.hid hkn
    clear hC hrn hkn h2 h1' hK hcd hql hq1 hlt hK2 hq2 hrb32 hqb' hmeas
    try clear hA
    go_wp2
    have hk2:=HK2.out
    have hc:=HC.out
    have hm:=HME.out
    exact ⟨⟨qb',rnb,rfl,rfl,hk2,by omega,by trivial⟩,by simp [intOf];omega⟩
   have hA':decide (4294967296<=(qb:Int))=false:=by rw [decide_eq_false_iff_not];omega
   obtain ⟨Mb,hMbd⟩:∃Mb,Mb=qb*y0:=⟨_,rfl⟩
   have hmb:IntKind.u64.wrap ((qb:Int)*(y0:Int))=(Mb:Int):=by rw [hMbd];exact Zf4 qb y0 (by omega) (by have:=hkn.h0;omega)
   have hd0i:(d0:Int)<=4294967295:=by have:=hkn.hd;omega
   have hsumb:IntKind.u64.wrap (4294967296*(rb:Int)+(d0:Int))=4294967296*(rb:Int)+(d0:Int):=by rw [IntKind.wrap_u64];omega
   by_cases hB:4294967296*rb+d0<Mb
   ·have hB':decide (4294967296*(rb:Int)+d0<Mb)=true:=by rw [decide_eq_true_eq];omega
    have hlt:=hcd.out.1 (.inr (by rw [<-hMbd];exact hB))
    clear hMbd hA hB
    obtain ⟨hK2,hq2⟩:=Kn.next hK hlt
    have hq1:1<=qb:=by omega
    obtain ⟨qb',hqb'⟩:∃qb',qb'=qb-1:=⟨_,rfl⟩
    rw [<-hqb'] at hK2 hq2
    have hcast:(qb:Int)-1=(qb':Int):=by omega
    have hqi1:1<=(qb:Int):=by omega
    have hqi2:(qb:Int)<=4294967297:=by omega
    obtain ⟨rnb,hrn⟩:∃rnb:Nat,rnb=rb+y1:=⟨_,rfl⟩
    have hrc:(rb:Int)+(y1:Int)=(rnb:Int):=by omega
    have hri:(rb:Int)<=4294967295:=by omega
    have hyi:(y1:Int)<=4294967295:=by omega
    rw [<-hrn] at hK2
    have hmeas:qb'<qb:=by omega
    have HK2:=Lib.hid hK2
    have Hq2:=Lib.hid hq2
    have HR32b:=Lib.hid hrb32
    have HRN:=Lib.hid hrn
    have HME:=Lib.hid hmeas
    by_cases hC:4294967296<=rnb
    ·have hC':decide (4294967296<=(rnb:Int))=true:=by rw [decide_eq_true_eq];omega
     have HQ0:=Lib.hid (hkn.done HK2.out hC Hq2.out)
     have HKNb:=Lib.hid hkn
     have HC:=Lib.hid hC
     clear hC hrn hkn h2 h1' hK hcd hql hq1 hlt hK2 hq2 hrb32 hqb' hmeas
     try clear hA
     have hend:=HEnd.out q' qb' HQE.out (by rw [<-HVd.out];exact HQ0.out)
     have hrem:=Znw HKN2.out HYs.out HQ0.out
     obtain ⟨k1,k2⟩:=hend
     rw [<-HVd.out] at k2
     obtain ⟨RR,hRR⟩:∃RR,RR=(V*4294967296+d0)%Y:=⟨_,rfl⟩
     rw [<-hRR] at hrem k2
     obtain ⟨R6,hR6⟩:∃R6,R6=q' * 4294967296+qb':=⟨_,rfl⟩
     have hqs:q'<4294967296:=by rw [HQE.out];exact HKN.out.small
     have hq0s:qb'<4294967296:=by rw [HQ0.out];exact HKN2.out.small
     have hf1:IntKind.u64.wrap ((q':Int)*4294967296)=(q':Int)*4294967296:=by rw [IntKind.wrap_u64];omega
     have hf6:IntKind.u64.wrap ((q':Int)*4294967296+(qb':Int))=(R6:Int):=by rw [IntKind.wrap_u64];omega
     rw [<-hR6] at k1
     have K1:=Lib.hid k1
     have K2:=Lib.hid k2
     clear k1 k2 hRR hR6 hqs hq0s
     go_wp2
     go_ret2
     exact ⟨by rw [K1.out,K2.out];simp,Ext.refl _⟩
    have hC':decide (4294967296<=(rnb:Int))=false:=by rw [decide_eq_false_iff_not];omega
    have HC:=Lib.hid hC
    have HKNb:=Lib.hid hkn
    clear hC hrn hkn h2 h1' hK hcd hql hq1 hlt hK2 hq2 hrb32 hqb' hmeas
    try clear hA
    go_wp2
    have hk2:=HK2.out
    have hc:=HC.out
    have hm:=HME.out
    exact ⟨⟨qb',rnb,rfl,rfl,hk2,by omega,by trivial⟩,by simp [intOf];omega⟩
   have hB':decide (4294967296*(rb:Int)+d0<Mb)=false:=by rw [decide_eq_false_iff_not];omega
   have hqe:qb=knQ y1 y0 V d0:=by
    have:¬knQ y1 y0 V d0<qb:=fun hx=>by
     rcases hcd.out.2 hx with hx | hx
     ·exact hA hx
     rw [<-hMbd] at hx;exact hB hx
    have:=hK.ge
    omega
   have hrib:(rb:Int)<=4294967295:=by omega
   have hqib2:(qb:Int)<=4294967297:=by omega
   have HQ0:=Lib.hid hqe
   have HR32b:=Lib.hid hrb32
   clear hMbd hA hB hqe hrb32 hkn h2 h1' hql hK hcd
   obtain ⟨qz,hqz⟩:∃qz:Nat,qz=qb:=⟨_,rfl⟩
   have hend:=HEnd.out q' qb HQE.out (by rw [<-HVd.out];exact HQ0.out)
   have hrem:=Znw HKN2.out HYs.out HQ0.out
   obtain ⟨k1,k2⟩:=hend
   rw [<-HVd.out] at k2
   obtain ⟨RR,hRR⟩:∃RR,RR=(V*4294967296+d0)%Y:=⟨_,rfl⟩
   rw [<-hRR] at hrem k2
   obtain ⟨R6,hR6⟩:∃R6,R6=q' * 4294967296+qb:=⟨_,rfl⟩
   have hqs:q'<4294967296:=by rw [HQE.out];exact HKN.out.small
   have hq0s:qb<4294967296:=by rw [HQ0.out];exact HKN2.out.small
   have hf1:IntKind.u64.wrap ((q':Int)*4294967296)=(q':Int)*4294967296:=by rw [IntKind.wrap_u64];omega
   have hf6:IntKind.u64.wrap ((q':Int)*4294967296+(qb:Int))=(R6:Int):=by rw [IntKind.wrap_u64];omega
   rw [<-hR6] at k1
   have K1:=Lib.hid k1
   have K2:=Lib.hid k2
   clear k1 k2 hRR hR6 hqs hq0s
   go_wp2
   go_ret2
   exact ⟨by rw [K1.out,K2.out];simp,Ext.refl _⟩
  have hC':decide (4294967296<=(rn:Int))=false:=by rw [decide_eq_false_iff_not];omega
  have HC:=Lib.hid hC
  have HKN:=Lib.hid hkn
  clear hC hrn hkn h2 h1' hK hcd hql hq1 hlt hK2 hq2 hr32 hq' hmeas
  try clear hA
  go_wp2
  have hk2:=HK2.out
  have hc:=HC.out
  have hm:=HME.out
  exact ⟨⟨q',rn,rfl,rfl,hk2,by omega,by trivial⟩,by simp [intOf];omega⟩
theorem div64_any (hi lo y q r:Int) (w:World) (hh:0<=hi) (hy:hi<y) (hy2:y<W64) (hl:0<=lo) (hl2:lo<W64) (h:hi*W64+lo=q*y+r) (hr:0<=r) (hr2:r<y):
 Calls Tryz.prog 320 #[.int .u64 hi,.int .u64 lo,.int .u64 y] w (Ret (.tuple #[.int .u64 q,.int .u64 r]) w):=by
 rw [Vd] at *
 obtain ⟨a,rfl⟩:=Int.eq_ofNat_of_zero_le hh
 obtain ⟨b,rfl⟩:=Int.eq_ofNat_of_zero_le hl
 obtain ⟨c,rfl⟩:=Int.eq_ofNat_of_zero_le (show 0<=y by omega)
 have hd:=div64_nat a b c w (by omega) (by omega) (by omega)
 have hcast:(((a*18446744073709551616+b:Nat)):Int)=q*(c:Int)+r:=by rw [<-h];simp
 have hcp:(0:Int)<(c:Int):=by omega
 have e1:(((a*18446744073709551616+b) / c:Nat):Int)=q:=by
  rw [Int.natCast_ediv,hcast,Int.add_comm,Int.add_mul_ediv_right _ _ (by omega),Int.ediv_eq_zero_of_lt hr hr2]
  omega
 have e2:(((a*18446744073709551616+b)%c:Nat):Int)=r:=by
  rw [Int.natCast_emod,hcast,Int.add_comm,Int.add_mul_emod_self_right,Int.emod_eq_of_lt hr hr2]
 rw [e1,e2] at hd
 exact hd
end Go.Proofs.YtipjchbdogmccaaGreat
