/- Knuth's division of two digits, in plain Lean. -/
import Derived.Test.YtipjchbdogmccaaGreatBase
import Derived.Laws.Bits64
namespace Go.Proofs.YtipjchbdogmccaaGreat
structure Kn (y1 y0 u d:Nat):Prop where
 h1:2147483648<=y1
 h2:y1<4294967296
 h0:y0<4294967296
 hu:u<y1*4294967296+y0
 hd:d<4294967296
def knQ (y1 y0 u d:Nat):Nat:=(u*4294967296+d) / (y1*4294967296+y0)
theorem Kn.small {y1 y0 u d:Nat} (h:Kn y1 y0 u d):knQ y1 y0 u d<4294967296:=by
 unfold knQ
 have:=h.hu;have:=h.hd;have:=h.h1
 rw [Nat.div_lt_iff_lt_mul (by omega)]
 have e:4294967296*(y1*4294967296+y0)=(y1*4294967296+y0)*4294967296:=Nat.mul_comm _ _
 rw [e]
 have:(u+1)*4294967296<=(y1*4294967296+y0)*4294967296:=Nat.mul_le_mul_right _ (by omega)
 omega
structure KnI (y1 y0 u d q r:Nat):Prop where
 eq:u=q*y1+r
 ge:knQ y1 y0 u d<=q
 le:q<=4294967297
theorem Kn.start {y1 y0 u d:Nat} (h:Kn y1 y0 u d):KnI y1 y0 u d (u / y1) (u%y1)/\u%y1<4294967296:=by
 have h1:=h.h1;have h2:=h.h2;have h0:=h.h0;have hu:=h.hu;have hd:=h.hd
 have hm:u%y1<y1:=Nat.mod_lt _ (by omega)
 refine ⟨⟨by rw [Nat.mul_comm];exact (Nat.div_add_mod u y1).symm,?_,?_⟩,by omega⟩
 ·unfold knQ
  have hlt:u*4294967296+d<(u / y1+1)*(y1*4294967296+y0):=by
   have a1:u<(u / y1+1)*y1:=by
    have:=Nat.div_add_mod u y1
    rw [Nat.add_mul,Nat.one_mul,Nat.mul_comm (u / y1) y1]
    omega
   have a2:(u+1)*4294967296<=(u / y1+1)*y1*4294967296:=Nat.mul_le_mul_right _ a1
   have a3:(u / y1+1)*(y1*4294967296+y0)=(u / y1+1)*y1*4294967296+(u / y1+1)*y0:=by rw [Nat.mul_add,Nat.mul_assoc]
   rw [a3]
   omega
  have:=(Nat.div_lt_iff_lt_mul (show 0<y1*4294967296+y0 by omega)).2 hlt
  omega
 have:u / y1<4294967298:=by
  rw [Nat.div_lt_iff_lt_mul (by omega)]
  omega
 omega
theorem Kn.cond {y1 y0 u d q r:Nat} (h:Kn y1 y0 u d) (k:KnI y1 y0 u d q r):(4294967296<=q\/4294967296*r+d<q*y0)↔knQ y1 y0 u d<q:=by
 have hs:=h.small
 have h1:=h.h1
 have key:knQ y1 y0 u d<q↔u*4294967296+d<q*(y1*4294967296+y0):=by
  unfold knQ
  exact Nat.div_lt_iff_lt_mul (by omega)
 have e:q*(y1*4294967296+y0)=q*y1*4294967296+q*y0:=by rw [Nat.mul_add,Nat.mul_assoc]
 have eu:=k.eq
 generalize q*y1=A at *
 generalize hB:q*y0=B at *
 constructor
 ·rintro (hq | hq)
  ·omega
  rw [key,e];omega
 intro hq
 right
 rw [key,e] at hq
 omega
theorem Kn.next {y1 y0 u d q r:Nat} (k:KnI y1 y0 u d q r) (hq:knQ y1 y0 u d<q):KnI y1 y0 u d (q-1) (r+y1)/\q-1<=4294967296:=by
 have hl:=k.le
 refine ⟨⟨?_,by omega,by omega⟩,by omega⟩
 obtain ⟨q',rfl⟩:∃q',q=q'+1:=⟨q-1,by omega⟩
 have:=k.eq
 rw [Nat.add_mul,Nat.one_mul] at this
 simp only [Nat.add_sub_cancel]
 omega
theorem Kn.done {y1 y0 u d q r:Nat} (h:Kn y1 y0 u d) (k:KnI y1 y0 u d q r) (hr:4294967296<=r) (hq:q<=4294967296):q=knQ y1 y0 u d:=by
 have hc:=h.cond k
 have hge:=k.ge
 have h0:=h.h0
 have hb:q*y0<=4294967296*y0:=Nat.mul_le_mul_right _ hq
 by_cases hq2:knQ y1 y0 u d<q
 ·rcases hc.2 hq2 with hx | hx
  ·have hq3:q=4294967296:=by omega
   have key:knQ y1 y0 u d<q↔u*4294967296+d<q*(y1*4294967296+y0):=by
    unfold knQ
    exact Nat.div_lt_iff_lt_mul (by have:=h.h1;omega)
   have e:q*(y1*4294967296+y0)=q*y1*4294967296+q*y0:=by rw [Nat.mul_add,Nat.mul_assoc]
   have eu:=k.eq
   have:=key.1 hq2
   rw [e] at this
   generalize q*y1=A at *
   omega
  omega
 omega
theorem kn_two (Y u d1 d0 q1 v q0:Nat) (hY:0<Y) (hq1:q1=(u*4294967296+d1) / Y) (hv:v=(u*4294967296+d1)%Y) (hq0:q0=(v*4294967296+d0) / Y) (_hd0:d0<4294967296) (_hv2:v<Y):
 (u*18446744073709551616+d1*4294967296+d0) / Y=q1*4294967296+q0/\(u*18446744073709551616+d1*4294967296+d0)%Y=(v*4294967296+d0)%Y:=by
 have e1:=Nat.div_add_mod (u*4294967296+d1) Y
 rw [<-hq1,<-hv] at e1
 have e:u*18446744073709551616+d1*4294967296+d0=Y*(q1*4294967296)+(v*4294967296+d0):=by
  have:(Y*q1+v)*4294967296=(u*4294967296+d1)*4294967296:=by rw [e1]
  rw [Nat.add_mul,Nat.add_mul,Nat.mul_assoc] at this
  omega
 rw [e]
 constructor
 ·rw [Nat.mul_add_div hY,<-hq0]
 rw [Nat.mul_add_mod]
theorem Zhg {y1 y0 U d1 q Y:Nat} (hk:Kn y1 y0 U d1) (hY:Y=y1*4294967296+y0) (hq:q=knQ y1 y0 U d1):
 IntKind.u64.wrap (IntKind.u64.wrap (IntKind.u64.wrap ((U:Int)*4294967296)+(d1:Int))-IntKind.u64.wrap ((q:Int)*(Y:Int)))=(((U*4294967296+d1)%Y:Nat):Int):=by
 have h0:=hk.h0;have h2:=hk.h2;have h1:=hk.h1
 have e:=Nat.div_add_mod (U*4294967296+d1) Y
 have hlt:=Nat.mod_lt (U*4294967296+d1) (show 0<Y by omega)
 have hq':q=(U*4294967296+d1) / Y:=by rw [hq,hY];rfl
 rw [<-hq'] at e
 generalize (U*4294967296+d1)%Y=V at *
 have ec:(q:Int)*(Y:Int)=((Y*q:Nat):Int):=by rw [Nat.mul_comm];simp
 rw [ec]
 generalize Y*q=P at *
 simp only [IntKind.wrap_u64]
 omega
theorem Kn.second {y1 y0 U d1 d0 Y:Nat} (hk:Kn y1 y0 U d1) (hY:Y=y1*4294967296+y0) (hd:d0<4294967296):Kn y1 y0 ((U*4294967296+d1)%Y) d0:=
 ⟨hk.h1,hk.h2,hk.h0,by rw [hY];exact Nat.mod_lt _ (by have:=hk.h1;omega),hd⟩
theorem Zc9 (a b:Nat) (ha:a<=4294967295) (hb:b<=4294967295):IntKind.u64.wrap ((a:Int)*(b:Int))=((a*b:Nat):Int):=by
 have h:a*b<=4294967295*4294967295:=Nat.mul_le_mul ha hb
 have e:(a:Int)*(b:Int)=((a*b:Nat):Int):=by simp
 rw [e]
 generalize a*b=M at *
 rw [IntKind.wrap_u64];omega
theorem Zc8 (U y1:Nat) (hU:U<18446744073709551616):IntKind.u64.wrap (((U / y1:Nat):Int)*(y1:Int))=((U / y1*y1:Nat):Int):=by
 have h:U / y1*y1<=U:=Nat.div_mul_le_self U y1
 have e:((U / y1:Nat):Int)*(y1:Int)=((U / y1*y1:Nat):Int):=by simp
 rw [e]
 generalize U / y1*y1=M at *
 rw [IntKind.wrap_u64];omega
theorem Zc0 (U y1:Nat) (hU:U<18446744073709551616):IntKind.u64.wrap ((U:Int)-((U / y1*y1:Nat):Int))=((U%y1:Nat):Int):=by
 have h:U / y1*y1+U%y1=U:=by rw [Nat.mul_comm];exact Nat.div_add_mod U y1
 generalize U / y1*y1=M at *
 generalize U%y1=r at *
 rw [IntKind.wrap_u64];omega
theorem kn_end {hi lo y s Y H Lh Lw U d1 d0 q1 q0 y1 y0:Nat} (hs:s<=63) (_hy0:0<y) (_hlt:hi<y) (hYd:Y=y*2 ^ s) (hY:Y=y1*4294967296+y0) (hH:H=hi*2 ^ s) (hLh:Lh=lo / 2 ^ (64-s)) (hLw:Lw=(lo*2 ^ s)%18446744073709551616)
 (hU:U=H+Lh) (hd1:d1=Lw / 4294967296) (hd0:d0=Lw%4294967296) (hk:Kn y1 y0 U d1) (hq1:q1=knQ y1 y0 U d1) (hq0:q0=knQ y1 y0 ((U*4294967296+d1)%Y) d0):
 (hi*18446744073709551616+lo) / y=q1*4294967296+q0/\(hi*18446744073709551616+lo)%y=((U*4294967296+d1)%Y*4294967296+d0)%Y / 2 ^ s:=by
 have hp:0<2 ^ s:=Nat.pow_pos (by omega)
 have hYp:0<Y:=by have:=hk.h1;omega
 have hshift:lo*2 ^ s / 18446744073709551616=Lh:=by
  rw [hLh,show (18446744073709551616:Nat)=2 ^ (64-s)*2 ^ s by rw [<-Nat.pow_add,show 64-s+s=64 by omega]]
  exact Nat.mul_div_mul_right _ _ hp
 have hlo:lo*2 ^ s=Lh*18446744073709551616+Lw:=by
  have:=Nat.div_add_mod (lo*2 ^ s) 18446744073709551616
  rw [hshift,<-hLw] at this
  omega
 have hLd:Lw=d1*4294967296+d0:=by omega
 have hN:(hi*18446744073709551616+lo)*2 ^ s=U*18446744073709551616+d1*4294967296+d0:=by
  have:(hi*18446744073709551616+lo)*2 ^ s=hi*2 ^ s*18446744073709551616+lo*2 ^ s:=by
   rw [Nat.add_mul,Nat.mul_right_comm]
  rw [this,hlo,<-hH,hU,hLd]
  omega
 have hv2:(U*4294967296+d1)%Y<Y:=Nat.mod_lt _ hYp
 obtain ⟨k1,k2⟩:=kn_two Y U d1 d0 q1 ((U*4294967296+d1)%Y) q0 hYp (by rw [hq1,hY];rfl) rfl (by rw [hq0];unfold knQ;rw [<-hY]) (by omega) hv2
 rw [<-hN,hYd] at k1 k2
 rw [Nat.mul_div_mul_right _ _ hp] at k1
 rw [Nat.mul_mod_mul_right] at k2
 refine ⟨k1,?_⟩
 rw [hYd,<-k2,Nat.mul_div_cancel _ hp]
end Go.Proofs.YtipjchbdogmccaaGreat
