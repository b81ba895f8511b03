/- The walk of trade: what a fill may be made of. -/
import Derived.Test.YtipjchbdogmccaaGreatWf
import Derived.Test.YtipjchbdogmccaaGreatGen
namespace Go.Proofs.YtipjchbdogmccaaGreat
open Go.RowKit Go.Rg Go.BigFrame
def okT (fo:Option Off) (hp:Int->Bool) (taker to want most:Int):Bool:=match fo with
 | none=>false
 | some o=> !(o.owner==taker)&&hp o.owner&&hp taker&&hp to&&decide (0<want)&&decide (0<most)
def Zbd:Array Value:=#[.pointer none,.pointer none,.int .u64 0,.int .u8 0,.int .u8 0,.int .u8 0,.int .i64 0,.int .i64 0,.int .i64 0,.int .u8 0,.int .u8 0,.int .i64 0,.int .i64 0]
theorem Ret.clsK {S:List Nat} {v:Value} {w1:World} {p:KeepOf S w1} {f:FuncId} {args:Array Value} {P:Program} (h:Calls P f args p.to (Ret v p.to)):
 Calls P f args p.to fun e w''=>e= .returned v/\∃q:KeepOf S w1,w''=q.to:=
 h.mono fun _ _ ⟨h1,h2⟩=>⟨h1,⟨_,p.h.trans (Kx h2)⟩,rfl⟩
set_option maxRecDepth 100000 in
set_option maxHeartbeats 8000000 in
theorem trade_gen (l b:Option Addr) (fo:Option Off) (hp:Int->Bool) (seq taker to want most:Int) (w:World)
 (hfind:∀w',Ext w w'->Calls Tryz.prog 154 #[.pointer b,.int .u64 seq] w' (Ret (Zfb fo) w'))
 (hhas:fo≠none->∀x w',Ext w w'->Calls Tryz.prog 175 #[.pointer l,.int .u8 x] w' (Ret (.bool (hp x)) w')):
 Calls Tryz.prog 225 #[.agg #[.pointer l,.pointer b],.int .u64 seq,.int .u8 taker,.int .u8 to,.int .i64 want,.int .i64 most] w
  (Ret (.tuple #[Vv (.pointer l) (.pointer b) (fo.getD Zw) taker to want most,.bool (okT fo hp taker to want most)]) w):=by
 have hfv:Zfb fo= .tuple #[(fo.getD Zw).agg,.bool fo.isSome]:=by cases fo<;>rfl
 rw [hfv] at hfind
 obtain ⟨oseq,oown,osell,obuy,oleft,onum,oden,ho⟩:∃s1 s2 s3 s4 s5 s6 s7,fo.getD Zw=⟨s1,s2,s3,s4,s5,s6,s7⟩:=⟨_,_,_,_,_,_,_,rfl⟩
 rw [ho] at hfind ⊢
 unfold Vv Uc
 unfold Off.agg at hfind
 simp only at hfind ⊢
 have e0:=Zc w (.cells #[.pointer l,.pointer b] 103)
 have s0:=size_alloc w (.cells #[.pointer l,.pointer b] 103)
 have h0:=Zb w (.cells #[.pointer l,.pointer b] 103)
 have e1:=Zc (w.alloc (.cells #[.pointer l,.pointer b] 103)) (.cells Zbd 344)
 have s1:=size_alloc (w.alloc (.cells #[.pointer l,.pointer b] 103)) (.cells Zbd 344)
 have h1:=Zb (w.alloc (.cells #[.pointer l,.pointer b] 103)) (.cells Zbd 344)
 have h0:=e1.at h0
 obtain ⟨W,hW⟩:∃W,W=(w.alloc (.cells #[.pointer l,.pointer b] 103)).alloc (.cells Zbd 344):=⟨_,rfl⟩
 have E1:=Xt e0 e1
 rw [s0] at h1
 rw [<-hW] at h1 h0 E1 s1
 rw [s0] at s1
 have HW:=Lib.hid hW
 have c01:=Za (j:=1) h0 rfl
 clear hW e0 s0 e1
 unfold Zbd at HW
 go_enter Tryz.func225,Tryz.ntmps225
 have HE:=HW.out
 subst HE
 clear HW
 go_wp2_with fail
 refine (hfind _ E1).mono ?_
 rintro e w2 ⟨rfl,e2⟩
 have hz2:=Zb w2 (.cells #[.int .u64 0,.int .u8 0,.int .u8 0,.int .u8 0,.int .i64 0,.int .i64 0,.int .i64 0] 153)
 have ez2:=Zc w2 (.cells #[.int .u64 0,.int .u8 0,.int .u8 0,.int .u8 0,.int .i64 0,.int .i64 0,.int .i64 0] 153)
 have h02:=e2.at h0
 have h12:=e2.at h1
 go_wp2_with (first
  | (refine Zd rfl 103 _ _ _ rfl rfl ld29 ?_)
  | (refine Zd rfl 153 _ _ _ rfl rfl ld57 ?_)
  | (refine Ze rfl rfl 153 _ _ rfl w2.heap.size _ rfl rfl 153 _ hz2 (by kernel_rfl) (by rfl) (by rfl) ?_;intro w3 hb3 ho3 hs3;have e3:Ext w2 w3:=hb3 _ _ (Nat.le_refl _) ez2
     have h03:=e3.at h02
     have ld29:=run_loadVar_row (P:=Tryz.prog) w3 w.heap.size _ 103 _ _ _ h03 Tryz.underlying103 rfl (by kernel_rfl)
     have ld57:=run_loadVar_row (P:=Tryz.prog) w3 w2.heap.size _ 153 _ _ _ hs3 Tryz.underlying153 rfl (by kernel_rfl)
     have hz3:=Zb w3 (.cells #[.pointer none,.pointer none,.int .u64 0,.int .u8 0,.int .u8 0,.int .u8 0,.int .i64 0,.int .i64 0,.int .i64 0,.int .u8 0,.int .u8 0,.int .i64 0,.int .i64 0] 344)
     have ez3:=Zc w3 (.cells #[.pointer none,.pointer none,.int .u64 0,.int .u8 0,.int .u8 0,.int .u8 0,.int .i64 0,.int .i64 0,.int .i64 0,.int .u8 0,.int .u8 0,.int .i64 0,.int .i64 0] 344))
  | (refine Ze rfl rfl 344 _ _ rfl w3.heap.size _ rfl rfl 344 _ hz3 (by kernel_rfl) (by rfl) (by rfl) ?_;intro w4 hb4 ho4 hs4;have e4:Ext w3 w4:=hb4 _ _ (Nat.le_refl _) ez3))
 have h04:=e4.at h03
 have h14:=(Xt e3 e4).at h12
 have hs34:=e4.at hs3
 have hs3z:=hs3
 have E4:=Xt E1 (Xt e2 (Xt e3 e4))
 clear ld29 ld57 hz3 ez3 hz2 ez2 h03 h02 h12 hs3 c01
 have s4a:w.heap.size+2<=w2.heap.size:=by have:=e2.size;omega
 have s4b:w2.heap.size+1<=w3.heap.size:=Zg hs3z
 have hF:∀wq,Keep [w.heap.size+1] w4 wq->wq.cell? ⟨w.heap.size,0,none⟩=some (.pointer l)/\wq.cell? ⟨w2.heap.size,1,none⟩=some (.int .u8 oown)/\(loadVar 344 ⟨w3.heap.size,0,none⟩).run Tryz.prog wq= .ok (.agg #[.pointer l,.pointer b,.int .u64 oseq,.int .u8 oown,.int .u8 osell,.int .u8 obuy,.int .i64 oleft,.int .i64 onum,.int .i64 oden,.int .u8 taker,.int .u8 to,.int .i64 want,.int .i64 most]) wq/\Ext w wq:=fun wq hk=>
  ⟨Za (hk.at h04 (by simp)) rfl,Za (hk.at hs34 (by simp;omega)) rfl,run_loadVar_row (P:=Tryz.prog) wq w3.heap.size _ 344 _ _ _ (hk.at hs4 (by simp;omega)) Tryz.underlying344 rfl (by kernel_rfl),
   (Keep.trans_fresh (S:=[]) (Kx E4) hk (fun x hx=>by simp at hx;right;omega)).ext⟩
 clear h0 h1 E1 hs34 h04
 cases fo with
 | none=>
   have hok:okT none hp taker to want most=false:=rfl
   rw [hok]
   simp only [Option.isSome_none]
   clear hhas hfind
   refine RgK.Vt [w.heap.size+1] Zl 36 [35] (by kernel_rfl) (by kernel_rfl) ?_ ?_
   ·intro w1 hw1
    have c0:=fun u:ExtOf w1=>(hF _ (hw1.trans (Kx u.h))).1
    have c1:=fun u:ExtOf w1=>(hF _ (hw1.trans (Kx u.h))).2.1
    have ld:∀w2,Cls w1 w2->(loadVar 344 ⟨w3.heap.size,0,none⟩).run Tryz.prog w2= .ok (.agg #[.pointer l,.pointer b,.int .u64 oseq,.int .u8 oown,.int .u8 osell,.int .u8 obuy,.int .i64 oleft,.int .i64 onum,.int .i64 oden,.int .u8 taker,.int .u8 to,.int .i64 want,.int .i64 most]) w2:=by
     rintro _ ⟨u,rfl⟩
     exact (hF _ (hw1.trans (Kx u.h))).2.2.1
    have hx:∀u:ExtOf w1,Ext w u.to:=fun u=>(hF _ (hw1.trans (Kx u.h))).2.2.2
    simp only [Zk,Rg.hsB,Nat.reduceBEq,Nat.reduceAdd,↓reduceIte]
    repeat (first | go_big_quiet_step (fail) | (go_big_quiet_want;refine Z0 344 _ _ _ rfl rfl ld ?_;go_big_quiet_on;simp only [Act.put,Rg.puB]))
    refine wpQuiet_nil ?_
    trivial
   intro w1 hw1
   have c0:=fun u:KeepOf [w.heap.size+1] w1=>(hF _ (hw1.trans u.h)).1
   have c1:=fun u:KeepOf [w.heap.size+1] w1=>(hF _ (hw1.trans u.h)).2.1
   have ld:∀w2,U9 [w.heap.size+1] w1 w2->(loadVar 344 ⟨w3.heap.size,0,none⟩).run Tryz.prog w2= .ok (.agg #[.pointer l,.pointer b,.int .u64 oseq,.int .u8 oown,.int .u8 osell,.int .u8 obuy,.int .i64 oleft,.int .i64 onum,.int .i64 oden,.int .u8 taker,.int .u8 to,.int .i64 want,.int .i64 most]) w2:=by
    rintro _ ⟨u,rfl⟩
    exact (hF _ (hw1.trans u.h)).2.2.1
   have hx:∀u:KeepOf [w.heap.size+1] w1,Ext w u.to:=fun u=>(hF _ (hw1.trans u.h)).2.2.2
   simp only [Zk,Rg.hsB,Nat.reduceBEq,Nat.reduceAdd,↓reduceIte]
   repeat (first | go_big_quiet_step (fail) | (go_big_quiet_want;refine Z0 344 _ _ _ rfl rfl ld ?_;go_big_quiet_on;simp only [Act.put,Rg.puB]))
   refine wpQuiet_nil ?_
   intro hx1
   refine RgK.wpX_row 35 _ 344 _ _ rfl rfl rfl (by kernel_rfl) (by decide) rfl (w.heap.size+1) _ (by kernel_rfl) rfl 344 _ (by kernel_rfl) (by rfl) (by rfl) (hx1.at h14) (by simp) ?_
   intro w5 k05 k15 hr5
   refine RgK.Zj (by kernel_rfl) ?_
   intro w6 k06 e56
   simp only [Rg.puB]
   have hr6:=e56.at hr5
   have hx6:=(hF _ k06).2.2.2
   go_wp2
   exact Zt (w.heap.size+1) 344 _ _ _ rfl rfl hr6 Tryz.underlying344 rfl (by kernel_rfl) rfl ⟨rfl,hx6⟩
 | some o=>
   have hoo:o=⟨oseq,oown,osell,obuy,oleft,onum,oden⟩:=ho
   have hh:∀x w',Ext w w'->Calls Tryz.prog 175 #[.pointer l,.int .u8 x] w' (Ret (.bool (hp x)) w'):=hhas (by simp)
   have hokd:okT (some o) hp taker to want most=(!(oown==taker)&&hp oown&&hp taker&&hp to&&decide (0<want)&&decide (0<most)):=by rw [hoo];rfl
   simp only [Option.isSome_some]
   clear hhas hfind ho hoo
   generalize okT (some o) hp taker to want most=ok at *
   by_cases q1:(oown==taker)=true
   case' pos=>
    have hok:ok=false:=by rw [hokd,q1];rfl
    have q1':(oown !=taker)=false:=by simp only [bne,q1,Bool.not_true]
    subst hok
    clear hokd q1
   case' neg=>
    have q1n:(oown==taker)=false:=by simpa using q1
    have q1':(oown !=taker)=true:=by simp only [bne,q1n,Bool.not_false]
    clear q1
    cases q2:hp oown
    case' false=>
     have hok:ok=false:=by rw [hokd,q2];simp
     subst hok
     clear hokd q1n
    case' true=>
     cases q3:hp taker
     case' false=>
      have hok:ok=false:=by rw [hokd,q3];simp
      subst hok
      clear hokd q1n
     case' true=>
      cases q4:hp to
      case' false=>
       have hok:ok=false:=by rw [hokd,q4];simp
       subst hok
       clear hokd q1n
      case' true=>
       by_cases q5:0<want
       case' neg=>
        have q5':decide (0<want)=false:=by simpa using q5
        have hok:ok=false:=by rw [hokd,q5'];simp
        subst hok
        clear hokd q1n
       case' pos=>
        have q5':decide (0<want)=true:=by simpa using q5
        by_cases q6:0<most
        case' pos=>
         have q6':decide (0<most)=true:=by simpa using q6
         have hok:ok=true:=by rw [hokd,q1n,q2,q3,q4,q5',q6'];rfl
         subst hok
         clear hokd q1n
        case' neg=>
         have q6':decide (0<most)=false:=by simpa using q6
         have hok:ok=false:=by rw [hokd,q6'];simp
         subst hok
         clear hokd q1n
   all_goals
    refine RgK.Vt [w.heap.size+1] Zl 36 [35] (by kernel_rfl) (by kernel_rfl) ?_ ?_
    ·intro w1 hw1
     have c0:=fun u:ExtOf w1=>(hF _ (hw1.trans (Kx u.h))).1
     have c1:=fun u:ExtOf w1=>(hF _ (hw1.trans (Kx u.h))).2.1
     have ld:∀w2,Cls w1 w2->(loadVar 344 ⟨w3.heap.size,0,none⟩).run Tryz.prog w2= .ok (.agg #[.pointer l,.pointer b,.int .u64 oseq,.int .u8 oown,.int .u8 osell,.int .u8 obuy,.int .i64 oleft,.int .i64 onum,.int .i64 oden,.int .u8 taker,.int .u8 to,.int .i64 want,.int .i64 most]) w2:=by
      rintro _ ⟨u,rfl⟩
      exact (hF _ (hw1.trans (Kx u.h))).2.2.1
     have hx:∀u:ExtOf w1,Ext w u.to:=fun u=>(hF _ (hw1.trans (Kx u.h))).2.2.2
     simp only [Zk,Rg.hsB,Nat.reduceBEq,Nat.reduceAdd,↓reduceIte]
     repeat (first | go_big_quiet_step ((go_at_call 175;exact Ret.cls (hh _ _ (hx _)))) | (go_big_quiet_want;refine Z0 344 _ _ _ rfl rfl ld ?_;go_big_quiet_on;simp only [Act.put,Rg.puB]))
     refine wpQuiet_nil ?_
     trivial
    intro w1 hw1
    have c0:=fun u:KeepOf [w.heap.size+1] w1=>(hF _ (hw1.trans u.h)).1
    have c1:=fun u:KeepOf [w.heap.size+1] w1=>(hF _ (hw1.trans u.h)).2.1
    have ld:∀w2,U9 [w.heap.size+1] w1 w2->(loadVar 344 ⟨w3.heap.size,0,none⟩).run Tryz.prog w2= .ok (.agg #[.pointer l,.pointer b,.int .u64 oseq,.int .u8 oown,.int .u8 osell,.int .u8 obuy,.int .i64 oleft,.int .i64 onum,.int .i64 oden,.int .u8 taker,.int .u8 to,.int .i64 want,.int .i64 most]) w2:=by
     rintro _ ⟨u,rfl⟩
     exact (hF _ (hw1.trans u.h)).2.2.1
    have hx:∀u:KeepOf [w.heap.size+1] w1,Ext w u.to:=fun u=>(hF _ (hw1.trans u.h)).2.2.2
    simp only [Zk,Rg.hsB,Nat.reduceBEq,Nat.reduceAdd,↓reduceIte]
    repeat (first | go_big_quiet_step ((go_at_call 175;exact Ret.clsK (hh _ _ (hx _)))) | (go_big_quiet_want;refine Z0 344 _ _ _ rfl rfl ld ?_;go_big_quiet_on;simp only [Act.put,Rg.puB]))
    refine wpQuiet_nil ?_
    intro hx1
    refine RgK.wpX_row 35 _ 344 _ _ rfl rfl rfl (by kernel_rfl) (by decide) rfl (w.heap.size+1) _ (by kernel_rfl) rfl 344 _ (by kernel_rfl) (by rfl) (by rfl) (hx1.at h14) (by simp) ?_
    intro w5 k05 k15 hr5
    refine RgK.Zj (by kernel_rfl) ?_
    intro w6 k06 e56
    simp only [Rg.puB]
    have hr6:=e56.at hr5
    have hx6:=(hF _ k06).2.2.2
    go_wp2
    exact Zt (w.heap.size+1) 344 _ _ _ rfl rfl hr6 Tryz.underlying344 rfl (by kernel_rfl) rfl ⟨rfl,hx6⟩
end Go.Proofs.YtipjchbdogmccaaGreat
