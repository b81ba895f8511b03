/- Swaps: Swap of a house that is there. -/
import Derived.Test.YtipjchbdogmccaaGreatSwapP
namespace Go.Proofs.YtipjchbdogmccaaGreat
open Go.RowKit Go.Rg Go.BigFrame
theorem Zs.low {w:World} {base base' size n:Nat} {v:Value} {xs:List Value} (h:Zs w base size v n xs) (hb:base'<=base):Zs w base' size v n xs:=by
 obtain ⟨A,cap,h0,h1,h2,h3,h4⟩:=h
 refine ⟨A,cap,h0,h1,h2,h3,?_⟩
 rcases h4 with h4 | ⟨g,h4,h5,h6⟩
 ·exact .inl h4
 exact .inr ⟨g,h4,Nat.le_trans hb h5,h6⟩
def Yf (r:Int×Led×Bk×List Fl) (w:World) (e:Ending) (w':World):Prop:=
 ∃hv av,e= .returned (.tuple #[hv,av,.int .i64 r.1])/\Ext w w'/\(r.1≠0->hv= .agg #[.pointer none,.pointer none]/\av= .slice none 0 0)/\
  (r.1=0->∃p m pb g,hv= .agg #[.pointer (some ⟨p,0,none⟩),.pointer (some ⟨pb,0,none⟩)]/\IsLed w' p m r.2.1/\IsBook w' pb g r.2.2.1/\Zs w' w.heap.size 5 av r.2.2.2.length (Yn r.2.2.2)/\w.heap.size<=p/\w.heap.size<=m/\w.heap.size<=pb/\∀x,g=some x->w.heap.size<=x)
theorem Yf.bad {r:Int×Led×Bk×List Fl} {w W':World} {er:Int} (h:r.1=er) (h0:er≠0) (k:Ext w W'):
 Yf r w (.returned (.tuple #[.agg #[.pointer none,.pointer none],.slice none 0 0,.int .i64 er])) W':=
 ⟨_,_,by rw [h],k,fun _=>⟨rfl,rfl⟩,fun h'=>absurd (h▸h') h0⟩
theorem Jj {L:Led} {B:Bk} {fr to get give n most:Int} (h:(Xl fr&&Xl to&&Ug get&&Ug give&& !(get==give)&&Xj n&&Xj most)=false):(Y3 L B fr to get give n most).1=1:=by
 unfold Y3;rw [if_pos h]
theorem Zib {L:Led} {B:Bk} {fr to get give n most:Int} (h:(Xl fr&&Xl to&&Ug get&&Ug give&& !(get==give)&&Xj n&&Xj most)=true) (h2:(Yp L fr&&Yp L to)=false):(Y3 L B fr to get give n most).1=7:=by
 unfold Y3;rw [if_neg (by rw [h];simp),if_pos h2]
theorem Za0 {w w':World} {row:Option Nat} {S:List Nat} (hS:row.toList=S) (hg:w.grownBy w' row):Keep S w w':=
 Us (Keep.refl S w) hg (fun q hq=>.inl (by rw [<-hS,hq];simp))
theorem swapR_go {L:Led} {B:Bk} {fr to get give n most:Int} {r0:Int×Led×Bk×Int×List Fl} (h:(Xl fr&&Xl to&&Ug get&&Ug give&& !(get==give)&&Xj n&&Xj most)=true) (h2:(Yp L fr&&Yp L to)=true) (hr:Y6 fr to get give 65 L B n []=r0):
 (r0.1≠0->(Y3 L B fr to get give n most).1=r0.1)/\(r0.1=0->most<V8 r0.2.2.2.2->(Y3 L B fr to get give n most).1=12)/\
 (r0.1=0->¬most<V8 r0.2.2.2.2->Y3 L B fr to get give n most=(0,r0.2.1,r0.2.2.1,r0.2.2.2.2)):=by
 unfold Y3
 rw [if_neg (by rw [h];simp),if_neg (by rw [h2];simp),hr]
 refine ⟨fun h0=>by rw [if_pos h0],fun h0 h1=> ?_,fun h0 h1=> ?_⟩
 ·rw [if_neg (fun e=>e h0),if_pos h1]
 rw [if_neg (fun e=>e h0),if_neg h1]
def Zee (w:World) (b:Nat):Nat:=match w.cell? ⟨b,0,none⟩ with
 | some (.slice _ n _)=>n
 | _=>0
/- A drawn error:HF tells the error's number (er),HEND what is answered;the rows stand at k4,k5,k6 (SI at hI). -/
/- The rest of the region,Do done with the row made behind it. -/
/- The rest of the region,the row made ahead of Do. -/
set_option maxRecDepth 100000 in
set_option maxHeartbeats 6400000 in
theorem swap_anyF (p m pb:Nat) (g:Option Nat) (L:Led) (B:Bk) (fr to get give n most:Int) (w:World) (hL:IsLed w p m L) (hwf:WF L) (hB:IsBook w pb g B) (hok:OkB B) (hsn:Uv B) (hn:n<=9223372036854775807):
 Calls Tryz.prog 146 #[.agg #[.pointer (some ⟨p,0,none⟩),.pointer (some ⟨pb,0,none⟩)],.int .u8 fr,.int .u8 to,.int .u8 get,.int .u8 give,.int .i64 n,.int .i64 most] w
  (Yf (Y3 L B fr to get give n most) w):=by
 have hmf:∀(fn:Fn) (first cap:Array Value) (w:World),(Instr.makeFunc fn first cap).run Tryz.prog w= .ok (.func fn first cap) w:=fun _ _ _ _=>rfl
 obtain ⟨r,hr⟩:∃r,r=Y3 L B fr to get give n most:=⟨_,rfl⟩
 rw [<-hr]
 have HR:=Lib.hid hr
 clear hr
 go_enter_defers Tryz.func146,Tryz.ntmps146
 go_wp2_with fail
 obtain ⟨W,hW⟩:∃W,W=(((((((w.alloc (.cells #[.pointer (some ⟨p,0,none⟩),.pointer (some ⟨pb,0,none⟩)] 103)).alloc (.cells #[.int .u8 fr] 24)).alloc (.cells #[.int .u8 to] 24)).alloc (.cells #[.int .i64 n] 2)).alloc (.cells #[.pointer none,.pointer none] 103)).alloc (.cells #[.slice none 0 0] 243)).alloc (.cells #[.int .i64 0] 35)):=⟨_,rfl⟩
 rw [<-hW]
 obtain ⟨E0,s0,k0,k1,k2,k3,k4,k5,k6⟩:=rows7 w _ _ _ _ _ _ _ _ _ _ _ _ _ _ W hW
 clear hW
 refine (Zgh p m pb g L B W (hL.ext E0) (hB.ext E0)).mono ?_
 rintro e w1 ⟨p3,m3,pb3,g3,rfl,e1,hL3,hB3,hp3,hm3,hpb3,hg3⟩
 rw [s0] at hp3 hm3 hpb3
 replace hg3:∀x,g3=some x->w.heap.size+1+1+1+1+1+1+1<=x:=fun x hx=>by have:=hg3 x hx;omega
 replace k0:=e1.at k0
 replace k1:=e1.at k1
 replace k2:=e1.at k2
 replace k3:=e1.at k3
 replace k4:=e1.at k4
 replace k5:=e1.at k5
 replace k6:=e1.at k6
 have E1:=Xt E0 e1
 clear s0 E0 e1 hB
 go_wp2_with (refine Ze rfl rfl 103 _ _ rfl (w.heap.size+1+1+1+1) _ rfl rfl 103 _ k4 (by kernel_rfl) (by rfl) (by rfl) ?_;intro wz hbz hoz kz4;have c0:=Za (j:=0) kz4 rfl;have c1:=Za (j:=1) kz4 rfl;have kz1:=(hoz (w.heap.size+1) (by omega)).trans k1;have cz1:=Za (j:=0) kz1 rfl)
 have kz0:=(hoz w.heap.size (by omega)).trans k0
 have kz2:=(hoz (w.heap.size+1+1) (by omega)).trans k2
 have kz3:=(hoz (w.heap.size+1+1+1) (by omega)).trans k3
 have kz5:=(hoz (w.heap.size+1+1+1+1+1) (by omega)).trans k5
 have kz6:=(hoz (w.heap.size+1+1+1+1+1+1) (by omega)).trans k6
 have EZ:Ext w wz:=hbz _ _ (by omega) E1
 have kzw:Keep [w.heap.size+1+1+1+1] w1 wz:=by
  have hbb:=hbz 0 w1 (Nat.zero_le _) (Below.refl _ _)
  exact ⟨hbb.os,hbb.tape,hbb.output,hbb.size,fun i hi hn=>hoz i (by simpa using hn)⟩
 replace hL3:=hL3.keep kzw (by simp;omega) (by simp;omega)
 replace hB3:=hB3.keep kzw (by simp;omega) (fun x hx=>by have:=hg3 x hx;simp;omega)
 replace hL:=hL.ext EZ
 clear k0 k1 k2 k3 k4 k5 k6 E1 hbz hoz kzw c0 c1
 have z0:=Za (j:=0) kz0 rfl
 have cz2:=Za (j:=0) kz2 rfl
 have cz3:=Za (j:=0) kz3 rfl
 cases q1:Xl fr with
 | false=>
   refine (Zc4 fr _).mono ?_
   rintro e w' ⟨rfl,rfl⟩
   have HARG:=Lib.hid (show (Xl fr&&Xl to&&Ug get&&Ug give&& !(get==give)&&Xj n&&Xj most)=false by simp [q1])
   have HZ:=Lib.hid (show ¬(1:Int)=0 by decide)
   have HEND:=Lib.hid (show ∀W',Ext w W'->Yf r w (.returned (.tuple #[.agg #[.pointer none,.pointer none],.slice none 0 0,.int .i64 1])) W' from fun W' h=>Yf.bad (by rw [HR.out];exact Jj HARG.out) (by decide) h)
   clear HARG
   have ld:=run_loadVar_row (P:=Tryz.prog) _ (w.heap.size+1+1+1+1) _ 103 _ _ _ kz4 Tryz.underlying103 rfl (by kernel_rfl)
   go_wp2_with (first | (refine Zd rfl 103 _ _ _ rfl rfl ld ?_) | (refine Ze rfl rfl 103 _ _ rfl (w.heap.size+1+1+1+1) _ rfl rfl 103 _ kz4 (by kernel_rfl) (by rfl) (by rfl) ?_;intro wy hby hoy hsy;have ky5:=(hoy (w.heap.size+1+1+1+1+1) (by omega)).trans kz5;have ky6:=(hoy (w.heap.size+1+1+1+1+1+1) (by omega)).trans kz6;have cy5:=Za (j:=0) ky5 rfl;have cy6:=Za (j:=0) ky6 rfl;have fy5:=frozen_of_row wy _ 0 _ _ ky5;have fy6:=frozen_of_row wy _ 0 _ _ ky6))
   have EY:Ext w wy:=hby _ _ (by omega) EZ
   exact X0 _ (w.heap.size+1+1+1+1) (w.heap.size+1+1+1+1+1) (w.heap.size+1+1+1+1+1+1) _ _ (.slice none 0 0) _ _ _ (by omega) (by omega) (by omega) rfl rfl rfl
    ((Below.heap_setCell _ ⟨w.heap.size+1+1+1+1+1+1,0,none⟩ _ _ (by show w.heap.size+1+1+1+1≠w.heap.size+1+1+1+1+1+1;omega)).trans ((Below.heap_setCell _ ⟨w.heap.size+1+1+1+1+1,0,none⟩ _ _ (by show w.heap.size+1+1+1+1≠w.heap.size+1+1+1+1+1;omega)).trans hsy))
    ((Below.heap_setCell _ ⟨w.heap.size+1+1+1+1+1+1,0,none⟩ _ _ (by show w.heap.size+1+1+1+1+1≠w.heap.size+1+1+1+1+1+1;omega)).trans (heap_setCell_same wy (w.heap.size+1+1+1+1+1) 0 _ _ (.slice none 0 0) ky5))
    (heap_setCell_same (wy.setCell ⟨w.heap.size+1+1+1+1+1,0,none⟩ (.slice none 0 0)) (w.heap.size+1+1+1+1+1+1) 0 _ _ _ ((Below.heap_setCell _ ⟨w.heap.size+1+1+1+1+1,0,none⟩ _ _ (by show w.heap.size+1+1+1+1+1+1≠w.heap.size+1+1+1+1+1;omega)).trans ky6))
    (fun h=>absurd h HZ.out) (fun _ W' kk=>HEND.out _ ((Kx (Below.setCell (Below.setCell EY (p:=⟨w.heap.size+1+1+1+1+1,0,none⟩) (by show w.heap.size<=w.heap.size+1+1+1+1+1;omega) (.slice none 0 0)) (p:=⟨w.heap.size+1+1+1+1+1+1,0,none⟩) (by show w.heap.size<=w.heap.size+1+1+1+1+1+1;omega) _)).trans_fresh (S:=[]) kk (fun x hx=>by right;simp at hx;omega)).ext)
 | true=>
 refine (Zc4 fr _).mono ?_
 rintro e w' ⟨rfl,rfl⟩
 go_wp2_with fail
 cases q2:Xl to with
 | false=>
   refine (Zc4 to _).mono ?_
   rintro e w' ⟨rfl,rfl⟩
   have HARG:=Lib.hid (show (Xl fr&&Xl to&&Ug get&&Ug give&& !(get==give)&&Xj n&&Xj most)=false by simp [q2])
   have HZ:=Lib.hid (show ¬(1:Int)=0 by decide)
   have HEND:=Lib.hid (show ∀W',Ext w W'->Yf r w (.returned (.tuple #[.agg #[.pointer none,.pointer none],.slice none 0 0,.int .i64 1])) W' from fun W' h=>Yf.bad (by rw [HR.out];exact Jj HARG.out) (by decide) h)
   clear HARG
   have ld:=run_loadVar_row (P:=Tryz.prog) _ (w.heap.size+1+1+1+1) _ 103 _ _ _ kz4 Tryz.underlying103 rfl (by kernel_rfl)
   go_wp2_with (first | (refine Zd rfl 103 _ _ _ rfl rfl ld ?_) | (refine Ze rfl rfl 103 _ _ rfl (w.heap.size+1+1+1+1) _ rfl rfl 103 _ kz4 (by kernel_rfl) (by rfl) (by rfl) ?_;intro wy hby hoy hsy;have ky5:=(hoy (w.heap.size+1+1+1+1+1) (by omega)).trans kz5;have ky6:=(hoy (w.heap.size+1+1+1+1+1+1) (by omega)).trans kz6;have cy5:=Za (j:=0) ky5 rfl;have cy6:=Za (j:=0) ky6 rfl;have fy5:=frozen_of_row wy _ 0 _ _ ky5;have fy6:=frozen_of_row wy _ 0 _ _ ky6))
   have EY:Ext w wy:=hby _ _ (by omega) EZ
   exact X0 _ (w.heap.size+1+1+1+1) (w.heap.size+1+1+1+1+1) (w.heap.size+1+1+1+1+1+1) _ _ (.slice none 0 0) _ _ _ (by omega) (by omega) (by omega) rfl rfl rfl
    ((Below.heap_setCell _ ⟨w.heap.size+1+1+1+1+1+1,0,none⟩ _ _ (by show w.heap.size+1+1+1+1≠w.heap.size+1+1+1+1+1+1;omega)).trans ((Below.heap_setCell _ ⟨w.heap.size+1+1+1+1+1,0,none⟩ _ _ (by show w.heap.size+1+1+1+1≠w.heap.size+1+1+1+1+1;omega)).trans hsy))
    ((Below.heap_setCell _ ⟨w.heap.size+1+1+1+1+1+1,0,none⟩ _ _ (by show w.heap.size+1+1+1+1+1≠w.heap.size+1+1+1+1+1+1;omega)).trans (heap_setCell_same wy (w.heap.size+1+1+1+1+1) 0 _ _ (.slice none 0 0) ky5))
    (heap_setCell_same (wy.setCell ⟨w.heap.size+1+1+1+1+1,0,none⟩ (.slice none 0 0)) (w.heap.size+1+1+1+1+1+1) 0 _ _ _ ((Below.heap_setCell _ ⟨w.heap.size+1+1+1+1+1,0,none⟩ _ _ (by show w.heap.size+1+1+1+1+1+1≠w.heap.size+1+1+1+1+1;omega)).trans ky6))
    (fun h=>absurd h HZ.out) (fun _ W' kk=>HEND.out _ ((Kx (Below.setCell (Below.setCell EY (p:=⟨w.heap.size+1+1+1+1+1,0,none⟩) (by show w.heap.size<=w.heap.size+1+1+1+1+1;omega) (.slice none 0 0)) (p:=⟨w.heap.size+1+1+1+1+1+1,0,none⟩) (by show w.heap.size<=w.heap.size+1+1+1+1+1+1;omega) _)).trans_fresh (S:=[]) kk (fun x hx=>by right;simp at hx;omega)).ext)
 | true=>
 refine (Zc4 to _).mono ?_
 rintro e w' ⟨rfl,rfl⟩
 go_wp2_with fail
 cases q3:Ug get with
 | false=>
   refine (Zcs get _).mono ?_
   rintro e w' ⟨rfl,rfl⟩
   have HARG:=Lib.hid (show (Xl fr&&Xl to&&Ug get&&Ug give&& !(get==give)&&Xj n&&Xj most)=false by simp [q3])
   have HZ:=Lib.hid (show ¬(1:Int)=0 by decide)
   have HEND:=Lib.hid (show ∀W',Ext w W'->Yf r w (.returned (.tuple #[.agg #[.pointer none,.pointer none],.slice none 0 0,.int .i64 1])) W' from fun W' h=>Yf.bad (by rw [HR.out];exact Jj HARG.out) (by decide) h)
   clear HARG
   have ld:=run_loadVar_row (P:=Tryz.prog) _ (w.heap.size+1+1+1+1) _ 103 _ _ _ kz4 Tryz.underlying103 rfl (by kernel_rfl)
   go_wp2_with (first | (refine Zd rfl 103 _ _ _ rfl rfl ld ?_) | (refine Ze rfl rfl 103 _ _ rfl (w.heap.size+1+1+1+1) _ rfl rfl 103 _ kz4 (by kernel_rfl) (by rfl) (by rfl) ?_;intro wy hby hoy hsy;have ky5:=(hoy (w.heap.size+1+1+1+1+1) (by omega)).trans kz5;have ky6:=(hoy (w.heap.size+1+1+1+1+1+1) (by omega)).trans kz6;have cy5:=Za (j:=0) ky5 rfl;have cy6:=Za (j:=0) ky6 rfl;have fy5:=frozen_of_row wy _ 0 _ _ ky5;have fy6:=frozen_of_row wy _ 0 _ _ ky6))
   have EY:Ext w wy:=hby _ _ (by omega) EZ
   exact X0 _ (w.heap.size+1+1+1+1) (w.heap.size+1+1+1+1+1) (w.heap.size+1+1+1+1+1+1) _ _ (.slice none 0 0) _ _ _ (by omega) (by omega) (by omega) rfl rfl rfl
    ((Below.heap_setCell _ ⟨w.heap.size+1+1+1+1+1+1,0,none⟩ _ _ (by show w.heap.size+1+1+1+1≠w.heap.size+1+1+1+1+1+1;omega)).trans ((Below.heap_setCell _ ⟨w.heap.size+1+1+1+1+1,0,none⟩ _ _ (by show w.heap.size+1+1+1+1≠w.heap.size+1+1+1+1+1;omega)).trans hsy))
    ((Below.heap_setCell _ ⟨w.heap.size+1+1+1+1+1+1,0,none⟩ _ _ (by show w.heap.size+1+1+1+1+1≠w.heap.size+1+1+1+1+1+1;omega)).trans (heap_setCell_same wy (w.heap.size+1+1+1+1+1) 0 _ _ (.slice none 0 0) ky5))
    (heap_setCell_same (wy.setCell ⟨w.heap.size+1+1+1+1+1,0,none⟩ (.slice none 0 0)) (w.heap.size+1+1+1+1+1+1) 0 _ _ _ ((Below.heap_setCell _ ⟨w.heap.size+1+1+1+1+1,0,none⟩ _ _ (by show w.heap.size+1+1+1+1+1+1≠w.heap.size+1+1+1+1+1;omega)).trans ky6))
    (fun h=>absurd h HZ.out) (fun _ W' kk=>HEND.out _ ((Kx (Below.setCell (Below.setCell EY (p:=⟨w.heap.size+1+1+1+1+1,0,none⟩) (by show w.heap.size<=w.heap.size+1+1+1+1+1;omega) (.slice none 0 0)) (p:=⟨w.heap.size+1+1+1+1+1+1,0,none⟩) (by show w.heap.size<=w.heap.size+1+1+1+1+1+1;omega) _)).trans_fresh (S:=[]) kk (fun x hx=>by right;simp at hx;omega)).ext)
 | true=>
 refine (Zcs get _).mono ?_
 rintro e w' ⟨rfl,rfl⟩
 go_wp2_with fail
 cases q4:Ug give with
 | false=>
   refine (Zcs give _).mono ?_
   rintro e w' ⟨rfl,rfl⟩
   have HARG:=Lib.hid (show (Xl fr&&Xl to&&Ug get&&Ug give&& !(get==give)&&Xj n&&Xj most)=false by simp [q4])
   have HZ:=Lib.hid (show ¬(1:Int)=0 by decide)
   have HEND:=Lib.hid (show ∀W',Ext w W'->Yf r w (.returned (.tuple #[.agg #[.pointer none,.pointer none],.slice none 0 0,.int .i64 1])) W' from fun W' h=>Yf.bad (by rw [HR.out];exact Jj HARG.out) (by decide) h)
   clear HARG
   have ld:=run_loadVar_row (P:=Tryz.prog) _ (w.heap.size+1+1+1+1) _ 103 _ _ _ kz4 Tryz.underlying103 rfl (by kernel_rfl)
   go_wp2_with (first | (refine Zd rfl 103 _ _ _ rfl rfl ld ?_) | (refine Ze rfl rfl 103 _ _ rfl (w.heap.size+1+1+1+1) _ rfl rfl 103 _ kz4 (by kernel_rfl) (by rfl) (by rfl) ?_;intro wy hby hoy hsy;have ky5:=(hoy (w.heap.size+1+1+1+1+1) (by omega)).trans kz5;have ky6:=(hoy (w.heap.size+1+1+1+1+1+1) (by omega)).trans kz6;have cy5:=Za (j:=0) ky5 rfl;have cy6:=Za (j:=0) ky6 rfl;have fy5:=frozen_of_row wy _ 0 _ _ ky5;have fy6:=frozen_of_row wy _ 0 _ _ ky6))
   have EY:Ext w wy:=hby _ _ (by omega) EZ
   exact X0 _ (w.heap.size+1+1+1+1) (w.heap.size+1+1+1+1+1) (w.heap.size+1+1+1+1+1+1) _ _ (.slice none 0 0) _ _ _ (by omega) (by omega) (by omega) rfl rfl rfl
    ((Below.heap_setCell _ ⟨w.heap.size+1+1+1+1+1+1,0,none⟩ _ _ (by show w.heap.size+1+1+1+1≠w.heap.size+1+1+1+1+1+1;omega)).trans ((Below.heap_setCell _ ⟨w.heap.size+1+1+1+1+1,0,none⟩ _ _ (by show w.heap.size+1+1+1+1≠w.heap.size+1+1+1+1+1;omega)).trans hsy))
    ((Below.heap_setCell _ ⟨w.heap.size+1+1+1+1+1+1,0,none⟩ _ _ (by show w.heap.size+1+1+1+1+1≠w.heap.size+1+1+1+1+1+1;omega)).trans (heap_setCell_same wy (w.heap.size+1+1+1+1+1) 0 _ _ (.slice none 0 0) ky5))
    (heap_setCell_same (wy.setCell ⟨w.heap.size+1+1+1+1+1,0,none⟩ (.slice none 0 0)) (w.heap.size+1+1+1+1+1+1) 0 _ _ _ ((Below.heap_setCell _ ⟨w.heap.size+1+1+1+1+1,0,none⟩ _ _ (by show w.heap.size+1+1+1+1+1+1≠w.heap.size+1+1+1+1+1;omega)).trans ky6))
    (fun h=>absurd h HZ.out) (fun _ W' kk=>HEND.out _ ((Kx (Below.setCell (Below.setCell EY (p:=⟨w.heap.size+1+1+1+1+1,0,none⟩) (by show w.heap.size<=w.heap.size+1+1+1+1+1;omega) (.slice none 0 0)) (p:=⟨w.heap.size+1+1+1+1+1+1,0,none⟩) (by show w.heap.size<=w.heap.size+1+1+1+1+1+1;omega) _)).trans_fresh (S:=[]) kk (fun x hx=>by right;simp at hx;omega)).ext)
 | true=>
 cases q5:(get==give) with
 | true=>
   refine (Zcs give _).mono ?_
   rintro e w' ⟨rfl,rfl⟩
   have HARG:=Lib.hid (show (Xl fr&&Xl to&&Ug get&&Ug give&& !(get==give)&&Xj n&&Xj most)=false by simp [q5])
   have HZ:=Lib.hid (show ¬(1:Int)=0 by decide)
   have HEND:=Lib.hid (show ∀W',Ext w W'->Yf r w (.returned (.tuple #[.agg #[.pointer none,.pointer none],.slice none 0 0,.int .i64 1])) W' from fun W' h=>Yf.bad (by rw [HR.out];exact Jj HARG.out) (by decide) h)
   clear HARG
   have ld:=run_loadVar_row (P:=Tryz.prog) _ (w.heap.size+1+1+1+1) _ 103 _ _ _ kz4 Tryz.underlying103 rfl (by kernel_rfl)
   go_wp2_with (first | (refine Zd rfl 103 _ _ _ rfl rfl ld ?_) | (refine Ze rfl rfl 103 _ _ rfl (w.heap.size+1+1+1+1) _ rfl rfl 103 _ kz4 (by kernel_rfl) (by rfl) (by rfl) ?_;intro wy hby hoy hsy;have ky5:=(hoy (w.heap.size+1+1+1+1+1) (by omega)).trans kz5;have ky6:=(hoy (w.heap.size+1+1+1+1+1+1) (by omega)).trans kz6;have cy5:=Za (j:=0) ky5 rfl;have cy6:=Za (j:=0) ky6 rfl;have fy5:=frozen_of_row wy _ 0 _ _ ky5;have fy6:=frozen_of_row wy _ 0 _ _ ky6))
   have EY:Ext w wy:=hby _ _ (by omega) EZ
   exact X0 _ (w.heap.size+1+1+1+1) (w.heap.size+1+1+1+1+1) (w.heap.size+1+1+1+1+1+1) _ _ (.slice none 0 0) _ _ _ (by omega) (by omega) (by omega) rfl rfl rfl
    ((Below.heap_setCell _ ⟨w.heap.size+1+1+1+1+1+1,0,none⟩ _ _ (by show w.heap.size+1+1+1+1≠w.heap.size+1+1+1+1+1+1;omega)).trans ((Below.heap_setCell _ ⟨w.heap.size+1+1+1+1+1,0,none⟩ _ _ (by show w.heap.size+1+1+1+1≠w.heap.size+1+1+1+1+1;omega)).trans hsy))
    ((Below.heap_setCell _ ⟨w.heap.size+1+1+1+1+1+1,0,none⟩ _ _ (by show w.heap.size+1+1+1+1+1≠w.heap.size+1+1+1+1+1+1;omega)).trans (heap_setCell_same wy (w.heap.size+1+1+1+1+1) 0 _ _ (.slice none 0 0) ky5))
    (heap_setCell_same (wy.setCell ⟨w.heap.size+1+1+1+1+1,0,none⟩ (.slice none 0 0)) (w.heap.size+1+1+1+1+1+1) 0 _ _ _ ((Below.heap_setCell _ ⟨w.heap.size+1+1+1+1+1,0,none⟩ _ _ (by show w.heap.size+1+1+1+1+1+1≠w.heap.size+1+1+1+1+1;omega)).trans ky6))
    (fun h=>absurd h HZ.out) (fun _ W' kk=>HEND.out _ ((Kx (Below.setCell (Below.setCell EY (p:=⟨w.heap.size+1+1+1+1+1,0,none⟩) (by show w.heap.size<=w.heap.size+1+1+1+1+1;omega) (.slice none 0 0)) (p:=⟨w.heap.size+1+1+1+1+1+1,0,none⟩) (by show w.heap.size<=w.heap.size+1+1+1+1+1+1;omega) _)).trans_fresh (S:=[]) kk (fun x hx=>by right;simp at hx;omega)).ext)
 | false=>
 refine (Zcs give _).mono ?_
 rintro e w' ⟨rfl,rfl⟩
 go_wp2_with fail
 cases q6:Xj n with
 | false=>
   refine (Zdk n _).mono ?_
   rintro e w' ⟨rfl,rfl⟩
   have HARG:=Lib.hid (show (Xl fr&&Xl to&&Ug get&&Ug give&& !(get==give)&&Xj n&&Xj most)=false by simp [q6])
   have HZ:=Lib.hid (show ¬(1:Int)=0 by decide)
   have HEND:=Lib.hid (show ∀W',Ext w W'->Yf r w (.returned (.tuple #[.agg #[.pointer none,.pointer none],.slice none 0 0,.int .i64 1])) W' from fun W' h=>Yf.bad (by rw [HR.out];exact Jj HARG.out) (by decide) h)
   clear HARG
   have ld:=run_loadVar_row (P:=Tryz.prog) _ (w.heap.size+1+1+1+1) _ 103 _ _ _ kz4 Tryz.underlying103 rfl (by kernel_rfl)
   go_wp2_with (first | (refine Zd rfl 103 _ _ _ rfl rfl ld ?_) | (refine Ze rfl rfl 103 _ _ rfl (w.heap.size+1+1+1+1) _ rfl rfl 103 _ kz4 (by kernel_rfl) (by rfl) (by rfl) ?_;intro wy hby hoy hsy;have ky5:=(hoy (w.heap.size+1+1+1+1+1) (by omega)).trans kz5;have ky6:=(hoy (w.heap.size+1+1+1+1+1+1) (by omega)).trans kz6;have cy5:=Za (j:=0) ky5 rfl;have cy6:=Za (j:=0) ky6 rfl;have fy5:=frozen_of_row wy _ 0 _ _ ky5;have fy6:=frozen_of_row wy _ 0 _ _ ky6))
   have EY:Ext w wy:=hby _ _ (by omega) EZ
   exact X0 _ (w.heap.size+1+1+1+1) (w.heap.size+1+1+1+1+1) (w.heap.size+1+1+1+1+1+1) _ _ (.slice none 0 0) _ _ _ (by omega) (by omega) (by omega) rfl rfl rfl
    ((Below.heap_setCell _ ⟨w.heap.size+1+1+1+1+1+1,0,none⟩ _ _ (by show w.heap.size+1+1+1+1≠w.heap.size+1+1+1+1+1+1;omega)).trans ((Below.heap_setCell _ ⟨w.heap.size+1+1+1+1+1,0,none⟩ _ _ (by show w.heap.size+1+1+1+1≠w.heap.size+1+1+1+1+1;omega)).trans hsy))
    ((Below.heap_setCell _ ⟨w.heap.size+1+1+1+1+1+1,0,none⟩ _ _ (by show w.heap.size+1+1+1+1+1≠w.heap.size+1+1+1+1+1+1;omega)).trans (heap_setCell_same wy (w.heap.size+1+1+1+1+1) 0 _ _ (.slice none 0 0) ky5))
    (heap_setCell_same (wy.setCell ⟨w.heap.size+1+1+1+1+1,0,none⟩ (.slice none 0 0)) (w.heap.size+1+1+1+1+1+1) 0 _ _ _ ((Below.heap_setCell _ ⟨w.heap.size+1+1+1+1+1,0,none⟩ _ _ (by show w.heap.size+1+1+1+1+1+1≠w.heap.size+1+1+1+1+1;omega)).trans ky6))
    (fun h=>absurd h HZ.out) (fun _ W' kk=>HEND.out _ ((Kx (Below.setCell (Below.setCell EY (p:=⟨w.heap.size+1+1+1+1+1,0,none⟩) (by show w.heap.size<=w.heap.size+1+1+1+1+1;omega) (.slice none 0 0)) (p:=⟨w.heap.size+1+1+1+1+1+1,0,none⟩) (by show w.heap.size<=w.heap.size+1+1+1+1+1+1;omega) _)).trans_fresh (S:=[]) kk (fun x hx=>by right;simp at hx;omega)).ext)
 | true=>
 refine (Zdk n _).mono ?_
 rintro e w' ⟨rfl,rfl⟩
 go_wp2_with fail
 cases q7:Xj most with
 | false=>
   refine (Zdk most _).mono ?_
   rintro e w' ⟨rfl,rfl⟩
   have HARG:=Lib.hid (show (Xl fr&&Xl to&&Ug get&&Ug give&& !(get==give)&&Xj n&&Xj most)=false by simp [q7])
   have HZ:=Lib.hid (show ¬(1:Int)=0 by decide)
   have HEND:=Lib.hid (show ∀W',Ext w W'->Yf r w (.returned (.tuple #[.agg #[.pointer none,.pointer none],.slice none 0 0,.int .i64 1])) W' from fun W' h=>Yf.bad (by rw [HR.out];exact Jj HARG.out) (by decide) h)
   clear HARG
   have ld:=run_loadVar_row (P:=Tryz.prog) _ (w.heap.size+1+1+1+1) _ 103 _ _ _ kz4 Tryz.underlying103 rfl (by kernel_rfl)
   go_wp2_with (first | (refine Zd rfl 103 _ _ _ rfl rfl ld ?_) | (refine Ze rfl rfl 103 _ _ rfl (w.heap.size+1+1+1+1) _ rfl rfl 103 _ kz4 (by kernel_rfl) (by rfl) (by rfl) ?_;intro wy hby hoy hsy;have ky5:=(hoy (w.heap.size+1+1+1+1+1) (by omega)).trans kz5;have ky6:=(hoy (w.heap.size+1+1+1+1+1+1) (by omega)).trans kz6;have cy5:=Za (j:=0) ky5 rfl;have cy6:=Za (j:=0) ky6 rfl;have fy5:=frozen_of_row wy _ 0 _ _ ky5;have fy6:=frozen_of_row wy _ 0 _ _ ky6))
   have EY:Ext w wy:=hby _ _ (by omega) EZ
   exact X0 _ (w.heap.size+1+1+1+1) (w.heap.size+1+1+1+1+1) (w.heap.size+1+1+1+1+1+1) _ _ (.slice none 0 0) _ _ _ (by omega) (by omega) (by omega) rfl rfl rfl
    ((Below.heap_setCell _ ⟨w.heap.size+1+1+1+1+1+1,0,none⟩ _ _ (by show w.heap.size+1+1+1+1≠w.heap.size+1+1+1+1+1+1;omega)).trans ((Below.heap_setCell _ ⟨w.heap.size+1+1+1+1+1,0,none⟩ _ _ (by show w.heap.size+1+1+1+1≠w.heap.size+1+1+1+1+1;omega)).trans hsy))
    ((Below.heap_setCell _ ⟨w.heap.size+1+1+1+1+1+1,0,none⟩ _ _ (by show w.heap.size+1+1+1+1+1≠w.heap.size+1+1+1+1+1+1;omega)).trans (heap_setCell_same wy (w.heap.size+1+1+1+1+1) 0 _ _ (.slice none 0 0) ky5))
    (heap_setCell_same (wy.setCell ⟨w.heap.size+1+1+1+1+1,0,none⟩ (.slice none 0 0)) (w.heap.size+1+1+1+1+1+1) 0 _ _ _ ((Below.heap_setCell _ ⟨w.heap.size+1+1+1+1+1,0,none⟩ _ _ (by show w.heap.size+1+1+1+1+1+1≠w.heap.size+1+1+1+1+1;omega)).trans ky6))
    (fun h=>absurd h HZ.out) (fun _ W' kk=>HEND.out _ ((Kx (Below.setCell (Below.setCell EY (p:=⟨w.heap.size+1+1+1+1+1,0,none⟩) (by show w.heap.size<=w.heap.size+1+1+1+1+1;omega) (.slice none 0 0)) (p:=⟨w.heap.size+1+1+1+1+1+1,0,none⟩) (by show w.heap.size<=w.heap.size+1+1+1+1+1+1;omega) _)).trans_fresh (S:=[]) kk (fun x hx=>by right;simp at hx;omega)).ext)
 | true=>
 refine (Zdk most _).mono ?_
 rintro e w' ⟨rfl,rfl⟩
 have HARG:=Lib.hid (show (Xl fr&&Xl to&&Ug get&&Ug give&& !(get==give)&&Xj n&&Xj most)=true by rw [q1,q2,q3,q4,q5,q6,q7];rfl)
 go_wp2_with fail
 cases q8:Yp L fr with
 | false=>
   refine (Zaw p m L fr _ hL).mono ?_
   rintro e w9 ⟨rfl,e9⟩
   rw [q8]
   have HHAS:=Lib.hid (show (Yp L fr&&Yp L to)=false by rw [q8];rfl)
   replace kz0:=e9.at kz0
   replace kz1:=e9.at kz1
   replace kz2:=e9.at kz2
   replace kz3:=e9.at kz3
   replace kz4:=e9.at kz4
   replace kz5:=e9.at kz5
   replace kz6:=e9.at kz6
   replace EZ:=Xt EZ e9
   replace hL:=hL.ext e9
   replace hL3:=hL3.ext e9
   replace hB3:=hB3.ext e9
   clear z0 cz1 cz2 cz3 e9
   have z0:=Za (j:=0) kz0 rfl
   have cz1:=Za (j:=0) kz1 rfl
   have cz2:=Za (j:=0) kz2 rfl
   have cz3:=Za (j:=0) kz3 rfl
   have HZ:=Lib.hid (show ¬(7:Int)=0 by decide)
   have HEND:=Lib.hid (show ∀W',Ext w W'->Yf r w (.returned (.tuple #[.agg #[.pointer none,.pointer none],.slice none 0 0,.int .i64 7])) W' from fun W' h=>Yf.bad (by rw [HR.out];exact Zib HARG.out HHAS.out) (by decide) h)
   clear HARG HHAS
   have ld:=run_loadVar_row (P:=Tryz.prog) _ (w.heap.size+1+1+1+1) _ 103 _ _ _ kz4 Tryz.underlying103 rfl (by kernel_rfl)
   go_wp2_with (first | (refine Zd rfl 103 _ _ _ rfl rfl ld ?_) | (refine Ze rfl rfl 103 _ _ rfl (w.heap.size+1+1+1+1) _ rfl rfl 103 _ kz4 (by kernel_rfl) (by rfl) (by rfl) ?_;intro wy hby hoy hsy;have ky5:=(hoy (w.heap.size+1+1+1+1+1) (by omega)).trans kz5;have ky6:=(hoy (w.heap.size+1+1+1+1+1+1) (by omega)).trans kz6;have cy5:=Za (j:=0) ky5 rfl;have cy6:=Za (j:=0) ky6 rfl;have fy5:=frozen_of_row wy _ 0 _ _ ky5;have fy6:=frozen_of_row wy _ 0 _ _ ky6))
   have EY:Ext w wy:=hby _ _ (by omega) EZ
   exact X0 _ (w.heap.size+1+1+1+1) (w.heap.size+1+1+1+1+1) (w.heap.size+1+1+1+1+1+1) _ _ (.slice none 0 0) _ _ _ (by omega) (by omega) (by omega) rfl rfl rfl
    ((Below.heap_setCell _ ⟨w.heap.size+1+1+1+1+1+1,0,none⟩ _ _ (by show w.heap.size+1+1+1+1≠w.heap.size+1+1+1+1+1+1;omega)).trans ((Below.heap_setCell _ ⟨w.heap.size+1+1+1+1+1,0,none⟩ _ _ (by show w.heap.size+1+1+1+1≠w.heap.size+1+1+1+1+1;omega)).trans hsy))
    ((Below.heap_setCell _ ⟨w.heap.size+1+1+1+1+1+1,0,none⟩ _ _ (by show w.heap.size+1+1+1+1+1≠w.heap.size+1+1+1+1+1+1;omega)).trans (heap_setCell_same wy (w.heap.size+1+1+1+1+1) 0 _ _ (.slice none 0 0) ky5))
    (heap_setCell_same (wy.setCell ⟨w.heap.size+1+1+1+1+1,0,none⟩ (.slice none 0 0)) (w.heap.size+1+1+1+1+1+1) 0 _ _ _ ((Below.heap_setCell _ ⟨w.heap.size+1+1+1+1+1,0,none⟩ _ _ (by show w.heap.size+1+1+1+1+1+1≠w.heap.size+1+1+1+1+1;omega)).trans ky6))
    (fun h=>absurd h HZ.out) (fun _ W' kk=>HEND.out _ ((Kx (Below.setCell (Below.setCell EY (p:=⟨w.heap.size+1+1+1+1+1,0,none⟩) (by show w.heap.size<=w.heap.size+1+1+1+1+1;omega) (.slice none 0 0)) (p:=⟨w.heap.size+1+1+1+1+1+1,0,none⟩) (by show w.heap.size<=w.heap.size+1+1+1+1+1+1;omega) _)).trans_fresh (S:=[]) kk (fun x hx=>by right;simp at hx;omega)).ext)
 | true=>
 refine (Zaw p m L fr _ hL).mono ?_
 rintro e w9 ⟨rfl,e9⟩
 rw [q8]
 replace kz0:=e9.at kz0
 replace kz1:=e9.at kz1
 replace kz2:=e9.at kz2
 replace kz3:=e9.at kz3
 replace kz4:=e9.at kz4
 replace kz5:=e9.at kz5
 replace kz6:=e9.at kz6
 replace EZ:=Xt EZ e9
 replace hL:=hL.ext e9
 replace hL3:=hL3.ext e9
 replace hB3:=hB3.ext e9
 clear z0 cz1 cz2 cz3 e9
 have z0:=Za (j:=0) kz0 rfl
 have cz1:=Za (j:=0) kz1 rfl
 have cz2:=Za (j:=0) kz2 rfl
 have cz3:=Za (j:=0) kz3 rfl
 go_wp2_with fail
 cases q9:Yp L to with
 | false=>
   refine (Zaw p m L to _ hL).mono ?_
   rintro e w9 ⟨rfl,e9⟩
   rw [q9]
   have HHAS:=Lib.hid (show (Yp L fr&&Yp L to)=false by rw [q8,q9];rfl)
   replace kz0:=e9.at kz0
   replace kz1:=e9.at kz1
   replace kz2:=e9.at kz2
   replace kz3:=e9.at kz3
   replace kz4:=e9.at kz4
   replace kz5:=e9.at kz5
   replace kz6:=e9.at kz6
   replace EZ:=Xt EZ e9
   replace hL:=hL.ext e9
   replace hL3:=hL3.ext e9
   replace hB3:=hB3.ext e9
   clear z0 cz1 cz2 cz3 e9
   have z0:=Za (j:=0) kz0 rfl
   have cz1:=Za (j:=0) kz1 rfl
   have cz2:=Za (j:=0) kz2 rfl
   have cz3:=Za (j:=0) kz3 rfl
   have HZ:=Lib.hid (show ¬(7:Int)=0 by decide)
   have HEND:=Lib.hid (show ∀W',Ext w W'->Yf r w (.returned (.tuple #[.agg #[.pointer none,.pointer none],.slice none 0 0,.int .i64 7])) W' from fun W' h=>Yf.bad (by rw [HR.out];exact Zib HARG.out HHAS.out) (by decide) h)
   clear HARG HHAS
   have ld:=run_loadVar_row (P:=Tryz.prog) _ (w.heap.size+1+1+1+1) _ 103 _ _ _ kz4 Tryz.underlying103 rfl (by kernel_rfl)
   go_wp2_with (first | (refine Zd rfl 103 _ _ _ rfl rfl ld ?_) | (refine Ze rfl rfl 103 _ _ rfl (w.heap.size+1+1+1+1) _ rfl rfl 103 _ kz4 (by kernel_rfl) (by rfl) (by rfl) ?_;intro wy hby hoy hsy;have ky5:=(hoy (w.heap.size+1+1+1+1+1) (by omega)).trans kz5;have ky6:=(hoy (w.heap.size+1+1+1+1+1+1) (by omega)).trans kz6;have cy5:=Za (j:=0) ky5 rfl;have cy6:=Za (j:=0) ky6 rfl;have fy5:=frozen_of_row wy _ 0 _ _ ky5;have fy6:=frozen_of_row wy _ 0 _ _ ky6))
   have EY:Ext w wy:=hby _ _ (by omega) EZ
   exact X0 _ (w.heap.size+1+1+1+1) (w.heap.size+1+1+1+1+1) (w.heap.size+1+1+1+1+1+1) _ _ (.slice none 0 0) _ _ _ (by omega) (by omega) (by omega) rfl rfl rfl
    ((Below.heap_setCell _ ⟨w.heap.size+1+1+1+1+1+1,0,none⟩ _ _ (by show w.heap.size+1+1+1+1≠w.heap.size+1+1+1+1+1+1;omega)).trans ((Below.heap_setCell _ ⟨w.heap.size+1+1+1+1+1,0,none⟩ _ _ (by show w.heap.size+1+1+1+1≠w.heap.size+1+1+1+1+1;omega)).trans hsy))
    ((Below.heap_setCell _ ⟨w.heap.size+1+1+1+1+1+1,0,none⟩ _ _ (by show w.heap.size+1+1+1+1+1≠w.heap.size+1+1+1+1+1+1;omega)).trans (heap_setCell_same wy (w.heap.size+1+1+1+1+1) 0 _ _ (.slice none 0 0) ky5))
    (heap_setCell_same (wy.setCell ⟨w.heap.size+1+1+1+1+1,0,none⟩ (.slice none 0 0)) (w.heap.size+1+1+1+1+1+1) 0 _ _ _ ((Below.heap_setCell _ ⟨w.heap.size+1+1+1+1+1,0,none⟩ _ _ (by show w.heap.size+1+1+1+1+1+1≠w.heap.size+1+1+1+1+1;omega)).trans ky6))
    (fun h=>absurd h HZ.out) (fun _ W' kk=>HEND.out _ ((Kx (Below.setCell (Below.setCell EY (p:=⟨w.heap.size+1+1+1+1+1,0,none⟩) (by show w.heap.size<=w.heap.size+1+1+1+1+1;omega) (.slice none 0 0)) (p:=⟨w.heap.size+1+1+1+1+1+1,0,none⟩) (by show w.heap.size<=w.heap.size+1+1+1+1+1+1;omega) _)).trans_fresh (S:=[]) kk (fun x hx=>by right;simp at hx;omega)).ext)
 | true=>
 refine (Zaw p m L to _ hL).mono ?_
 rintro e w9 ⟨rfl,e9⟩
 rw [q9]
 replace kz0:=e9.at kz0
 replace kz1:=e9.at kz1
 replace kz2:=e9.at kz2
 replace kz3:=e9.at kz3
 replace kz4:=e9.at kz4
 replace kz5:=e9.at kz5
 replace kz6:=e9.at kz6
 replace EZ:=Xt EZ e9
 replace hL:=hL.ext e9
 replace hL3:=hL3.ext e9
 replace hB3:=hB3.ext e9
 clear z0 cz1 cz2 cz3 e9
 have z0:=Za (j:=0) kz0 rfl
 have cz1:=Za (j:=0) kz1 rfl
 have cz2:=Za (j:=0) kz2 rfl
 have cz3:=Za (j:=0) kz3 rfl
 obtain ⟨r0,hr0⟩:∃r0,Y6 fr to get give 65 L B n []=r0:=⟨_,rfl⟩
 have HSW:=Lib.hid (show _ from by have:=swapR_go (L:=L) (B:=B) (most:=most) HARG.out (by rw [q8,q9];rfl) hr0;rw [<-HR.out] at this;exact this)
 have HS0:=Lib.hid (show SI w fr to get give r0 p3 m3 pb3 g3 L B n [] (.slice none 0 0) _ from ⟨⟨kz1,kz2,kz3,kz4,kz5,kz6⟩,hL3,hB3,World.ownsRow_nil _ _ _ _,hwf,hok,hsn,hn,by simp,hp3,hm3,hpb3,hg3,EZ,hr0⟩)
 clear HR HARG q1 q2 q3 q4 q5 q6 q7 q8 q9 hr0 kz0 kz1 kz2 kz3 kz4 kz5 kz6 z0 cz1 cz2 cz3 EZ hL hL3 hB3 hp3 hm3 hpb3 hg3 hwf hok hsn hn
 go_wp2_with fail
 go_loopw [17] (fun _ wr=>∃p m pb g L B n all av,SI w fr to get give r0 p m pb g L B n all av wr) (fun _ wr=>65-Zee wr (w.heap.size+1+1+1+1+1))
 case atStart=>exact ⟨_,_,_,_,_,_,_,_,_,HS0.out⟩
 obtain ⟨p,m,pb,g,L,B,n,all,av,hI⟩:=hrel
 obtain ⟨ao,acap,hav⟩:=Yd hI.own
 subst hav
 have HLEN:=Lib.hid (show Zee wr (w.heap.size+1+1+1+1+1)=all.length by
  unfold Zee
  rw [Za (j:=0) hI.row.k5 rfl]
  rfl)
 have c3:=Za (j:=0) hI.row.k3 rfl
 by_cases hn:n<=0
 ·have hl':decide (0<n)=false:=by simp;omega
  have hfin:r0=(0,L,B,n,all):=by
   have h65:65-all.length=(64-all.length)+1:=by have:=hI.ha;omega
   rw [<-hI.on,h65]
   unfold Y6
   rw [if_pos hn]
  subst hfin
  have c5:=Za (j:=0) hI.row.k5 rfl
  have HI:=Lib.hid hI
  clear hI HS0
  go_wp2_with fail
  refine (Zbc (w.heap.size+1+1+1+1+1+1+1) _ all wr HI.out.ha (Zs.of_own HI.out.own)).mono ?_
  rintro e w2 ⟨rfl,e2⟩
  have HI:=Lib.hid (HI.out.ext e2)
  clear c3 c5
  by_cases hq:most<V8 all
  ·have hq':decide (most<V8 all)=true:=by simpa using hq
   have hr12:r.1=12:=HSW.out.2.1 (by first | trivial | rfl) hq
   have HZ:=Lib.hid (show ¬(12:Int)=0 by decide)
   have HEND:=Lib.hid (show ∀W',Ext w W'->Yf r w (.returned (.tuple #[.agg #[.pointer none,.pointer none],.slice none 0 0,.int .i64 12])) W' from fun W' h=>Yf.bad hr12 (by decide) h)
   clear HSW hq hr12
   generalize V8 all=gv at *
   go_wp2_with fail
   have k4:=HI.out.row.k4
   have k5:=HI.out.row.k5
   have k6:=HI.out.row.k6
   have EZ:=HI.out.ex
   clear HI
   refine RgK.Zf [w.heap.size+1+1+1+1] Zk 3 [0,2] (by kernel_rfl) (by kernel_rfl) (by kernel_rfl) ?_
   intro w1 hw1
   have d5:∀q:KeepOf [w.heap.size+1+1+1+1] w1,q.to.cell? ⟨w.heap.size+1+1+1+1+1,0,none⟩=some (.slice ao all.length acap):=fun q=>Za (j:=0) ((hw1.trans q.h).at k5 (by simp)) rfl
   simp only [Zj,Rg.hsB,Nat.reduceBEq,Nat.reduceAdd,↓reduceIte]
   repeat (go_big_quiet_step (fail))
   refine wpQuiet_nil ?_
   intro hx1
   clear d5
   refine RgK.Zh3 0 _ 103 _ _ ⟨w.heap.size+1+1+1+1,0,none⟩ rfl rfl (by kernel_rfl) (by decide) rfl (by rfl) (fun w' hw'=>run_loadVar_row w' (w.heap.size+1+1+1+1) _ _ _ _ _ (hw'.at (hx1.at k4)) Tryz.underlying103 rfl (by kernel_rfl)) ?_
   intro wq h0q hq
   refine RgK.Zy 2 _ 103 _ _ rfl rfl rfl (by kernel_rfl) (by decide) rfl (w.heap.size+1+1+1+1) #[.pointer (some ⟨p,0,none⟩),.pointer (some ⟨pb,0,none⟩)] (by kernel_rfl) (by kernel_rfl) 103 _ (by kernel_rfl) (by rfl) (by rfl) (hq.at (hx1.at k4)) (Or.inl (by simp)) ?_
   intro wd h0d kd hsd
   refine RgK.Zi (by kernel_rfl) ?_
   intro wy ey ey'
   simp only [Act.put,Rg.puB]
   have ky4:=ey'.at hsd
   have ky5:=ey'.at (kd.at (hq.at (hx1.at k5)) (by first | (simp;done) | (simp;omega)))
   have ky6:=ey'.at (kd.at (hq.at (hx1.at k6)) (by first | (simp;done) | (simp;omega)))
   have cy5:=Za (j:=0) ky5 rfl
   have cy6:=Za (j:=0) ky6 rfl
   have fy5:=frozen_of_row wy _ 0 _ _ ky5
   have fy6:=frozen_of_row wy _ 0 _ _ ky6
   have EY:Ext w wy:=Xt (Keep.trans_fresh (S:=[]) (Kx (Xt EZ (Xt hx1 hq))) kd (fun x hx=>by right;simp at hx;omega)).ext ey'
   clear hw1 h0q hq h0d kd hsd ey ey' hx1
   go_wp2
   exact X0 _ (w.heap.size+1+1+1+1) (w.heap.size+1+1+1+1+1) (w.heap.size+1+1+1+1+1+1) _ _ _ _ _ _ (by omega) (by omega) (by omega) rfl rfl rfl
    ((Below.heap_setCell _ ⟨w.heap.size+1+1+1+1+1+1,0,none⟩ _ _ (by show w.heap.size+1+1+1+1≠w.heap.size+1+1+1+1+1+1;omega)).trans ((Below.heap_setCell _ ⟨w.heap.size+1+1+1+1+1,0,none⟩ _ _ (by show w.heap.size+1+1+1+1≠w.heap.size+1+1+1+1+1;omega)).trans ky4))
    ((Below.heap_setCell _ ⟨w.heap.size+1+1+1+1+1+1,0,none⟩ _ _ (by show w.heap.size+1+1+1+1+1≠w.heap.size+1+1+1+1+1+1;omega)).trans (heap_setCell_same wy (w.heap.size+1+1+1+1+1) 0 _ _ _ ky5))
    (heap_setCell_same (wy.setCell ⟨w.heap.size+1+1+1+1+1,0,none⟩ _) (w.heap.size+1+1+1+1+1+1) 0 _ _ _ ((Below.heap_setCell _ ⟨w.heap.size+1+1+1+1+1,0,none⟩ _ _ (by show w.heap.size+1+1+1+1+1+1≠w.heap.size+1+1+1+1+1;omega)).trans ky6))
    (fun h=>absurd h HZ.out) (fun _ W' kk=>HEND.out _ ((Kx (Below.setCell (Below.setCell EY (p:=⟨w.heap.size+1+1+1+1+1,0,none⟩) (by show w.heap.size<=w.heap.size+1+1+1+1+1;omega) _) (p:=⟨w.heap.size+1+1+1+1+1+1,0,none⟩) (by show w.heap.size<=w.heap.size+1+1+1+1+1+1;omega) _)).trans_fresh (S:=[]) kk (fun x hx=>by right;simp at hx;omega)).ext)
  have hq':decide (most<V8 all)=false:=by simpa using hq
  have hrr:r=(0,L,B,all):=HSW.out.2.2 (by first | trivial | rfl) (by first | exact hq | omega)
  have HRR:=Lib.hid hrr
  clear HSW hq hrr
  generalize V8 all=gv at *
  go_wp2_with fail
  refine Zf Zk 3 [] (by kernel_rfl) (by kernel_rfl) ?_
  intro w1 hw1
  have k4:=HI.out.row.k4
  have k5:=HI.out.row.k5
  have d5:=fun u:ExtOf w1=>Za (j:=0) ((Xt hw1 u.h).at k5) rfl
  have hcl:∀u:ExtOf w1,Calls Tryz.prog 180 #[.slice ao all.length acap] u.to (Ret (.slice ao all.length all.length) u.to):=fun u=>clipS_any (w.heap.size+1+1+1+1+1+1+1) _ _ _ _ _ (Zs.of_own (Zt HI.out.own (Xt hw1 u.h)))
  have ld:∀w',(∃u:ExtOf w1,w'=u.to)->(loadVar 103 ⟨w.heap.size+1+1+1+1,0,none⟩).run Tryz.prog w'= .ok (.agg #[.pointer (some ⟨p,0,none⟩),.pointer (some ⟨pb,0,none⟩)]) w':=by
   rintro _ ⟨u,rfl⟩
   exact run_loadVar_row u.to (w.heap.size+1+1+1+1) _ _ _ _ _ ((Xt hw1 u.h).at k4) Tryz.underlying103 rfl (by kernel_rfl)
  simp only [Zj,Rg.hsB,Nat.reduceAdd,↓reduceIte]
  repeat (first | go_big_quiet_step ((go_at_call 180;exact Ret.cls (hcl _))) | (go_big_quiet_want;refine Zq 103 _ _ _ rfl rfl ld ?_;go_big_quiet_on;simp only [Act.put,Rg.puB]))
  refine wpQuiet_nil ?_
  refine Zi (by kernel_rfl) ?_
  intro wt et et'
  simp only [Rg.puB]
  have HI:=Lib.hid (HI.out.ext et)
  clear d5 hcl ld k4 k5 hw1 et et'
  have k4:=HI.out.row.k4
  have k5:=HI.out.row.k5
  have k6:=HI.out.row.k6
  have EZ:=HI.out.ex
  have hLt:=HI.out.led
  have hBt:=HI.out.book
  have hown:=HI.out.own
  have hp7:=HI.out.hp
  have hm7:=HI.out.hm
  have hb7:=HI.out.hb
  have hg7:=HI.out.hg
  clear HI
  go_wp2_with (refine Ze rfl rfl 103 _ _ rfl (w.heap.size+1+1+1+1) _ rfl rfl 103 _ k4 (by kernel_rfl) (by rfl) (by rfl) ?_;intro wy hby hoy hsy;have ky5:=(hoy (w.heap.size+1+1+1+1+1) (by omega)).trans k5;have ky6:=(hoy (w.heap.size+1+1+1+1+1+1) (by omega)).trans k6;have cy5:=Za (j:=0) ky5 rfl;have cy6:=Za (j:=0) ky6 rfl;have fy5:=frozen_of_row wy _ 0 _ _ ky5;have fy6:=frozen_of_row wy _ 0 _ _ ky6)
  have EY:Ext w wy:=hby _ _ (by omega) EZ
  have kzw:Keep [w.heap.size+1+1+1+1] wt wy:=by
   have hbb:=hby 0 wt (Nat.zero_le _) (Below.refl _ _)
   exact ⟨hbb.os,hbb.tape,hbb.output,hbb.size,fun i hi hn=>hoy i (by simpa using hn)⟩
  have kF:Keep [w.heap.size+1+1+1+1,w.heap.size+1+1+1+1+1,w.heap.size+1+1+1+1+1+1] wt ((wy.setCell ⟨w.heap.size+1+1+1+1+1,0,none⟩ (.slice ao all.length all.length)).setCell ⟨w.heap.size+1+1+1+1+1+1,0,none⟩ (.int .i64 0)):=((kzw.mono (by intro x hx;simp at hx ⊢;omega)).setCell (Or.inl (by simp)) _).setCell (Or.inl (by simp)) _
  have hq4:=fun q hq=>(hown.lt q hq).1
  refine X0 _ (w.heap.size+1+1+1+1) (w.heap.size+1+1+1+1+1) (w.heap.size+1+1+1+1+1+1) _ _ (.slice ao all.length all.length) 0 _ _ (by omega) (by omega) (by omega) rfl rfl rfl
   ((Below.heap_setCell _ ⟨w.heap.size+1+1+1+1+1+1,0,none⟩ _ _ (by show w.heap.size+1+1+1+1≠w.heap.size+1+1+1+1+1+1;omega)).trans ((Below.heap_setCell _ ⟨w.heap.size+1+1+1+1+1,0,none⟩ _ _ (by show w.heap.size+1+1+1+1≠w.heap.size+1+1+1+1+1;omega)).trans hsy))
   ((Below.heap_setCell _ ⟨w.heap.size+1+1+1+1+1+1,0,none⟩ _ _ (by show w.heap.size+1+1+1+1+1≠w.heap.size+1+1+1+1+1+1;omega)).trans (heap_setCell_same wy (w.heap.size+1+1+1+1+1) 0 _ _ _ ky5))
   (heap_setCell_same (wy.setCell ⟨w.heap.size+1+1+1+1+1,0,none⟩ _) (w.heap.size+1+1+1+1+1+1) 0 _ _ _ ((Below.heap_setCell _ ⟨w.heap.size+1+1+1+1+1,0,none⟩ _ _ (by show w.heap.size+1+1+1+1+1+1≠w.heap.size+1+1+1+1+1;omega)).trans ky6))
   (fun _=> ?_) (fun h=>absurd rfl h)
  rw [HRR.out]
  refine ⟨_,_,rfl,Below.setCell (Below.setCell EY (p:=⟨w.heap.size+1+1+1+1+1,0,none⟩) (by show w.heap.size<=w.heap.size+1+1+1+1+1;omega) _) (p:=⟨w.heap.size+1+1+1+1+1+1,0,none⟩) (by show w.heap.size<=w.heap.size+1+1+1+1+1+1;omega) _,fun h=>absurd rfl h,fun _=>⟨p,m,pb,g,rfl,hLt.keep kF (by simp;omega) (by simp;omega),hBt.keep kF (by simp;omega) (fun x hx=>by have:=hg7 x hx;simp;omega),?_,by omega,by omega,by omega,fun x hx=>by have:=hg7 x hx;omega⟩⟩
  exact Zs.clip (Zs.low (Zs.of_own (Zad hown kF (fun q hq=>by have:=hq4 q hq;simp;omega))) (by omega))
 have hl':decide (0<n)=true:=by simp;omega
 have hon:=hI.on
 have h65:65-all.length=(64-all.length)+1:=by have:=hI.ha;omega
 rw [h65] at hon
 unfold Y6 at hon
 rw [if_neg hn] at hon
 have HON:=Lib.hid hon
 have c41:=Za (j:=1) hI.row.k4 rfl
 have HMS:=Lib.hid (show ∀x∈m::pb::g.toList,x<wr.heap.size from fun x hx=>by
  rcases List.mem_cons.1 hx with rfl | hx
  ·exact hI.led.ltm
  rcases List.mem_cons.1 hx with rfl | hx
  ·exact hI.book.ltp
  exact hI.book.ltg x (by simpa using hx))
 have HI:=Lib.hid hI
 clear hI hon HS0
 go_wp2_with fail
 refine (Zou pb g B get give _ HI.out.book HI.out.ok HI.out.sn.b).mono ?_
 rintro e wb ⟨v,rfl,e2,hownb⟩
 have HI:=Lib.hid (HI.out.ext e2)
 clear c3 c41
 obtain ⟨F,hFd⟩:∃F:Off->Bool,F=fun o=>decide (0<Y1 L B o.seq fr to n 1099511627776):=⟨_,rfl⟩
 have HFD:=Lib.hid hFd
 have hfl:Zdh L B fr to get give n=(Vp B.offs get give).find? F:=by rw [hFd];rfl
 have HFL:=Lib.hid hfl
 have hbl:(Vp B.offs get give).length<=9223372036854775807:=by have:=hownb.1;obtain ⟨_,_,_,h1,h2,_⟩:=Zs.of_own hownb;unfold maxLen at h2;omega
 have hsl:=Zs.of_own hownb
 clear hfl hownb
 generalize Vp B.offs get give=l at *
 have hix:=Zpd wr.heap.size (w.heap.size+1) (w.heap.size+1+1) (w.heap.size+1+1+1) (w.heap.size+1+1+1+1) v l F wb hsl (fun w' o k=>by
  rw [hFd]
  exact sclo_any (w.heap.size+1) (w.heap.size+1+1) (w.heap.size+1+1+1) (w.heap.size+1+1+1+1) p m pb g L B o fr to n w' (HI.out.ext k).led HI.out.wf (HI.out.ext k).book HI.out.ok (HI.out.ext k).row.k1 (HI.out.ext k).row.k2 (HI.out.ext k).row.k3 (HI.out.ext k).row.k4)
 have HSL:=Lib.hid hsl
 obtain ⟨bA,bcap,hv,_⟩:=hsl
 subst hv
 clear hFd
 go_wp2_with fail
 refine hix.mono ?_
 rintro e w2 ⟨rfl,e3⟩
 have HI:=Lib.hid (HI.out.ext e3)
 have HSL:=Lib.hid (HSL.out.ext e3)
 clear hix
 have hsp:=Zkz F l 0
 generalize Zl4 F l 0=ix at *
 rcases hsp with ⟨hi1,hi2⟩ | ⟨j,hj,hi1,hi2⟩
 ·subst hi1
  have hr0:r0=(11,L,B,n,all):=by
   have:=HON.out
   rw [HFL.out,hi2] at this
   exact this.symm
  have hr11:r.1=11:=by have:=HSW.out.1;rw [hr0] at this;exact this (by simp)
  have HZ:=Lib.hid (show ¬(11:Int)=0 by decide)
  have HEND:=Lib.hid (show ∀W',Ext w W'->Yf r w (.returned (.tuple #[.agg #[.pointer none,.pointer none],.slice none 0 0,.int .i64 11])) W' from fun W' h=>Yf.bad hr11 (by decide) h)
  clear HSW HON HFL HSL hi2 hr0 hr11
  go_wp2_with fail
  have k4:=HI.out.row.k4
  have k5:=HI.out.row.k5
  have k6:=HI.out.row.k6
  have EZ:=HI.out.ex
  clear HI
  refine RgK.Zf [w.heap.size+1+1+1+1] Zk 3 [0,2] (by kernel_rfl) (by kernel_rfl) (by kernel_rfl) ?_
  intro w1 hw1
  have d5:∀q:KeepOf [w.heap.size+1+1+1+1] w1,q.to.cell? ⟨w.heap.size+1+1+1+1+1,0,none⟩=some (.slice ao all.length acap):=fun q=>Za (j:=0) ((hw1.trans q.h).at k5 (by simp)) rfl
  simp only [Zj,Rg.hsB,Nat.reduceBEq,Nat.reduceAdd,↓reduceIte]
  repeat (go_big_quiet_step (fail))
  refine wpQuiet_nil ?_
  intro hx1
  clear d5
  refine RgK.Zh3 0 _ 103 _ _ ⟨w.heap.size+1+1+1+1,0,none⟩ rfl rfl (by kernel_rfl) (by decide) rfl (by rfl) (fun w' hw'=>run_loadVar_row w' (w.heap.size+1+1+1+1) _ _ _ _ _ (hw'.at (hx1.at k4)) Tryz.underlying103 rfl (by kernel_rfl)) ?_
  intro wq h0q hq
  refine RgK.Zy 2 _ 103 _ _ rfl rfl rfl (by kernel_rfl) (by decide) rfl (w.heap.size+1+1+1+1) #[.pointer (some ⟨p,0,none⟩),.pointer (some ⟨pb,0,none⟩)] (by kernel_rfl) (by kernel_rfl) 103 _ (by kernel_rfl) (by rfl) (by rfl) (hq.at (hx1.at k4)) (Or.inl (by simp)) ?_
  intro wd h0d kd hsd
  refine RgK.Zi (by kernel_rfl) ?_
  intro wy ey ey'
  simp only [Act.put,Rg.puB]
  have ky4:=ey'.at hsd
  have ky5:=ey'.at (kd.at (hq.at (hx1.at k5)) (by first | (simp;done) | (simp;omega)))
  have ky6:=ey'.at (kd.at (hq.at (hx1.at k6)) (by first | (simp;done) | (simp;omega)))
  have cy5:=Za (j:=0) ky5 rfl
  have cy6:=Za (j:=0) ky6 rfl
  have fy5:=frozen_of_row wy _ 0 _ _ ky5
  have fy6:=frozen_of_row wy _ 0 _ _ ky6
  have EY:Ext w wy:=Xt (Keep.trans_fresh (S:=[]) (Kx (Xt EZ (Xt hx1 hq))) kd (fun x hx=>by right;simp at hx;omega)).ext ey'
  clear hw1 h0q hq h0d kd hsd ey ey' hx1
  go_wp2
  exact X0 _ (w.heap.size+1+1+1+1) (w.heap.size+1+1+1+1+1) (w.heap.size+1+1+1+1+1+1) _ _ _ _ _ _ (by omega) (by omega) (by omega) rfl rfl rfl
   ((Below.heap_setCell _ ⟨w.heap.size+1+1+1+1+1+1,0,none⟩ _ _ (by show w.heap.size+1+1+1+1≠w.heap.size+1+1+1+1+1+1;omega)).trans ((Below.heap_setCell _ ⟨w.heap.size+1+1+1+1+1,0,none⟩ _ _ (by show w.heap.size+1+1+1+1≠w.heap.size+1+1+1+1+1;omega)).trans ky4))
   ((Below.heap_setCell _ ⟨w.heap.size+1+1+1+1+1+1,0,none⟩ _ _ (by show w.heap.size+1+1+1+1+1≠w.heap.size+1+1+1+1+1+1;omega)).trans (heap_setCell_same wy (w.heap.size+1+1+1+1+1) 0 _ _ _ ky5))
   (heap_setCell_same (wy.setCell ⟨w.heap.size+1+1+1+1+1,0,none⟩ _) (w.heap.size+1+1+1+1+1+1) 0 _ _ _ ((Below.heap_setCell _ ⟨w.heap.size+1+1+1+1+1,0,none⟩ _ _ (by show w.heap.size+1+1+1+1+1+1≠w.heap.size+1+1+1+1+1;omega)).trans ky6))
   (fun h=>absurd h HZ.out) (fun _ W' kk=>HEND.out _ ((Kx (Below.setCell (Below.setCell EY (p:=⟨w.heap.size+1+1+1+1+1,0,none⟩) (by show w.heap.size<=w.heap.size+1+1+1+1+1;omega) _) (p:=⟨w.heap.size+1+1+1+1+1+1,0,none⟩) (by show w.heap.size<=w.heap.size+1+1+1+1+1+1;omega) _)).trans_fresh (S:=[]) kk (fun x hx=>by right;simp at hx;omega)).ext)
 rw [Nat.zero_add] at hi1
 subst hi1
 have hj0:decide ((j:Int)<0)=false:=by first | (simp;done) | (simp;omega)
 have c5:=Za (j:=0) HI.out.row.k5 rfl
 have hon:=HON.out
 rw [HFL.out,hi2] at hon
 simp only at hon
 by_cases h64:all.length=64
 ·have h64':((all.length:Int)==64)=true:=by rw [h64];rfl
  have hr0:r0=(13,L,B,n,all):=by
   rw [if_pos h64] at hon
   exact hon.symm
  have hr13:r.1=13:=by have:=HSW.out.1;rw [hr0] at this;exact this (by simp)
  have HZ:=Lib.hid (show ¬(13:Int)=0 by decide)
  have HEND:=Lib.hid (show ∀W',Ext w W'->Yf r w (.returned (.tuple #[.agg #[.pointer none,.pointer none],.slice none 0 0,.int .i64 13])) W' from fun W' h=>Yf.bad hr13 (by decide) h)
  clear HSW HON HFL HSL hi2 hr0 hr13 hon h64
  go_wp2_with fail
  clear c5
  have k4:=HI.out.row.k4
  have k5:=HI.out.row.k5
  have k6:=HI.out.row.k6
  have EZ:=HI.out.ex
  clear HI
  refine RgK.Zf [w.heap.size+1+1+1+1] Zk 3 [0,2] (by kernel_rfl) (by kernel_rfl) (by kernel_rfl) ?_
  intro w1 hw1
  have d5:∀q:KeepOf [w.heap.size+1+1+1+1] w1,q.to.cell? ⟨w.heap.size+1+1+1+1+1,0,none⟩=some (.slice ao all.length acap):=fun q=>Za (j:=0) ((hw1.trans q.h).at k5 (by simp)) rfl
  simp only [Zj,Rg.hsB,Nat.reduceBEq,Nat.reduceAdd,↓reduceIte]
  repeat (go_big_quiet_step (fail))
  refine wpQuiet_nil ?_
  intro hx1
  clear d5
  refine RgK.Zh3 0 _ 103 _ _ ⟨w.heap.size+1+1+1+1,0,none⟩ rfl rfl (by kernel_rfl) (by decide) rfl (by rfl) (fun w' hw'=>run_loadVar_row w' (w.heap.size+1+1+1+1) _ _ _ _ _ (hw'.at (hx1.at k4)) Tryz.underlying103 rfl (by kernel_rfl)) ?_
  intro wq h0q hq
  refine RgK.Zy 2 _ 103 _ _ rfl rfl rfl (by kernel_rfl) (by decide) rfl (w.heap.size+1+1+1+1) #[.pointer (some ⟨p,0,none⟩),.pointer (some ⟨pb,0,none⟩)] (by kernel_rfl) (by kernel_rfl) 103 _ (by kernel_rfl) (by rfl) (by rfl) (hq.at (hx1.at k4)) (Or.inl (by simp)) ?_
  intro wd h0d kd hsd
  refine RgK.Zi (by kernel_rfl) ?_
  intro wy ey ey'
  simp only [Act.put,Rg.puB]
  have ky4:=ey'.at hsd
  have ky5:=ey'.at (kd.at (hq.at (hx1.at k5)) (by first | (simp;done) | (simp;omega)))
  have ky6:=ey'.at (kd.at (hq.at (hx1.at k6)) (by first | (simp;done) | (simp;omega)))
  have cy5:=Za (j:=0) ky5 rfl
  have cy6:=Za (j:=0) ky6 rfl
  have fy5:=frozen_of_row wy _ 0 _ _ ky5
  have fy6:=frozen_of_row wy _ 0 _ _ ky6
  have EY:Ext w wy:=Xt (Keep.trans_fresh (S:=[]) (Kx (Xt EZ (Xt hx1 hq))) kd (fun x hx=>by right;simp at hx;omega)).ext ey'
  clear hw1 h0q hq h0d kd hsd ey ey' hx1
  go_wp2
  exact X0 _ (w.heap.size+1+1+1+1) (w.heap.size+1+1+1+1+1) (w.heap.size+1+1+1+1+1+1) _ _ _ _ _ _ (by omega) (by omega) (by omega) rfl rfl rfl
   ((Below.heap_setCell _ ⟨w.heap.size+1+1+1+1+1+1,0,none⟩ _ _ (by show w.heap.size+1+1+1+1≠w.heap.size+1+1+1+1+1+1;omega)).trans ((Below.heap_setCell _ ⟨w.heap.size+1+1+1+1+1,0,none⟩ _ _ (by show w.heap.size+1+1+1+1≠w.heap.size+1+1+1+1+1;omega)).trans ky4))
   ((Below.heap_setCell _ ⟨w.heap.size+1+1+1+1+1+1,0,none⟩ _ _ (by show w.heap.size+1+1+1+1+1≠w.heap.size+1+1+1+1+1+1;omega)).trans (heap_setCell_same wy (w.heap.size+1+1+1+1+1) 0 _ _ _ ky5))
   (heap_setCell_same (wy.setCell ⟨w.heap.size+1+1+1+1+1,0,none⟩ _) (w.heap.size+1+1+1+1+1+1) 0 _ _ _ ((Below.heap_setCell _ ⟨w.heap.size+1+1+1+1+1,0,none⟩ _ _ (by show w.heap.size+1+1+1+1+1+1≠w.heap.size+1+1+1+1+1;omega)).trans ky6))
   (fun h=>absurd h HZ.out) (fun _ W' kk=>HEND.out _ ((Kx (Below.setCell (Below.setCell EY (p:=⟨w.heap.size+1+1+1+1+1,0,none⟩) (by show w.heap.size<=w.heap.size+1+1+1+1+1;omega) _) (p:=⟨w.heap.size+1+1+1+1+1+1,0,none⟩) (by show w.heap.size<=w.heap.size+1+1+1+1+1+1;omega) _)).trans_fresh (S:=[]) kk (fun x hx=>by right;simp at hx;omega)).ext)
 have h64':((all.length:Int)==64)=false:=by rw [beq_eq_false_iff_ne];omega
 rw [if_neg h64] at hon
 have hmy:0<Y1 L B (l[j]'hj).seq fr to n 1099511627776:=by
  have:=List.find?_some hi2
  rw [HFD.out] at this
  simpa using this
 obtain ⟨o,ho⟩:∃o,o=l[j]'hj:=⟨_,rfl⟩
 rw [<-ho] at hmy hon
 obtain ⟨A1,cap1,hv1,hs1,hs2,hs3,hs4⟩:=HSL.out
 injection hv1 with hA1 _ hc1
 subst hA1 hc1
 rcases hs4 with hs4 | ⟨gb,rfl,hgb0,hgb1,hgbc⟩
 ·omega
 have hcb:∀w':World,w'.heap[gb]? =w2.heap[gb]? ->w'.cell? ⟨gb,j*7,none⟩=some (.int .u64 o.seq):=fun w' k=>by
  rw [Zh k]
  have:=hgbc (j*7+0) (.int .u64 o.seq) (by rw [Yh l j 0 hj (by omega),<-ho];rfl)
  simpa using this
 have hgbS:gb∉m::pb::g.toList:=fun hx=>by have:=HMS.out gb hx;omega
 have hj1:(0:Int)<=(j:Int):=by omega
 have hj2:(j:Int)<(l.length:Int):=by omega
 clear hgbc hs3 hs1 hs2
 obtain ⟨given,hd1,hd2,hd3⟩:=Ze2 (L:=L) (B:=B) (seq:=o.seq) (taker:=fr) (to:=to) (want:=n) (most:=1099511627776) HI.out.ok (by omega)
 have hnb:=Zlv L B o.seq fr to n 1099511627776
 obtain ⟨nn,hnn⟩:∃nn,nn=Y1 L B o.seq fr to n 1099511627776:=⟨_,rfl⟩
 have hmay:∀wq,IsLed wq p m L->IsBook wq pb g B->Calls Tryz.prog 178 #[.agg #[.pointer (some ⟨p,0,none⟩),.pointer (some ⟨pb,0,none⟩)],.int .u64 o.seq,.int .u8 fr,.int .u8 to,.int .i64 n,.int .i64 1099511627776] wq (Ret (.int .i64 nn) wq):=fun wq h1 h2=>by
  rw [hnn]
  exact Ze7 p m pb g L B o.seq fr to n 1099511627776 wq h1 HI.out.wf h2 HI.out.ok
 rw [<-hnn] at hd1 hd2 hmy hon hnb
 clear hnn
 obtain ⟨hnb0,hnb1,hnb2⟩:=hnb
 have hdo:=fun wq hL hB=>do_any p m pb g L B o.seq fr to nn wq hL HI.out.wf hB HI.out.ok (by omega)
 have hwfd:=Zmq (B:=B) HI.out.wf o.seq fr to nn
 have hokd:=Zkp (L:=L) HI.out.ok o.seq fr to nn
 have hsnd:=Zbi (L:=L) HI.out.sn o.seq fr to nn
 obtain ⟨d,hdd⟩:∃d,d=doR L B o.seq fr to nn:=⟨_,rfl⟩
 rw [<-hdd] at hd1 hd2 hon hdo hwfd hokd hsnd
 obtain ⟨df,de,dL,dB⟩:=d
 simp only at hd1 hd2 hon hdo hwfd hokd hsnd
 subst hd1 hd2
 simp only at hon
 generalize o.seq=seq at *
 have HON:=Lib.hid hon
 clear hdd hon hi2 HFL HFD ho
 have hL2:=HI.out.led
 have hB2:=HI.out.book
 go_wp2_with fail
 clear c5
 refine RgK.Zf (m::pb::g.toList) Zk 24 [17,18,19,20,21,22,23] (by kernel_rfl) (by kernel_rfl) (by kernel_rfl) ?_
 intro w1 hw1
 have r1:∀u:KeepOf (m::pb::g.toList) w1,u.to.cell? ⟨w.heap.size+1,0,none⟩=some (.int .u8 fr):=fun u=>Za (j:=0) ((hw1.trans u.h).at HI.out.row.k1 (HI.out.keepS _ (by omega))) rfl
 have r2:∀u:KeepOf (m::pb::g.toList) w1,u.to.cell? ⟨w.heap.size+1+1,0,none⟩=some (.int .u8 to):=fun u=>Za (j:=0) ((hw1.trans u.h).at HI.out.row.k2 (HI.out.keepS _ (by omega))) rfl
 have r3:∀u:KeepOf (m::pb::g.toList) w1,u.to.cell? ⟨w.heap.size+1+1+1,0,none⟩=some (.int .i64 n):=fun u=>Za (j:=0) ((hw1.trans u.h).at HI.out.row.k3 (HI.out.keepS _ (by omega))) rfl
 have rb:∀u:KeepOf (m::pb::g.toList) w1,u.to.cell? ⟨gb,j*7,none⟩=some (.int .u64 seq):=fun u=>hcb u.to ((hw1.trans u.h).block gb hgb1 hgbS)
 have ld:∀w',Jb (m::pb::g.toList) w1 w'->(loadVar 103 ⟨w.heap.size+1+1+1+1,0,none⟩).run Tryz.prog w'= .ok (.agg #[.pointer (some ⟨p,0,none⟩),.pointer (some ⟨pb,0,none⟩)]) w':=by
  rintro _ ⟨u,rfl⟩
  exact run_loadVar_row u.to (w.heap.size+1+1+1+1) _ _ _ _ _ ((hw1.trans u.h).at HI.out.row.k4 (HI.out.keepS _ (by omega))) Tryz.underlying103 rfl (by kernel_rfl)
 simp only [Zj,Rg.hsB,Nat.reduceBEq,Nat.reduceAdd,↓reduceIte]
 repeat (first | go_big_quiet_step (fail) | (go_big_quiet_want;refine Zq 103 _ _ _ rfl rfl ld ?_;go_big_quiet_on;simp only [Act.put,Rg.puB]))
 refine wpQuiet_nil ?_
 intro hx1
 clear r1 r2 r3 rb ld hcb
 refine RgK.Zar 17 22 _ _ (by kernel_rfl) (by decide) (by decide) (by rfl) (by rfl) rfl rfl ?_ ?_
 ·intro wm h0m hm
  refine RgK.Jg 178 _ #[.agg #[.pointer (some ⟨p,0,none⟩),.pointer (some ⟨pb,0,none⟩)],.int .u64 seq,.int .u8 fr,.int .u8 to,.int .i64 n,.int .i64 1099511627776] _ _ (by rfl) Tryz.func178 rfl (by kernel_rfl) (by kernel_rfl) ?_
  refine (hmay wm (hL2.ext (Xt hx1 hm)) (hB2.ext (Xt hx1 hm))).mono ?_
  rintro e wn ⟨rfl,en⟩
  refine ⟨_,rfl,h0m.trans (Kx en),?_⟩
  have hxn:=Xt hx1 (Xt hm en)
  clear hx1 hm en h0m
  refine RgK.Zar 18 22 _ _ (by kernel_rfl) (by decide) (by decide) (by rfl) (by rfl) rfl rfl ?_ ?_
  ·intro w3 h03 h3
   have E3:=Xt hxn h3
   refine RgK.Jg 179 _ #[.agg #[.pointer (some ⟨p,0,none⟩),.pointer (some ⟨pb,0,none⟩)],.int .u64 seq,.int .u8 fr,.int .u8 to,.int .i64 nn] _ _ (by rfl) Tryz.func179 rfl (by kernel_rfl) (by kernel_rfl) ?_
   refine (hdo w3 (hL2.ext E3) (hB2.ext E3)).mono ?_
   rintro e w4 ⟨rfl,k4,hL4,g4,hB4,hg4⟩
   refine ⟨_,rfl,h03.trans k4,?_⟩
   clear h3 hxn
   refine RgK.Xa Zk 19 [22,23] 2 (by kernel_rfl) (by kernel_rfl) (h03.trans k4) ?_
   intro w1' hw1'
   simp only [Act.put,Zji,Xm,List.getElem_toArray,List.getElem_cons_succ,List.getElem_cons_zero,List.setIfInBounds_toArray,List.set_cons_zero,List.set_cons_succ]
   simp only [Zj,Rg.hsB,Nat.reduceBEq,Nat.reduceAdd,↓reduceIte]
   repeat (go_big_quiet_step (fail))
   refine wpQuiet_nil ?_
   intro hx4
   refine RgK.Y5 22 _ (.cells #[.int .u64 0,.int .u8 0,.int .u8 0,.int .i64 0,.int .i64 0] 250) (fun p=>.pointer (some ⟨p,0,none⟩)) (by intro w;go_simp) rfl (by kernel_rfl) (by decide) rfl ?_
   intro eb w5 h05 h5 heb0 heb hebb
   refine RgK.Zy 23 _ 250 _ _ rfl rfl rfl (by kernel_rfl) (by decide) rfl eb #[.int .u64 seq,.int .u8 fr,.int .u8 to,.int .i64 nn,.int .i64 given] (by kernel_rfl) (by kernel_rfl) 250 _ (by kernel_rfl) (by rfl) (by rfl) hebb (Or.inr heb0) ?_
   intro w6 h06 k6 hs6
   refine RgK.Zi (by kernel_rfl) ?_
   intro w7 e7 e7'
   simp only [Act.put,Rg.puB]
   have s3:=E3.size
   have s4:=k4.size
   have sx:=hx4.size
   have hs7:=e7'.at hs6
   have heg:∀x,g4=some x->x≠eb:=fun x hx=>by have:=hB4.ltg x hx;omega
   have heb2:w2.heap.size<=eb:=by omega
   have hch:=Zfu HI.out E3 k4 hL4 hB4 (Xt hx4 h5) k6 e7' heb2 heg
   have hEB:=Lib.hid (show ∀q,(Value.slice ao all.length acap).ownBlock=some q->q≠eb from fun q hq=>by have:=(HI.out.own.lt q hq).2;omega)
   have hg7:∀x,g4=some x->w.heap.size+1+1+1+1+1+1+1<=x:=fun x hx=>by
    rcases hg4 with hh | hh
    ·exact HI.out.hg x (hh▸hx)
    have:=hh x hx;have:=Zg HI.out.row.k6;omega
   have hrow2:=HI.out.row
   clear k4 hL4 hB4 hg4 h05 h5 heb0 hebb h06 k6 hs6 e7 e7' hw1' hx4 s3 s4 sx heg h03 E3
   have hl63:=HI.out.hn
   have hha:=HI.out.ha
   have hpI:=HI.out.hp
   have hmI:=HI.out.hm
   have hbI:=HI.out.hb
   clear HI hL2 hB2
   obtain ⟨hrow7,hL7,hB7,hown7,hE7⟩:=hch
   have hlt6:=Zg hrow7.k6
   have hw7:=hE7.size
   have heb5:eb≠w.heap.size+1+1+1+1+1:=by have:=Zg hrow2.k6;omega
   have heb3:eb≠w.heap.size+1+1+1:=by have:=Zg hrow2.k6;omega
   clear hrow2
   have c5:=Za (j:=0) hrow7.k5 rfl
   have ldf:(loadVar 250 ⟨eb,0,none⟩).run Tryz.prog w7= .ok (.agg #[.int .u64 seq,.int .u8 fr,.int .u8 to,.int .i64 nn,.int .i64 given]) w7:=run_loadVar_row w7 eb _ _ _ _ _ hs7 Tryz.underlying250 rfl (by kernel_rfl)
   obtain ⟨i0,hi,hz0,hz1,hz2⟩:=info_parts Zbe
   have hng:n-nn<=9223372036854775807:=by omega
   have hng2: -9223372036854775808<=n-nn:=by omega
   have ROW7:=Lib.hid hrow7
   have HNE5:=Lib.hid heb5
   have HNE3:=Lib.hid heb3
   clear hrow7 heb5 heb3
   go_wp2_with (first
    | (refine Zd rfl 250 _ _ _ rfl rfl ldf ?_)
    | (at_builtin;refine wpList_append_own _ rfl _ _ 243 rfl (w.heap.size+1+1+1+1+1+1+1) 250 i0 (.agg #[.int .u64 0,.int .u8 0,.int .u8 0,.int .i64 0,.int .i64 0]) 5 32 Tryz.underlying243 hi hz0 hz1 hz2 rfl (by decide) _ _ _ rfl (hown7.alloc _) ⟨w7.heap.size,0,none⟩ 1 1 [.int .u64 seq,.int .u8 fr,.int .u8 to,.int .i64 nn,.int .i64 given] rfl rfl (Zcb w7 [.int .u64 seq,.int .u8 fr,.int .u8 to,.int .i64 nn,.int .i64 given] _) (fun x hx=>by simp only [List.mem_cons,List.not_mem_nil,or_false] at hx;rcases hx with rfl | rfl | rfl | rfl | rfl<;>rfl) (by unfold maxLen;omega) (by omega) (by simp;omega) ?_
       intro v' w9 hown9 hgrow9 hnil9
       have ea7:=Zc w7 (.cells #[.int .u64 seq,.int .u8 fr,.int .u8 to,.int .i64 nn,.int .i64 given] 250)
       have hrow7:=ROW7.out
       have hqa:=Zaz hL7 hB7 hown7
       have hqlo:=fun q hq=>(hown7.lt q hq).1
       have hqhi:=fun q hq=>(hown7.lt q hq).2
       obtain ⟨SL,hSL⟩:∃SL,(Value.slice ao all.length acap).ownBlock.toList=SL:=⟨_,rfl⟩
       have hmemS:∀x,x∈SL->(Value.slice ao all.length acap).ownBlock=some x:=fun x hx=>by rw [<-hSL] at hx;simpa using hx
       have k79:Keep SL w7 w9:=by
        have kg:Keep SL (w7.alloc (.cells #[.int .u64 seq,.int .u8 fr,.int .u8 to,.int .i64 nn,.int .i64 given] 250)) w9:=Za0 hSL hgrow9
        exact (Kx ea7).trans kg
       have hebS:eb∉SL:=fun hx=>hEB.out eb (hmemS eb hx) rfl
       have hlow:∀j,j<w.heap.size+1+1+1+1+1+1+1->j∉SL:=fun j hj hx=>by have:=hqlo j (hmemS j hx);omega
       have hrow9:SRow w.heap.size fr to n p pb (.slice ao all.length acap) w9:=hrow7.keep fun j ob hj hh=>k79.at hh (hlow j hj)
       have hL9:=hL7.keep k79 (fun hx=>(hqa p (hmemS p hx)).2 rfl) (fun hx=>(hqa m (hmemS m hx)).1 (by simp))
       have hB9:=hB7.keep k79 (fun hx=>(hqa pb (hmemS pb hx)).1 (by simp)) (fun x hx hx2=>(hqa x (hmemS x hx2)).1 (by simp [hx]))
       have hs9:=k79.at hs7 hebS
       have E9:Ext w w9:=(Keep.trans_fresh (S:=[]) (Kx hE7) k79 (fun x hx=>by right;have:=hqlo x (hmemS x hx);omega)).ext
       obtain ⟨A',cap',rfl⟩:=Yd hown9
       have c5:=Za (j:=0) hrow9.k5 rfl
       have f5:=frozen_of_row w9 (w.heap.size+1+1+1+1+1) 0 _ _ hrow9.k5
       have x3:∀v,(w9.setCell ⟨w.heap.size+1+1+1+1+1,0,none⟩ v).cell? ⟨w.heap.size+1+1+1,0,none⟩=some (.int .i64 n):=fun v=>Za (j:=0) ((Below.heap_setCell _ ⟨w.heap.size+1+1+1+1+1,0,none⟩ _ _ (by show w.heap.size+1+1+1≠w.heap.size+1+1+1+1+1;omega)).trans hrow9.k3) rfl
       have xf3:∀v,(w9.setCell ⟨w.heap.size+1+1+1+1+1,0,none⟩ v).frozen? ⟨w.heap.size+1+1+1,0,none⟩=false:=fun v=>frozen_of_row _ _ 0 _ _ ((Below.heap_setCell _ ⟨w.heap.size+1+1+1+1+1,0,none⟩ _ _ (by show w.heap.size+1+1+1≠w.heap.size+1+1+1+1+1;omega)).trans hrow9.k3)
       have xe:∀v,(w9.setCell ⟨w.heap.size+1+1+1+1+1,0,none⟩ v).cell? ⟨eb,3,none⟩=some (.int .i64 nn):=fun v=>Za (j:=3) ((Below.heap_setCell _ ⟨w.heap.size+1+1+1+1+1,0,none⟩ _ _ (by show eb≠w.heap.size+1+1+1+1+1;exact HNE5.out)).trans hs9) rfl
       have hF:Keep [w.heap.size+1+1+1+1+1,w.heap.size+1+1+1] w9 ((w9.setCell ⟨w.heap.size+1+1+1+1+1,0,none⟩ (.slice A' (all.length+1) cap')).setCell ⟨w.heap.size+1+1+1,0,none⟩ (.int .i64 (n-nn))):=((Keep.refl _ _).setCell (Or.inl (by simp)) _).setCell (Or.inl (by simp)) _
       have hown9a:=ownsRow_setCell_other hown9 (a:=⟨w.heap.size+1+1+1+1+1,0,none⟩) (Yi hown9 hrow9.k5 (by decide)) (.slice A' (all.length+1) cap')
       have hown9b:=ownsRow_setCell_other hown9a (a:=⟨w.heap.size+1+1+1,0,none⟩) (Yi hown9 hrow9.k3 (by decide)) (.int .i64 (n-nn))
       have HGI:=Lib.hid (show SI w fr to get give r0 p m pb g4 dL dB (n-nn) (all++[(seq,fr,to,nn,given)]) (.slice A' (all.length+1) cap') ((w9.setCell ⟨w.heap.size+1+1+1+1+1,0,none⟩ (.slice A' (all.length+1) cap')).setCell ⟨w.heap.size+1+1+1,0,none⟩ (.int .i64 (n-nn))) from
        { row:=⟨hF.at hrow9.k1 (by first | (simp;done) | (simp;omega)),hF.at hrow9.k2 (by first | (simp;done) | (simp;omega)),heap_setCell_same (w9.setCell ⟨w.heap.size+1+1+1+1+1,0,none⟩ _) (w.heap.size+1+1+1) 0 _ _ _ ((Below.heap_setCell _ ⟨w.heap.size+1+1+1+1+1,0,none⟩ _ _ (by show w.heap.size+1+1+1≠w.heap.size+1+1+1+1+1;omega)).trans hrow9.k3),hF.at hrow9.k4 (by first | (simp;done) | (simp;omega)),(Below.heap_setCell _ ⟨w.heap.size+1+1+1,0,none⟩ _ _ (by show w.heap.size+1+1+1+1+1≠w.heap.size+1+1+1;omega)).trans (heap_setCell_same w9 (w.heap.size+1+1+1+1+1) 0 _ _ _ hrow9.k5),hF.at hrow9.k6 (by first | (simp;done) | (simp;omega))⟩
          led:=hL9.keep hF (by simp;omega) (by simp;omega)
          book:=hB9.keep hF (by simp;omega) (fun x hx=>by have:=hg7 x hx;simp;omega)
          own:=by
           rw [List.length_append,Ua]
           exact hown9b
          wf:=hwfd
          ok:=hokd
          sn:=hsnd
          hn:=hng
          ha:=by rw [List.length_append];simp;omega
          hp:=hpI
          hm:=hmI
          hb:=hbI
          hg:=hg7
          ex:=Below.setCell (Below.setCell E9 (p:=⟨w.heap.size+1+1+1+1+1,0,none⟩) (by show w.heap.size<=w.heap.size+1+1+1+1+1;omega) _) (p:=⟨w.heap.size+1+1+1,0,none⟩) (by show w.heap.size<=w.heap.size+1+1+1;omega) _
          on:=by
           rw [<-HON.out,List.length_append]
           congr 1
           first | (simp;done) | (simp;omega) })
       have HM:=Lib.hid (show 65-Zee ((w9.setCell ⟨w.heap.size+1+1+1+1+1,0,none⟩ (.slice A' (all.length+1) cap')).setCell ⟨w.heap.size+1+1+1,0,none⟩ (.int .i64 (n-nn))) (w.heap.size+1+1+1+1+1)<65-Zee wr (w.heap.size+1+1+1+1+1) by
        have:Zee ((w9.setCell ⟨w.heap.size+1+1+1+1+1,0,none⟩ (.slice A' (all.length+1) cap')).setCell ⟨w.heap.size+1+1+1,0,none⟩ (.int .i64 (n-nn))) (w.heap.size+1+1+1+1+1)=all.length+1:=by
         unfold Zee
         rw [Za (j:=0) ((Below.heap_setCell _ ⟨w.heap.size+1+1+1,0,none⟩ _ _ (by show w.heap.size+1+1+1+1+1≠w.heap.size+1+1+1;omega)).trans (heap_setCell_same w9 (w.heap.size+1+1+1+1+1) 0 _ _ (.slice A' (all.length+1) cap') hrow9.k5)) rfl]
         rfl
        rw [this,HLEN.out];omega)
       clear hrow9 hL9 hB9 hs9 hs7 E9 hown9 hown9a hown9b hF hgrow9 hnil9 k79 hlow hmemS hSL hqa hqlo hqhi hrow7 hown7 hL7 hB7 ea7 hebS))
   exact ⟨⟨p,m,pb,g4,dL,dB,n-nn,_,_,HGI.out⟩,HM.out⟩
  intro w3 h03 h3
  refine RgK.Zb2 (.pointer (some ⟨w3.heap.size,0,none⟩)) (.cells #[.int .u64 0,.int .u8 0,.int .u8 0,.int .i64 0,.int .i64 0] 250) (by go_simp) ?_
  have ea:=Zc w3 (.cells #[.int .u64 0,.int .u8 0,.int .u8 0,.int .i64 0,.int .i64 0] 250)
  have ha:=Zb w3 (.cells #[.int .u64 0,.int .u8 0,.int .u8 0,.int .i64 0,.int .i64 0] 250)
  refine ⟨h03.trans (Kx ea),?_⟩
  obtain ⟨eb,hebe⟩:∃eb,eb=w3.heap.size:=⟨_,rfl⟩
  have heb2:w2.heap.size<=eb:=by have:=(Xt hxn h3).size;omega
  rw [<-hebe] at ha ⊢
  refine RgK.Z5 18 179 _ #[.agg #[.pointer (some ⟨p,0,none⟩),.pointer (some ⟨pb,0,none⟩)],.int .u64 seq,.int .u8 fr,.int .u8 to,.int .i64 nn] _ (by rfl) _ _ (by rfl) Tryz.func179 rfl (by kernel_rfl) (by kernel_rfl) rfl (by kernel_rfl) (by decide) ?_
  intro w3b h03b h3b
  have E3:=Xt hxn (Xt h3 (Xt ea h3b))
  refine (hdo w3b (hL2.ext E3) (hB2.ext E3)).mono ?_
  rintro e w4 ⟨rfl,k4,hL4,g4,hB4,hg4⟩
  refine ⟨_,rfl,h03b.trans k4,?_⟩
  have hba:=h3b.at ha
  have hebl:=Zg hba
  have hebw:=heb2
  clear ha ea hebe h3b h3 hxn h03
  have hebS:eb∉m::pb::g.toList:=fun hx=>by
   have h1:=hL2.ltm
   have h2:=hB2.ltp
   rcases List.mem_cons.1 hx with rfl | hx
   ·omega
   rcases List.mem_cons.1 hx with rfl | hx
   ·omega
   have:=hB2.ltg eb (by simpa using hx);omega
  have hb4:=k4.at hba hebS
  refine RgK.V3 (eb::m::pb::g.toList) Zk 19 [22,23] 1 (by kernel_rfl) (by kernel_rfl) (h03b.trans k4) (fun x hx=>by
   rcases List.mem_cons.1 hx with rfl | hx
   ·exact .inr hebw
   exact .inl hx) ?_
  intro w1' hw1'
  simp only [Act.put,Zji,Xm,List.getElem_toArray,List.getElem_cons_succ,List.getElem_cons_zero,List.setIfInBounds_toArray,List.set_cons_zero,List.set_cons_succ]
  simp only [Zj,Rg.hsB,Nat.reduceBEq,Nat.reduceAdd,↓reduceIte]
  repeat (go_big_quiet_step (fail))
  refine wpQuiet_nil ?_
  intro hx4
  refine RgK.Zy 23 _ 250 _ _ rfl rfl rfl (by kernel_rfl) (by decide) rfl eb #[.int .u64 seq,.int .u8 fr,.int .u8 to,.int .i64 nn,.int .i64 given] (by kernel_rfl) (by kernel_rfl) 250 _ (by kernel_rfl) (by rfl) (by rfl) (hx4.at hb4) (Or.inl (by simp)) ?_
  intro w6 h06 k6 hs6
  refine RgK.Zi (by kernel_rfl) ?_
  intro w7 e7 e7'
  simp only [Rg.puB]
  have hs7:=e7'.at hs6
  have heg:∀x,g4=some x->x≠eb:=fun x hx=>by
   rcases hg4 with hh | hh
   ·have:=hB2.ltg x (hh▸hx);omega
   have:=hh x hx;omega
  have hch:=Zfu HI.out E3 k4 hL4 hB4 hx4 k6 e7' heb2 heg
  have hEB:=Lib.hid (show ∀q,(Value.slice ao all.length acap).ownBlock=some q->q≠eb from fun q hq=>by have:=(HI.out.own.lt q hq).2;omega)
  have hg7:∀x,g4=some x->w.heap.size+1+1+1+1+1+1+1<=x:=fun x hx=>by
   rcases hg4 with hh | hh
   ·exact HI.out.hg x (hh▸hx)
   have:=hh x hx;have:=E3.size;have:=Zg HI.out.row.k6;omega
  have hrow2:=HI.out.row
  clear k4 hL4 hB4 hg4 hebS hb4 h06 k6 hs6 e7 e7' hw1' hx4 heg h03b E3 hba hebl hebw
  have hl63:=HI.out.hn
  have hha:=HI.out.ha
  have hpI:=HI.out.hp
  have hmI:=HI.out.hm
  have hbI:=HI.out.hb
  clear HI hL2 hB2
  obtain ⟨hrow7,hL7,hB7,hown7,hE7⟩:=hch
  have hlt6:=Zg hrow7.k6
  have hw7:=hE7.size
  have heb5:eb≠w.heap.size+1+1+1+1+1:=by have:=Zg hrow2.k6;omega
  have heb3:eb≠w.heap.size+1+1+1:=by have:=Zg hrow2.k6;omega
  clear hrow2
  have c5:=Za (j:=0) hrow7.k5 rfl
  have ldf:(loadVar 250 ⟨eb,0,none⟩).run Tryz.prog w7= .ok (.agg #[.int .u64 seq,.int .u8 fr,.int .u8 to,.int .i64 nn,.int .i64 given]) w7:=run_loadVar_row w7 eb _ _ _ _ _ hs7 Tryz.underlying250 rfl (by kernel_rfl)
  obtain ⟨i0,hi,hz0,hz1,hz2⟩:=info_parts Zbe
  have hng:n-nn<=9223372036854775807:=by omega
  have hng2: -9223372036854775808<=n-nn:=by omega
  have ROW7:=Lib.hid hrow7
  have HNE5:=Lib.hid heb5
  have HNE3:=Lib.hid heb3
  clear hrow7 heb5 heb3
  go_wp2_with (first
   | (refine Zd rfl 250 _ _ _ rfl rfl ldf ?_)
   | (at_builtin;refine wpList_append_own _ rfl _ _ 243 rfl (w.heap.size+1+1+1+1+1+1+1) 250 i0 (.agg #[.int .u64 0,.int .u8 0,.int .u8 0,.int .i64 0,.int .i64 0]) 5 32 Tryz.underlying243 hi hz0 hz1 hz2 rfl (by decide) _ _ _ rfl (hown7.alloc _) ⟨w7.heap.size,0,none⟩ 1 1 [.int .u64 seq,.int .u8 fr,.int .u8 to,.int .i64 nn,.int .i64 given] rfl rfl (Zcb w7 [.int .u64 seq,.int .u8 fr,.int .u8 to,.int .i64 nn,.int .i64 given] _) (fun x hx=>by simp only [List.mem_cons,List.not_mem_nil,or_false] at hx;rcases hx with rfl | rfl | rfl | rfl | rfl<;>rfl) (by unfold maxLen;omega) (by omega) (by simp;omega) ?_
      intro v' w9 hown9 hgrow9 hnil9
      have ea7:=Zc w7 (.cells #[.int .u64 seq,.int .u8 fr,.int .u8 to,.int .i64 nn,.int .i64 given] 250)
      have hrow7:=ROW7.out
      have hqa:=Zaz hL7 hB7 hown7
      have hqlo:=fun q hq=>(hown7.lt q hq).1
      have hqhi:=fun q hq=>(hown7.lt q hq).2
      obtain ⟨SL,hSL⟩:∃SL,(Value.slice ao all.length acap).ownBlock.toList=SL:=⟨_,rfl⟩
      have hmemS:∀x,x∈SL->(Value.slice ao all.length acap).ownBlock=some x:=fun x hx=>by rw [<-hSL] at hx;simpa using hx
      have k79:Keep SL w7 w9:=by
       have kg:Keep SL (w7.alloc (.cells #[.int .u64 seq,.int .u8 fr,.int .u8 to,.int .i64 nn,.int .i64 given] 250)) w9:=Za0 hSL hgrow9
       exact (Kx ea7).trans kg
      have hebS:eb∉SL:=fun hx=>hEB.out eb (hmemS eb hx) rfl
      have hlow:∀j,j<w.heap.size+1+1+1+1+1+1+1->j∉SL:=fun j hj hx=>by have:=hqlo j (hmemS j hx);omega
      have hrow9:SRow w.heap.size fr to n p pb (.slice ao all.length acap) w9:=hrow7.keep fun j ob hj hh=>k79.at hh (hlow j hj)
      have hL9:=hL7.keep k79 (fun hx=>(hqa p (hmemS p hx)).2 rfl) (fun hx=>(hqa m (hmemS m hx)).1 (by simp))
      have hB9:=hB7.keep k79 (fun hx=>(hqa pb (hmemS pb hx)).1 (by simp)) (fun x hx hx2=>(hqa x (hmemS x hx2)).1 (by simp [hx]))
      have hs9:=k79.at hs7 hebS
      have E9:Ext w w9:=(Keep.trans_fresh (S:=[]) (Kx hE7) k79 (fun x hx=>by right;have:=hqlo x (hmemS x hx);omega)).ext
      obtain ⟨A',cap',rfl⟩:=Yd hown9
      have c5:=Za (j:=0) hrow9.k5 rfl
      have f5:=frozen_of_row w9 (w.heap.size+1+1+1+1+1) 0 _ _ hrow9.k5
      have x3:∀v,(w9.setCell ⟨w.heap.size+1+1+1+1+1,0,none⟩ v).cell? ⟨w.heap.size+1+1+1,0,none⟩=some (.int .i64 n):=fun v=>Za (j:=0) ((Below.heap_setCell _ ⟨w.heap.size+1+1+1+1+1,0,none⟩ _ _ (by show w.heap.size+1+1+1≠w.heap.size+1+1+1+1+1;omega)).trans hrow9.k3) rfl
      have xf3:∀v,(w9.setCell ⟨w.heap.size+1+1+1+1+1,0,none⟩ v).frozen? ⟨w.heap.size+1+1+1,0,none⟩=false:=fun v=>frozen_of_row _ _ 0 _ _ ((Below.heap_setCell _ ⟨w.heap.size+1+1+1+1+1,0,none⟩ _ _ (by show w.heap.size+1+1+1≠w.heap.size+1+1+1+1+1;omega)).trans hrow9.k3)
      have xe:∀v,(w9.setCell ⟨w.heap.size+1+1+1+1+1,0,none⟩ v).cell? ⟨eb,3,none⟩=some (.int .i64 nn):=fun v=>Za (j:=3) ((Below.heap_setCell _ ⟨w.heap.size+1+1+1+1+1,0,none⟩ _ _ (by show eb≠w.heap.size+1+1+1+1+1;exact HNE5.out)).trans hs9) rfl
      have hF:Keep [w.heap.size+1+1+1+1+1,w.heap.size+1+1+1] w9 ((w9.setCell ⟨w.heap.size+1+1+1+1+1,0,none⟩ (.slice A' (all.length+1) cap')).setCell ⟨w.heap.size+1+1+1,0,none⟩ (.int .i64 (n-nn))):=((Keep.refl _ _).setCell (Or.inl (by simp)) _).setCell (Or.inl (by simp)) _
      have hown9a:=ownsRow_setCell_other hown9 (a:=⟨w.heap.size+1+1+1+1+1,0,none⟩) (Yi hown9 hrow9.k5 (by decide)) (.slice A' (all.length+1) cap')
      have hown9b:=ownsRow_setCell_other hown9a (a:=⟨w.heap.size+1+1+1,0,none⟩) (Yi hown9 hrow9.k3 (by decide)) (.int .i64 (n-nn))
      have HGI:=Lib.hid (show SI w fr to get give r0 p m pb g4 dL dB (n-nn) (all++[(seq,fr,to,nn,given)]) (.slice A' (all.length+1) cap') ((w9.setCell ⟨w.heap.size+1+1+1+1+1,0,none⟩ (.slice A' (all.length+1) cap')).setCell ⟨w.heap.size+1+1+1,0,none⟩ (.int .i64 (n-nn))) from
       { row:=⟨hF.at hrow9.k1 (by first | (simp;done) | (simp;omega)),hF.at hrow9.k2 (by first | (simp;done) | (simp;omega)),heap_setCell_same (w9.setCell ⟨w.heap.size+1+1+1+1+1,0,none⟩ _) (w.heap.size+1+1+1) 0 _ _ _ ((Below.heap_setCell _ ⟨w.heap.size+1+1+1+1+1,0,none⟩ _ _ (by show w.heap.size+1+1+1≠w.heap.size+1+1+1+1+1;omega)).trans hrow9.k3),hF.at hrow9.k4 (by first | (simp;done) | (simp;omega)),(Below.heap_setCell _ ⟨w.heap.size+1+1+1,0,none⟩ _ _ (by show w.heap.size+1+1+1+1+1≠w.heap.size+1+1+1;omega)).trans (heap_setCell_same w9 (w.heap.size+1+1+1+1+1) 0 _ _ _ hrow9.k5),hF.at hrow9.k6 (by first | (simp;done) | (simp;omega))⟩
         led:=hL9.keep hF (by simp;omega) (by simp;omega)
         book:=hB9.keep hF (by simp;omega) (fun x hx=>by have:=hg7 x hx;simp;omega)
         own:=by
          rw [List.length_append,Ua]
          exact hown9b
         wf:=hwfd
         ok:=hokd
         sn:=hsnd
         hn:=hng
         ha:=by rw [List.length_append];simp;omega
         hp:=hpI
         hm:=hmI
         hb:=hbI
         hg:=hg7
         ex:=Below.setCell (Below.setCell E9 (p:=⟨w.heap.size+1+1+1+1+1,0,none⟩) (by show w.heap.size<=w.heap.size+1+1+1+1+1;omega) _) (p:=⟨w.heap.size+1+1+1,0,none⟩) (by show w.heap.size<=w.heap.size+1+1+1;omega) _
         on:=by
          rw [<-HON.out,List.length_append]
          congr 1
          first | (simp;done) | (simp;omega) })
      have HM:=Lib.hid (show 65-Zee ((w9.setCell ⟨w.heap.size+1+1+1+1+1,0,none⟩ (.slice A' (all.length+1) cap')).setCell ⟨w.heap.size+1+1+1,0,none⟩ (.int .i64 (n-nn))) (w.heap.size+1+1+1+1+1)<65-Zee wr (w.heap.size+1+1+1+1+1) by
       have:Zee ((w9.setCell ⟨w.heap.size+1+1+1+1+1,0,none⟩ (.slice A' (all.length+1) cap')).setCell ⟨w.heap.size+1+1+1,0,none⟩ (.int .i64 (n-nn))) (w.heap.size+1+1+1+1+1)=all.length+1:=by
        unfold Zee
        rw [Za (j:=0) ((Below.heap_setCell _ ⟨w.heap.size+1+1+1,0,none⟩ _ _ (by show w.heap.size+1+1+1+1+1≠w.heap.size+1+1+1;omega)).trans (heap_setCell_same w9 (w.heap.size+1+1+1+1+1) 0 _ _ (.slice A' (all.length+1) cap') hrow9.k5)) rfl]
        rfl
       rw [this,HLEN.out];omega)
      clear hrow9 hL9 hB9 hs9 hs7 E9 hown9 hown9a hown9b hF hgrow9 hnil9 k79 hlow hmemS hSL hqa hqlo hqhi hrow7 hown7 hL7 hB7 ea7 hebS))
  exact ⟨⟨p,m,pb,g4,dL,dB,n-nn,_,_,HGI.out⟩,HM.out⟩
 intro w3 h03 h3
 refine RgK.Zb2 (.pointer (some ⟨w3.heap.size,0,none⟩)) (.cells #[.int .u64 0,.int .u8 0,.int .u8 0,.int .i64 0,.int .i64 0] 250) (by go_simp) ?_
 have ea:=Zc w3 (.cells #[.int .u64 0,.int .u8 0,.int .u8 0,.int .i64 0,.int .i64 0] 250)
 have ha:=Zb w3 (.cells #[.int .u64 0,.int .u8 0,.int .u8 0,.int .i64 0,.int .i64 0] 250)
 refine ⟨h03.trans (Kx ea),?_⟩
 obtain ⟨eb,hebe⟩:∃eb,eb=w3.heap.size:=⟨_,rfl⟩
 have heb2:w2.heap.size<=eb:=by have:=(Xt hx1 h3).size;omega
 rw [<-hebe] at ha ⊢
 refine RgK.Z5 17 178 _ #[.agg #[.pointer (some ⟨p,0,none⟩),.pointer (some ⟨pb,0,none⟩)],.int .u64 seq,.int .u8 fr,.int .u8 to,.int .i64 n,.int .i64 1099511627776] _ (by rfl) _ _ (by rfl) Tryz.func178 rfl (by kernel_rfl) (by kernel_rfl) rfl (by kernel_rfl) (by decide) ?_
 intro wm h0m hm
 have hxm:=Xt hx1 (Xt h3 (Xt ea hm))
 refine (hmay wm (hL2.ext hxm) (hB2.ext hxm)).mono ?_
 rintro e wn ⟨rfl,en⟩
 refine ⟨_,rfl,h0m.trans (Kx en),?_⟩
 have ha:=(Xt hm en).at ha
 have hxn:=Xt hxm en
 clear hxm hx1 h3 ea hm en h0m h03 hebe
 refine RgK.Z5 18 179 _ #[.agg #[.pointer (some ⟨p,0,none⟩),.pointer (some ⟨pb,0,none⟩)],.int .u64 seq,.int .u8 fr,.int .u8 to,.int .i64 nn] _ (by rfl) _ _ (by rfl) Tryz.func179 rfl (by kernel_rfl) (by kernel_rfl) rfl (by kernel_rfl) (by decide) ?_
 intro w3b h03b h3b
 have E3:=Xt hxn h3b
 refine (hdo w3b (hL2.ext E3) (hB2.ext E3)).mono ?_
 rintro e w4 ⟨rfl,k4,hL4,g4,hB4,hg4⟩
 refine ⟨_,rfl,h03b.trans k4,?_⟩
 have hba:=h3b.at ha
 have hebl:=Zg hba
 have hebw:=heb2
 clear ha h3b hxn
 have hebS:eb∉m::pb::g.toList:=fun hx=>by
  have h1:=hL2.ltm
  have h2:=hB2.ltp
  rcases List.mem_cons.1 hx with rfl | hx
  ·omega
  rcases List.mem_cons.1 hx with rfl | hx
  ·omega
  have:=hB2.ltg eb (by simpa using hx);omega
 have hb4:=k4.at hba hebS
 refine RgK.V3 (eb::m::pb::g.toList) Zk 19 [22,23] 1 (by kernel_rfl) (by kernel_rfl) (h03b.trans k4) (fun x hx=>by
  rcases List.mem_cons.1 hx with rfl | hx
  ·exact .inr hebw
  exact .inl hx) ?_
 intro w1' hw1'
 simp only [Act.put,Zji,Xm,List.getElem_toArray,List.getElem_cons_succ,List.getElem_cons_zero,List.setIfInBounds_toArray,List.set_cons_zero,List.set_cons_succ]
 simp only [Zj,Rg.hsB,Nat.reduceBEq,Nat.reduceAdd,↓reduceIte]
 repeat (go_big_quiet_step (fail))
 refine wpQuiet_nil ?_
 intro hx4
 refine RgK.Zy 23 _ 250 _ _ rfl rfl rfl (by kernel_rfl) (by decide) rfl eb #[.int .u64 seq,.int .u8 fr,.int .u8 to,.int .i64 nn,.int .i64 given] (by kernel_rfl) (by kernel_rfl) 250 _ (by kernel_rfl) (by rfl) (by rfl) (hx4.at hb4) (Or.inl (by simp)) ?_
 intro w6 h06 k6 hs6
 refine RgK.Zi (by kernel_rfl) ?_
 intro w7 e7 e7'
 simp only [Rg.puB]
 have hs7:=e7'.at hs6
 have heg:∀x,g4=some x->x≠eb:=fun x hx=>by
  rcases hg4 with hh | hh
  ·have:=hB2.ltg x (hh▸hx);omega
  have:=hh x hx;omega
 have hch:=Zfu HI.out E3 k4 hL4 hB4 hx4 k6 e7' heb2 heg
 have hEB:=Lib.hid (show ∀q,(Value.slice ao all.length acap).ownBlock=some q->q≠eb from fun q hq=>by have:=(HI.out.own.lt q hq).2;omega)
 have hg7:∀x,g4=some x->w.heap.size+1+1+1+1+1+1+1<=x:=fun x hx=>by
  rcases hg4 with hh | hh
  ·exact HI.out.hg x (hh▸hx)
  have:=hh x hx;have:=E3.size;have:=Zg HI.out.row.k6;omega
 have hrow2:=HI.out.row
 clear k4 hL4 hB4 hg4 hebS hb4 h06 k6 hs6 e7 e7' hw1' hx4 heg h03b E3 hba hebl hebw
 have hl63:=HI.out.hn
 have hha:=HI.out.ha
 have hpI:=HI.out.hp
 have hmI:=HI.out.hm
 have hbI:=HI.out.hb
 clear HI hL2 hB2
 obtain ⟨hrow7,hL7,hB7,hown7,hE7⟩:=hch
 have hlt6:=Zg hrow7.k6
 have hw7:=hE7.size
 have heb5:eb≠w.heap.size+1+1+1+1+1:=by have:=Zg hrow2.k6;omega
 have heb3:eb≠w.heap.size+1+1+1:=by have:=Zg hrow2.k6;omega
 clear hrow2
 have c5:=Za (j:=0) hrow7.k5 rfl
 have ldf:(loadVar 250 ⟨eb,0,none⟩).run Tryz.prog w7= .ok (.agg #[.int .u64 seq,.int .u8 fr,.int .u8 to,.int .i64 nn,.int .i64 given]) w7:=run_loadVar_row w7 eb _ _ _ _ _ hs7 Tryz.underlying250 rfl (by kernel_rfl)
 obtain ⟨i0,hi,hz0,hz1,hz2⟩:=info_parts Zbe
 have hng:n-nn<=9223372036854775807:=by omega
 have hng2: -9223372036854775808<=n-nn:=by omega
 have ROW7:=Lib.hid hrow7
 have HNE5:=Lib.hid heb5
 have HNE3:=Lib.hid heb3
 clear hrow7 heb5 heb3
 go_wp2_with (first
  | (refine Zd rfl 250 _ _ _ rfl rfl ldf ?_)
  | (at_builtin;refine wpList_append_own _ rfl _ _ 243 rfl (w.heap.size+1+1+1+1+1+1+1) 250 i0 (.agg #[.int .u64 0,.int .u8 0,.int .u8 0,.int .i64 0,.int .i64 0]) 5 32 Tryz.underlying243 hi hz0 hz1 hz2 rfl (by decide) _ _ _ rfl (hown7.alloc _) ⟨w7.heap.size,0,none⟩ 1 1 [.int .u64 seq,.int .u8 fr,.int .u8 to,.int .i64 nn,.int .i64 given] rfl rfl (Zcb w7 [.int .u64 seq,.int .u8 fr,.int .u8 to,.int .i64 nn,.int .i64 given] _) (fun x hx=>by simp only [List.mem_cons,List.not_mem_nil,or_false] at hx;rcases hx with rfl | rfl | rfl | rfl | rfl<;>rfl) (by unfold maxLen;omega) (by omega) (by simp;omega) ?_
     intro v' w9 hown9 hgrow9 hnil9
     have ea7:=Zc w7 (.cells #[.int .u64 seq,.int .u8 fr,.int .u8 to,.int .i64 nn,.int .i64 given] 250)
     have hrow7:=ROW7.out
     have hqa:=Zaz hL7 hB7 hown7
     have hqlo:=fun q hq=>(hown7.lt q hq).1
     have hqhi:=fun q hq=>(hown7.lt q hq).2
     obtain ⟨SL,hSL⟩:∃SL,(Value.slice ao all.length acap).ownBlock.toList=SL:=⟨_,rfl⟩
     have hmemS:∀x,x∈SL->(Value.slice ao all.length acap).ownBlock=some x:=fun x hx=>by rw [<-hSL] at hx;simpa using hx
     have k79:Keep SL w7 w9:=by
      have kg:Keep SL (w7.alloc (.cells #[.int .u64 seq,.int .u8 fr,.int .u8 to,.int .i64 nn,.int .i64 given] 250)) w9:=Za0 hSL hgrow9
      exact (Kx ea7).trans kg
     have hebS:eb∉SL:=fun hx=>hEB.out eb (hmemS eb hx) rfl
     have hlow:∀j,j<w.heap.size+1+1+1+1+1+1+1->j∉SL:=fun j hj hx=>by have:=hqlo j (hmemS j hx);omega
     have hrow9:SRow w.heap.size fr to n p pb (.slice ao all.length acap) w9:=hrow7.keep fun j ob hj hh=>k79.at hh (hlow j hj)
     have hL9:=hL7.keep k79 (fun hx=>(hqa p (hmemS p hx)).2 rfl) (fun hx=>(hqa m (hmemS m hx)).1 (by simp))
     have hB9:=hB7.keep k79 (fun hx=>(hqa pb (hmemS pb hx)).1 (by simp)) (fun x hx hx2=>(hqa x (hmemS x hx2)).1 (by simp [hx]))
     have hs9:=k79.at hs7 hebS
     have E9:Ext w w9:=(Keep.trans_fresh (S:=[]) (Kx hE7) k79 (fun x hx=>by right;have:=hqlo x (hmemS x hx);omega)).ext
     obtain ⟨A',cap',rfl⟩:=Yd hown9
     have c5:=Za (j:=0) hrow9.k5 rfl
     have f5:=frozen_of_row w9 (w.heap.size+1+1+1+1+1) 0 _ _ hrow9.k5
     have x3:∀v,(w9.setCell ⟨w.heap.size+1+1+1+1+1,0,none⟩ v).cell? ⟨w.heap.size+1+1+1,0,none⟩=some (.int .i64 n):=fun v=>Za (j:=0) ((Below.heap_setCell _ ⟨w.heap.size+1+1+1+1+1,0,none⟩ _ _ (by show w.heap.size+1+1+1≠w.heap.size+1+1+1+1+1;omega)).trans hrow9.k3) rfl
     have xf3:∀v,(w9.setCell ⟨w.heap.size+1+1+1+1+1,0,none⟩ v).frozen? ⟨w.heap.size+1+1+1,0,none⟩=false:=fun v=>frozen_of_row _ _ 0 _ _ ((Below.heap_setCell _ ⟨w.heap.size+1+1+1+1+1,0,none⟩ _ _ (by show w.heap.size+1+1+1≠w.heap.size+1+1+1+1+1;omega)).trans hrow9.k3)
     have xe:∀v,(w9.setCell ⟨w.heap.size+1+1+1+1+1,0,none⟩ v).cell? ⟨eb,3,none⟩=some (.int .i64 nn):=fun v=>Za (j:=3) ((Below.heap_setCell _ ⟨w.heap.size+1+1+1+1+1,0,none⟩ _ _ (by show eb≠w.heap.size+1+1+1+1+1;exact HNE5.out)).trans hs9) rfl
     have hF:Keep [w.heap.size+1+1+1+1+1,w.heap.size+1+1+1] w9 ((w9.setCell ⟨w.heap.size+1+1+1+1+1,0,none⟩ (.slice A' (all.length+1) cap')).setCell ⟨w.heap.size+1+1+1,0,none⟩ (.int .i64 (n-nn))):=((Keep.refl _ _).setCell (Or.inl (by simp)) _).setCell (Or.inl (by simp)) _
     have hown9a:=ownsRow_setCell_other hown9 (a:=⟨w.heap.size+1+1+1+1+1,0,none⟩) (Yi hown9 hrow9.k5 (by decide)) (.slice A' (all.length+1) cap')
     have hown9b:=ownsRow_setCell_other hown9a (a:=⟨w.heap.size+1+1+1,0,none⟩) (Yi hown9 hrow9.k3 (by decide)) (.int .i64 (n-nn))
     have HGI:=Lib.hid (show SI w fr to get give r0 p m pb g4 dL dB (n-nn) (all++[(seq,fr,to,nn,given)]) (.slice A' (all.length+1) cap') ((w9.setCell ⟨w.heap.size+1+1+1+1+1,0,none⟩ (.slice A' (all.length+1) cap')).setCell ⟨w.heap.size+1+1+1,0,none⟩ (.int .i64 (n-nn))) from
      { row:=⟨hF.at hrow9.k1 (by first | (simp;done) | (simp;omega)),hF.at hrow9.k2 (by first | (simp;done) | (simp;omega)),heap_setCell_same (w9.setCell ⟨w.heap.size+1+1+1+1+1,0,none⟩ _) (w.heap.size+1+1+1) 0 _ _ _ ((Below.heap_setCell _ ⟨w.heap.size+1+1+1+1+1,0,none⟩ _ _ (by show w.heap.size+1+1+1≠w.heap.size+1+1+1+1+1;omega)).trans hrow9.k3),hF.at hrow9.k4 (by first | (simp;done) | (simp;omega)),(Below.heap_setCell _ ⟨w.heap.size+1+1+1,0,none⟩ _ _ (by show w.heap.size+1+1+1+1+1≠w.heap.size+1+1+1;omega)).trans (heap_setCell_same w9 (w.heap.size+1+1+1+1+1) 0 _ _ _ hrow9.k5),hF.at hrow9.k6 (by first | (simp;done) | (simp;omega))⟩
        led:=hL9.keep hF (by simp;omega) (by simp;omega)
        book:=hB9.keep hF (by simp;omega) (fun x hx=>by have:=hg7 x hx;simp;omega)
        own:=by
         rw [List.length_append,Ua]
         exact hown9b
        wf:=hwfd
        ok:=hokd
        sn:=hsnd
        hn:=hng
        ha:=by rw [List.length_append];simp;omega
        hp:=hpI
        hm:=hmI
        hb:=hbI
        hg:=hg7
        ex:=Below.setCell (Below.setCell E9 (p:=⟨w.heap.size+1+1+1+1+1,0,none⟩) (by show w.heap.size<=w.heap.size+1+1+1+1+1;omega) _) (p:=⟨w.heap.size+1+1+1,0,none⟩) (by show w.heap.size<=w.heap.size+1+1+1;omega) _
        on:=by
         rw [<-HON.out,List.length_append]
         congr 1
         first | (simp;done) | (simp;omega) })
     have HM:=Lib.hid (show 65-Zee ((w9.setCell ⟨w.heap.size+1+1+1+1+1,0,none⟩ (.slice A' (all.length+1) cap')).setCell ⟨w.heap.size+1+1+1,0,none⟩ (.int .i64 (n-nn))) (w.heap.size+1+1+1+1+1)<65-Zee wr (w.heap.size+1+1+1+1+1) by
      have:Zee ((w9.setCell ⟨w.heap.size+1+1+1+1+1,0,none⟩ (.slice A' (all.length+1) cap')).setCell ⟨w.heap.size+1+1+1,0,none⟩ (.int .i64 (n-nn))) (w.heap.size+1+1+1+1+1)=all.length+1:=by
       unfold Zee
       rw [Za (j:=0) ((Below.heap_setCell _ ⟨w.heap.size+1+1+1,0,none⟩ _ _ (by show w.heap.size+1+1+1+1+1≠w.heap.size+1+1+1;omega)).trans (heap_setCell_same w9 (w.heap.size+1+1+1+1+1) 0 _ _ (.slice A' (all.length+1) cap') hrow9.k5)) rfl]
       rfl
      rw [this,HLEN.out];omega)
     clear hrow9 hL9 hB9 hs9 hs7 E9 hown9 hown9a hown9b hF hgrow9 hnil9 k79 hlow hmemS hSL hqa hqlo hqhi hrow7 hown7 hL7 hB7 ea7 hebS))
 exact ⟨⟨p,m,pb,g4,dL,dB,n-nn,_,_,HGI.out⟩,HM.out⟩
end Go.Proofs.YtipjchbdogmccaaGreat
