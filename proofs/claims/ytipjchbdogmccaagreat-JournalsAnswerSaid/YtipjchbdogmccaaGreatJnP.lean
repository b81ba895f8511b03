/- Journals, plain: what is written down of a command; what entries keep true. What else a machine keeps true: numbers of offers rise, owners are parties, there are few. Sound (countinghouselaw14), walked. What a step does to positions, plainly: payments, swaps, offers that are placed. What payments and nettings do to positions, plainly: a netting leaves each position as it was. MachinesMoves, plainly: whose positions a step changes, and what it answers. What MachinesMoves asks of states, walked: positions, owners, whether an offer has less left. Keys of lines stay one by one; what a step keeps, in one. Journals: books of positions and journals, as cells. -/
import Derived.Test.YtipjchbdogmccaaGreatRnd
import Derived.Test.YtipjchbdogmccaaGreatBatch
import Derived.Test.YtipjchbdogmccaaGreatStands
import Derived.Test.YtipjchbdogmccaaGreatJw4
namespace Go.Proofs.YtipjchbdogmccaaGreat
structure MX (L:Led) (B:Bk):Prop where
 up:(B.offs.map Off.seq).Pairwise (·<·)
 lo:∀o∈B.offs,1<=o.seq/\o.seq<B.next
 own:∀o∈B.offs,Yu L o.owner=true
 few:B.offs.length<=32
 nx:1<=B.next
theorem MX.par {L L':Led} {B:Bk} (h:MX L B) (hp:L'.par=L.par):MX L' B:=⟨h.up,h.lo,fun o ho=>by rw [Zkj hp];exact h.own o ho,h.few,h.nx⟩
theorem MX.erase {L:Led} {B:Bk} (h:MX L B) (i:Nat):MX L { B with offs:=B.offs.eraseIdx i }:=
 ⟨h.up.sublist ((List.eraseIdx_sublist ..).map _),fun o ho=>h.lo o (List.mem_of_mem_eraseIdx ho),fun o ho=>h.own o (List.mem_of_mem_eraseIdx ho),by have:=h.few;have:=List.length_eraseIdx_le B.offs i;simp only;omega,h.nx⟩
theorem Zlt (c:Int):∀(fl:Flows) (L:Led),(Ym L c fl).par=L.par
 | [],_=>rfl
 | x::fl,L=>by
   show (Ym (U5 L x.1 x.2.1 c x.2.2).2 c fl).par=L.par
   rw [Zlt c fl]
   unfold U5 Ud
   split
   ·rfl
   split<;>rfl
theorem Zm8 (L:Led) (a b c n:Int):(Uz L a b c n).2.par=L.par:=by
 unfold Uz
 split
 ·rfl
 split
 ·rfl
 split
 ·rfl
 exact Zlt _ _ _
theorem par_trust (L:Led) (a b c n:Int):(X4 L a b c n).2.par=L.par:=by
 unfold X4
 split
 ·rfl
 split
 ·rfl
 split
 ·rfl
 split
 ·rfl
 split<;>rfl
theorem Zou (L:Led) (a b c n:Int):(Ja L a b c n).2.par=L.par:=by
 unfold Ja
 split
 ·rfl
 split
 ·rfl
 split<;>rfl
theorem Zgz {left:List Fw} {c:Int}:∀{l:List Fw} {L:Led} {g:Int},(Jl left c l L g).1.par=L.par
 | [],_,_=>rfl
 | x::l,L,g=>by
   unfold Jl
   split
   ·rw [Zgz (l:=l)];exact Zou _ _ _ _ _
   exact Zgz (l:=l)
theorem par_net (L:Led) (c quota:Int):(Za9 L c quota).2.2.2.par=L.par:=by
 unfold Za9
 split
 ·rfl
 split
 ·rfl
 exact Zgz
theorem par_do (L:Led) (B:Bk) (seq taker to n:Int):(doR L B seq taker to n).2.2.1.par=L.par:=by
 unfold doR
 split
 ·rfl
 simp only
 rw [Zm8]
 split
 ·rfl
 exact Zm8 _ _ _ _ _
open Go.RowKit Go.Rg Go.BigFrame
theorem FrA.kp {A:Nat->Prop} {w w':World} {S:List Nat} (k:FrA A w w') (h:∀x,A x->x∈S):Keep S w w':=⟨k.os,k.tape,k.output,k.size,fun i hi hn=>k.block i hi (fun ha=>hn (h i ha))⟩
open Go.RowKit
open Go.RowKit Go.Rg Go.BigFrame
theorem Zjt (fr to get give:Int):∀(f:Nat) (L:Led) (B:Bk) (n:Int) (all:List Fl),(Y7 fr to get give f L B n all).2.1.par=L.par
 | 0,L,B,n,all=>rfl
 | f+1,L,B,n,all=>by
   unfold Y7
   split
   ·rfl
   split
   ·rfl
   split
   ·rfl
   exact (Zjt fr to get give f _ _ _ _).trans (par_do _ _ _ _ _ _)
theorem Zju (o:Off):∀(f:Nat) (L:Led) (B:Bk) (left:Int) (all:List Fl),(Yc o f L B left all).2.1.par=L.par
 | 0,L,B,n,all=>rfl
 | f+1,L,B,n,all=>by
   unfold Yc
   split
   ·rfl
   split
   ·rfl
   split
   ·rfl
   exact (Zju o f _ _ _ _).trans (par_do _ _ _ _ _ _)
theorem par_swap (L:Led) (B:Bk) (fr to get give n most:Int):(Xh L B fr to get give n most).2.1.par=L.par:=by
 unfold Xh
 repeat' split
 all_goals first | rfl | exact Zjt _ _ _ _ _ _ _ _ _
theorem par_come (L:Led) (B:Bk) (o:Off):(Ue L B o).2.2.1.par=L.par:=by
 unfold Ue
 repeat' split
 all_goals first | rfl | exact Zju _ _ _ _ _ _
theorem Zrl {L:Led} {B:Bk} (hl:L.par.length=17) (s:Stp):(Z7 s L B).2.2.1.par.length=17:=by
 unfold Z7
 by_cases k1:s.kd=1
 ·rw [if_pos k1]
  unfold Zau
  repeat' split
  all_goals simp [hl]
 rw [if_neg k1]
 by_cases k2:s.kd=2
 ·rw [if_pos k2];simp only;rw [par_trust];exact hl
 rw [if_neg k2]
 by_cases k3:s.kd=3
 ·rw [if_pos k3];simp only;rw [Zm8];exact hl
 rw [if_neg k3]
 by_cases k4:s.kd=4
 ·rw [if_pos k4];simp only;rw [par_swap];exact hl
 rw [if_neg k4]
 by_cases k5:s.kd=5
 ·rw [if_pos k5];simp only;rw [par_come];exact hl
 rw [if_neg k5]
 by_cases k6:s.kd=6
 ·rw [if_pos k6];exact hl
 rw [if_neg k6]
 by_cases k7:s.kd=7
 ·rw [if_pos k7];simp only;rw [par_net];exact hl
 rw [if_neg k7]
 by_cases k8:s.kd=8
 ·rw [if_pos k8];exact hl
 rw [if_neg k8]
 by_cases k9:s.kd=9
 ·rw [if_pos k9];exact hl
 rw [if_neg k9]
 by_cases k10:s.kd=10
 ·rw [if_pos k10];exact hl
 rw [if_neg k10]
 by_cases k11:s.kd=11
 ·rw [if_pos k11]
  cases Yi B.offs s.sq<;>exact hl
 rw [if_neg k11]
 exact hl
structure HsOk (L:Led) (B:Bk):Prop where
 ok:MOk L B
 par:L.par.length=17
theorem HsOk.step {L:Led} {B:Bk} (h:HsOk L B) (s:Stp):HsOk (Z7 s L B).2.2.1 (Z7 s L B).2.2.2:=
 ⟨mok_step h.ok h.par s,Zrl h.par s⟩
theorem hs_run:∀(l:List Stp) (i:Int) (L:Led) (B:Bk) (g:List Gt),HsOk L B->HsOk (Un l i L B g).2.2.2.1 (Un l i L B g).2.2.2.2
 | [],_,_,_,_,h=>h
 | s::l,i,L,B,g,h=>by
   unfold Un
   split
   ·exact h
   exact hs_run l _ _ _ _ (h.step s)
theorem Zf9 {L:Led} {B:Bk} (h:HsOk L B) (l:List Stp):HsOk (Z4 l L B).2.1 (Z4 l L B).2.2:=by
 unfold Z4
 split
 ·exact h
 split
 ·exact h
 exact hs_run l 0 L B [] h
theorem hs_new:HsOk Zdf ⟨[],1⟩:=⟨⟨wf_led0,fun o ho=>by simp at ho,by simp [Zan],fun o ho=>by simp at ho⟩,rfl⟩
open Go.RowKit Go.Rg Go.BigFrame
def Zes (upto:Int):List En->Int->Int
 | [],n=>n
 | e::l,n=>if upto<e.no then n else Zes upto l e.sm
def Zaj (p c:Int):Bool:=decide (1<=p/\p<=16/\1<=c/\c<=8)
def Zk5 (f:Int->Int->Int) (es:List En) (p c upto:Int):Int:=if Zaj p c then Zes upto (Vk es p c) (f p c) else 0
def turnT (c:Int) (n:Int) (e:En):Int:=if e.cu=c then wrap64 (n+max 0 e.n) else n
def Zjb (es:List En) (c:Int):Int:=es.foldl (turnT c) 0
def Xl (f:Int->Int->Int):List Value:=Zb9.map fun a=>.int .i64 (f a.1 a.2)
theorem Z2 (f:Int->Int->Int):(Xl f).length=153:=by unfold Xl;rw [List.length_map,Za6]
theorem Zdx (f:Int->Int->Int) (p c:Nat) (hp:p<17) (hc:c<9):(Xl f)[p*9+c]? =some (.int .i64 (f (p:Int) (c:Int))):=by
 have hk:p*9+c<Zb9.length:=by rw [Za6];omega
 unfold Xl
 rw [List.getElem?_map,List.getElem?_eq_getElem hk,accs_at _ hk,show (p*9+c) / 9=p by omega,show (p*9+c)%9=c by omega]
 rfl
def Zm0 (f:Int->Int->Int) (p c v:Int):Int->Int->Int:=fun p' c'=>if p'=p/\c'=c then v else f p' c'
theorem bookC_set (f:Int->Int->Int) (p c:Nat) (v:Int) (hp:p<17) (hc:c<9):(Xl f).set (p*9+c) (.int .i64 v)=Xl (Zm0 f (p:Int) (c:Int) v):=by
 refine List.ext_getElem? fun k=> ?_
 rw [List.getElem?_set]
 by_cases hk:k<153
 ·have e1:=Zdx f (k / 9) (k%9) (by omega) (by omega)
  have e2:=Zdx (Zm0 f (p:Int) (c:Int) v) (k / 9) (k%9) (by omega) (by omega)
  rw [show k / 9*9+k%9=k by omega] at e1 e2
  rw [e1,e2]
  unfold Zm0
  by_cases he:p*9+c=k
  ·rw [if_pos he,if_pos (by rw [Z2];omega),if_pos (by omega)]
  rw [if_neg he,if_neg (by omega)]
 rw [if_neg (by omega),List.getElem?_eq_none (by rw [Z2];omega),List.getElem?_eq_none (by rw [Z2];omega)]
theorem Zej (f:Int->Int->Int):(Xl f).toArray.all (·.oneCell')=true:=by
 refine Array.all_eq_true_iff_forall_mem.2 fun v hv=> ?_
 obtain ⟨a,_,rfl⟩:=List.mem_map.1 (show v∈Xl f by simpa using hv)
 rfl
theorem Ux:(Tryz.prog.info? 97).map (·.size)=some 153:=by kernel_rfl
theorem Zb8 {w:World} {b:Nat} {f:Int->Int->Int} {p c:Nat} (h:w.heap[b]? =some (.cells (Xl f).toArray 97 (0,0))) (hp:p<17) (hc:c<9):w.cell? ⟨b,p*9+c,none⟩=some (.int .i64 (f (p:Int) (c:Int))):=
 Za h (by rw [List.getElem?_toArray];exact Zdx f p c hp hc)
theorem Zqm {w:World} {b:Nat} {f:Int->Int->Int} {p c:Nat} {v:Int} (h:w.heap[b]? =some (.cells (Xl f).toArray 97 (0,0))) (hp:p<17) (hc:c<9):
 (w.setCell ⟨b,p*9+c,none⟩ (.int .i64 v)).heap[b]? =some (.cells (Xl (Zm0 f (p:Int) (c:Int) v)).toArray 97 (0,0)):=by
 rw [heap_setCell_same w b (p*9+c) _ _ _ h,List.setIfInBounds_toArray,bookC_set f p c v hp hc]
def X0 (mv:Value) (f g:Int->Int->Int) (many:Int) (ev:Value):List Value:=mv::(Xl f++(Xl g++[.int .i64 many,ev]))
def Xf (w:World) (jb:Nat) (mv:Value) (f g:Int->Int->Int) (many:Int) (ev:Value):Prop:=w.heap[jb]? =some (.cells (X0 mv f g many ev).toArray 99 (0,0))
theorem Zkd (mv:Value) (f g:Int->Int->Int) (many:Int) (ev:Value):(X0 mv f g many ev).length=309:=by
 unfold X0
 rw [List.length_cons,List.length_append,List.length_append,Z2,Z2]
 rfl
section
variable {w:World} {jb:Nat} {mv:Value} {f g:Int->Int->Int} {many:Int} {ev:Value}
theorem Xf.cm (h:Xf w jb mv f g many ev):w.cell? ⟨jb,0,none⟩=some mv:=Za h rfl
theorem Xf.cf (h:Xf w jb mv f g many ev) {p c:Nat} (hp:p<17) (hc:c<9):w.cell? ⟨jb,1+p*9+c,none⟩=some (.int .i64 (f (p:Int) (c:Int))):=
 Za h (by
  rw [List.getElem?_toArray,X0,show 1+p*9+c=(p*9+c)+1 by omega,List.getElem?_cons_succ,List.getElem?_append_left (by rw [Z2];omega)]
  exact Zdx f p c hp hc)
theorem Xf.cn (h:Xf w jb mv f g many ev) {p c:Nat} (hp:p<17) (hc:c<9):w.cell? ⟨jb,154+p*9+c,none⟩=some (.int .i64 (g (p:Int) (c:Int))):=
 Za h (by
  rw [List.getElem?_toArray,X0,show 154+p*9+c=(153+(p*9+c))+1 by omega,List.getElem?_cons_succ,List.getElem?_append_right (by rw [Z2];omega),Z2,show 153+(p*9+c)-153=p*9+c by omega,List.getElem?_append_left (by rw [Z2];omega)]
  exact Zdx g p c hp hc)
theorem jc_tail (mv:Value) (f g:Int->Int->Int) (many:Int) (ev:Value) (j:Nat) (hj:j<2):(X0 mv f g many ev)[307+j]? =[Value.int .i64 many,ev][j]? :=by
 rw [X0,show 307+j=(306+j)+1 by omega,List.getElem?_cons_succ,List.getElem?_append_right (by rw [Z2];omega),Z2,List.getElem?_append_right (by rw [Z2];omega),Z2,show 306+j-153-153=j by omega]
theorem Xf.ck (h:Xf w jb mv f g many ev):w.cell? ⟨jb,307,none⟩=some (.int .i64 many):=Za h (by rw [List.getElem?_toArray];exact jc_tail mv f g many ev 0 (by omega))
theorem Xf.ce (h:Xf w jb mv f g many ev):w.cell? ⟨jb,308,none⟩=some ev:=Za h (by rw [List.getElem?_toArray];exact jc_tail mv f g many ev 1 (by omega))
theorem Xf.lt (h:Xf w jb mv f g many ev):jb<w.heap.size:=Zd h
theorem Xf.ext {w':World} (h:Xf w jb mv f g many ev) (k:Ext w w'):Xf w' jb mv f g many ev:=k.at h
theorem Xf.free (h:Xf w jb mv f g many ev) (j:Nat):w.frozen? ⟨jb,j,none⟩=false:=frozen_of_row _ _ j _ _ h
theorem Xf.set_m (h:Xf w jb mv f g many ev) (mv':Value):Xf (w.setCell ⟨jb,0,none⟩ mv') jb mv' f g many ev:=by
 unfold Xf at *
 rw [heap_setCell_same w jb 0 _ _ _ h,List.setIfInBounds_toArray]
 rfl
theorem Zl6 (mv:Value) (f g:Int->Int->Int) (many many':Int) (ev ev':Value):(X0 mv f g many ev).set 307 (.int .i64 many')=X0 mv f g many' ev/\(X0 mv f g many ev).set 308 ev'=X0 mv f g many ev':=by
 have h1:∀x y,X0 mv f g x y=(mv::(Xl f++Xl g))++[.int .i64 x,y]:=fun x y=>by unfold X0;simp
 have h2:(mv::(Xl f++Xl g)).length=307:=by rw [List.length_cons,List.length_append,Z2,Z2]
 constructor
 rotate_left
 all_goals
  rw [h1,h1,List.set_append,if_neg (by rw [h2];omega),h2]
  rfl
theorem Xf.set_k (h:Xf w jb mv f g many ev) (many':Int):Xf (w.setCell ⟨jb,307,none⟩ (.int .i64 many')) jb mv f g many' ev:=by
 unfold Xf at *
 rw [heap_setCell_same w jb 307 _ _ _ h,List.setIfInBounds_toArray,(Zl6 mv f g many many' ev ev).1]
theorem Xf.set_e (h:Xf w jb mv f g many ev) (ev':Value):Xf (w.setCell ⟨jb,308,none⟩ ev') jb mv f g many ev':=by
 unfold Xf at *
 rw [heap_setCell_same w jb 308 _ _ _ h,List.setIfInBounds_toArray,(Zl6 mv f g many many ev ev').2]
end
def Zks (no i kd:Int) (L L':Led) (a:Int×Int):Option En:=
 if Ya L' a.1 a.2=Ya L a.1 a.2 then none else some ⟨no,i,kd,a.1,a.2,Ya L' a.1 a.2-Ya L a.1 a.2,Ya L' a.1 a.2⟩
def Zbk (no i kd:Int) (L L':Led):List En:=Zb9.filterMap (Zks no i kd L L')
def Zb7 (no:Int):List Stp->Int->Led->Bk->List En
 | [],_,_,_=>[]
 | s::l,i,L,B=>Zbk no i s.kd L (Z7 s L B).2.2.1++Zb7 no l (i+1) (Z7 s L B).2.2.1 (Z7 s L B).2.2.2
structure Jn where
 L0:Led
 many:Int
 es:List En
 L:Led
 B:Bk
def Y0 (L:Led) (B:Bk):Jn:=⟨L,0,[],L,B⟩
def jdo (l:List Stp) (J:Jn):Jn:=
 if (Z4 l J.L J.B).1.1≠0 then { J with many:=J.many+1 }
 else { J with many:=J.many+1,es:=J.es++Zb7 (J.many+1) l 0 J.L J.B,L:=(Z4 l J.L J.B).2.1,B:=(Z4 l J.L J.B).2.2 }
def Ze9 (J:Jn) (p c upto:Int):Int:=Zk5 (Ya J.L0) J.es p c upto
def enA (no i kd:Int) (L L':Led) (a:Int×Int):En:=⟨no,i,kd,a.1,a.2,Ya L' a.1 a.2-Ya L a.1 a.2,Ya L' a.1 a.2⟩
theorem diffE_map (no i kd:Int) (L L':Led):Zbk no i kd L L'=(Zbn (Ya L') (Ya L)).map (enA no i kd L L'):=by
 unfold Zbk Zbn
 induction Zb9 with
 | nil=>rfl
 | cons a l ih=>
   by_cases h:Ya L' a.1 a.2=Ya L a.1 a.2
   ·rw [List.filterMap_cons_none (by unfold Zks;rw [if_pos h]),List.filter_cons_of_neg (by simpa using h),ih]
   rw [List.filterMap_cons_some (b:=enA no i kd L L' a) (by unfold Zks;rw [if_neg h];rfl),List.filter_cons_of_pos (by simpa using h),ih]
   rfl
theorem Zmj {no i kd:Int} {L L':Led} {e:En} (h:e∈Zbk no i kd L L'):
 e.no=no/\e.st=i/\e.kd=kd/\e.n≠0/\e.n=Ya L' e.pa e.cu-Ya L e.pa e.cu/\e.sm=Ya L' e.pa e.cu/\(e.pa,e.cu)∈Zb9:=by
 obtain ⟨a,ha,h2⟩:=List.mem_filterMap.1 h
 unfold Zks at h2
 split at h2
 ·cases h2
 rename_i hne
 injection h2 with h2
 subst h2
 exact ⟨rfl,rfl,rfl,by simp only;omega,rfl,rfl,ha⟩
theorem Zmk (no i kd:Int) (L L':Led):(Zbk no i kd L L').length<=153:=by
 unfold Zbk
 exact Nat.le_trans (List.length_filterMap_le _ _) (Nat.le_of_eq Za6)
def Y6 (more:List (List Stp)) (J:Jn):Jn:=more.foldl (fun J l=>jdo l J) J
theorem Zhb (more:List (List Stp)) (J:Jn) (k:Nat) (hk:k<more.length):Y6 (more.take (k+1)) J=jdo (more[k]'hk) (Y6 (more.take k) J):=by
 unfold Y6
 rw [List.take_succ_eq_append_getElem hk,List.foldl_append]
 rfl
theorem Zm4 {l:List Stp} {L:Led} {B:Bk} (h:¬(Z4 l L B).1.1≠0):(Un l 0 L B []).1=0:=by
 unfold Z4 at h
 split at h
 ·simp at h
 split at h
 ·rename_i h1;exact absurd h1 h
 rename_i h1;simpa using h1
theorem Znv:∀(l:List Stp) (no i:Int) (L:Led) (B:Bk) (e:En),e∈Zb7 no l i L B->e.no=no
 | [],_,_,_,_,e,he=>by simp [Zb7] at he
 | s::l,no,i,L,B,e,he=>by
   rw [Zb7] at he
   rcases List.mem_append.1 he with he | he
   ·exact (Zmj he).1
   exact Znv l no _ _ _ e he
structure JLo (more:List (List Stp)) (J:Jn):Prop where
 many:J.many=(more.length:Int)
 hs:HsOk J.L J.B
 lo:∀e∈J.es,e.no<=(more.length:Int)
theorem Zni {L:Led} {B:Bk} (h:HsOk L B):JLo [] (Y0 L B):=⟨rfl,h,fun e he=>by simp [Y0] at he⟩
theorem jlo_do {more:List (List Stp)} {J:Jn} (h:JLo more J) (l:List Stp):JLo (more++[l]) (jdo l J):=by
 have hlo:∀e∈J.es,e.no<=((more++[l]).length:Int):=fun e he=>by
  have:=h.lo e he
  simp only [List.length_append,List.length_singleton]
  omega
 have hm:J.many+1=((more++[l]).length:Int):=by simp only [List.length_append,List.length_singleton];rw [h.many];omega
 unfold jdo
 split
 ·exact ⟨hm,h.hs,hlo⟩
 refine ⟨hm,Zf9 h.hs l,fun e he=> ?_⟩
 simp only at he
 rcases List.mem_append.1 he with he | he
 ·exact hlo e he
 have h3:=Znv l _ _ _ _ e he
 omega
theorem Ziv:∀(more more0:List (List Stp)) (J:Jn),JLo more0 J->JLo (more0++more) (Y6 more J)
 | [],more0,J,h=>by rw [List.append_nil];exact h
 | l::more,more0,J,h=>by
   have h1:=Ziv more (more0++[l]) (jdo l J) (jlo_do h l)
   rw [List.append_assoc] at h1
   exact h1
def Ch:List En->Int->Int->Prop
 | [],a,b=>a=b
 | e::l,a,b=>e.sm=a+e.n/\Ch l e.sm b
theorem Ch.app:∀{l l':List En} {a b c:Int},Ch l a b->Ch l' b c->Ch (l++l') a c
 | [],_,_,_,_,h,h'=>by rw [Ch] at h;subst h;exact h'
 | _::_,_,_,_,_,h,h'=>⟨h.1,h.2.app h'⟩
theorem Zqs (no i kd:Int) (L L':Led) (p c:Int):∀l:List (Int×Int),l.Nodup->Vk (l.filterMap (Zks no i kd L L')) p c=if (p,c)∈l then (Zks no i kd L L' (p,c)).toList else []
 | [],_=>by simp [Vk]
 | a::l,hn=>by
   rw [List.nodup_cons] at hn
   have ih:=Zqs no i kd L L' p c l hn.2
   by_cases ha:a=(p,c)
   ·subst ha
    rw [if_neg hn.1] at ih
    rw [if_pos (by simp)]
    cases he:Zks no i kd L L' (p,c) with
    | none=>rw [List.filterMap_cons_none he,ih];rfl
    | some e=>
      rw [List.filterMap_cons_some he]
      have hm:e.pa=p/\e.cu=c:=by
       unfold Zks at he
       split at he
       ·cases he
       injection he with he;subst he;exact ⟨rfl,rfl⟩
      unfold Vk at ih ⊢
      rw [List.filter_cons_of_pos (by simp [hm.1,hm.2]),ih]
      rfl
   have hin:((p,c)∈a::l)=((p,c)∈l):=by
    rw [List.mem_cons,eq_iff_iff]
    exact ⟨fun h=>h.resolve_left (fun e=>ha e.symm),.inr⟩
   simp only [hin]
   rw [<-ih]
   cases he:Zks no i kd L L' a with
   | none=>rw [List.filterMap_cons_none he]
   | some e=>
     rw [List.filterMap_cons_some he]
     have hm:e.pa=a.1/\e.cu=a.2:=by
      unfold Zks at he
      split at he
      ·cases he
      injection he with he;subst he;exact ⟨rfl,rfl⟩
     unfold Vk
     rw [List.filter_cons_of_neg]
     rw [hm.1,hm.2]
     simp only [Bool.and_eq_true,beq_iff_eq]
     rintro ⟨h1,h2⟩
     exact ha (Prod.ext h1 h2)
theorem ch_diff (no i kd:Int) (L L':Led) {p c:Int} (ha:Zaj p c=true):Ch (Vk (Zbk no i kd L L') p c) (Ya L p c) (Ya L' p c):=by
 unfold Zaj at ha
 rw [decide_eq_true_eq] at ha
 unfold Zbk
 rw [Zqs _ _ _ _ _ _ _ _ Zs7,if_pos (Zo6.2 (by simp only;omega))]
 unfold Zks
 split
 ·rename_i h;exact h.symm
 exact ⟨by simp only;omega,rfl⟩
theorem ch_cmd {p c:Int} (ha:Zaj p c=true) (no:Int):∀(l:List Stp) (i:Int) (L:Led) (B:Bk) (g:List Gt),(Un l i L B g).1=0->Ch (Vk (Zb7 no l i L B) p c) (Ya L p c) (Ya (Un l i L B g).2.2.2.1 p c)
 | [],i,L,B,g,_=>by rw [Zb7,Un];exact rfl
 | s::l,i,L,B,g,hr=>by
   by_cases h0:(Z7 s L B).2.1=0
   ·rw [Zbv _ _ _ _ _ _ h0] at hr ⊢
    rw [Zb7,Za7]
    exact (ch_diff no i s.kd L _ ha).app (ch_cmd ha no l _ _ _ _ hr)
   rw [Zbw _ _ _ _ _ _ h0] at hr
   exact absurd hr h0
theorem Jz (l:List Stp) (J:Jn):(jdo l J).L=(Z4 l J.L J.B).2.1/\(jdo l J).B=(Z4 l J.L J.B).2.2/\(jdo l J).L0=J.L0/\(jdo l J).many=J.many+1:=by
 unfold jdo
 split
 focus
  rename_i h
  have:(Z4 l J.L J.B).2=(J.L,J.B):=by
   unfold Z4 at h ⊢
   split
   ·rfl
   split
   ·rfl
   rename_i h1 h2
   rw [if_neg h1,if_neg h2] at h
   exact absurd rfl h
  rw [this]
 rotate_left
 all_goals exact ⟨rfl,rfl,rfl,rfl⟩
theorem apply_run {l:List Stp} {L:Led} {B:Bk} (h:¬(Z4 l L B).1.1≠0):(Z4 l L B).2.1=(Un l 0 L B []).2.2.2.1:=by
 unfold Z4 at h ⊢
 split
 ·rename_i h1;rw [if_pos h1] at h;simp at h
 split
 ·rename_i h1 h2;rw [if_neg h1,if_pos h2] at h;exact absurd h2 h
 rfl
theorem ch_do {p c:Int} (ha:Zaj p c=true) {J:Jn} (h:Ch (Vk J.es p c) (Ya J.L0 p c) (Ya J.L p c)) (l:List Stp):Ch (Vk (jdo l J).es p c) (Ya (jdo l J).L0 p c) (Ya (jdo l J).L p c):=by
 unfold jdo
 split
 ·exact h
 rename_i hr
 simp only
 rw [Za7,apply_run hr]
 exact h.app (ch_cmd ha _ l 0 J.L J.B [] (Zm4 hr))
theorem Znx {p c:Int} (ha:Zaj p c=true):∀(more:List (List Stp)) {J:Jn},Ch (Vk J.es p c) (Ya J.L0 p c) (Ya J.L p c)->Ch (Vk (Y6 more J).es p c) (Ya (Y6 more J).L0 p c) (Ya (Y6 more J).L p c)
 | [],_,h=>h
 | l::more,J,h=>Znx ha more (J:=jdo l J) (ch_do ha h l)
theorem Jy:∀(more:List (List Stp)) (J:Jn),(Y6 more J).L0=J.L0
 | [],_=>rfl
 | l::more,J=>(Jy more (jdo l J)).trans (Jz l J).2.2.1
theorem sto_all {upto:Int}:∀{l:List En} {a b:Int},(∀e∈l,e.no<=upto)->Ch l a b->Zes upto l a=b
 | [],_,_,_,h=>h
 | e::l,a,b,hl,h=>by
   rw [Zes,if_neg (by have:=hl e (by simp);omega)]
   exact sto_all (fun x hx=>hl x (by simp [hx])) h.2
theorem Zm1 {upto:Int}:∀{l l':List En} {a b:Int},(∀e∈l,e.no<=upto)->(∀e∈l',upto<e.no)->Ch l a b->Zes upto (l++l') a=b
 | [],[],_,_,_,_,h=>h
 | [],e::l',_,_,_,h2,h=>by
   rw [List.nil_append,Zes,if_pos (h2 e (by simp))]
   exact h
 | e::l,l',a,b,hl,h2,h=>by
   rw [List.cons_append,Zes,if_neg (by have:=hl e (by simp);omega)]
   exact Zm1 (fun x hx=>hl x (by simp [hx])) h2 h.2
theorem Zhc:∀(more:List (List Stp)) (J:Jn),∃t,(Y6 more J).es=J.es++t/\∀e∈t,J.many<e.no
 | [],J=>⟨[],by simp [Y6],fun e he=>by simp at he⟩
 | l::more,J=>by
   obtain ⟨t,h1,h2⟩:=Zhc more (jdo l J)
   have hm:=(Jz l J).2.2.2
   have h3:∃t',(jdo l J).es=J.es++t'/\∀e∈t',J.many<e.no:=by
    unfold jdo
    split
    ·exact ⟨[],by simp,fun e he=>by simp at he⟩
    exact ⟨_,rfl,fun e he=>by have:=Znv l _ _ _ _ e he;omega⟩
   obtain ⟨t',h4,h5⟩:=h3
   refine ⟨t'++t,by rw [show Y6 (l::more) J=Y6 more (jdo l J) from rfl,h1,h4,List.append_assoc],fun e he=> ?_⟩
   rcases List.mem_append.1 he with he | he
   ·exact h5 e he
   have:=h2 e he
   omega
theorem stood_at {L:Led} {B:Bk} (hh:HsOk L B) (more:List (List Stp)) (k:Nat) (hk:k<=more.length) {p c:Int} (ha:Zaj p c=true):
 Ze9 (Y6 more (Y0 L B)) p c (k:Int)=Ya (Y6 (more.take k) (Y0 L B)).L p c:=by
 have h0:=Ziv (more.take k) [] (Y0 L B) (Zni hh)
 rw [List.nil_append] at h0
 have hs:Y6 more (Y0 L B)=Y6 (more.drop k) (Y6 (more.take k) (Y0 L B)):=by
  conv=>lhs;rw [<-List.take_append_drop k more]
  unfold Y6
  rw [List.foldl_append]
 have hlen:((more.take k).length:Int)=(k:Int):=by rw [List.length_take];omega
 obtain ⟨t,h1,h2⟩:=Zhc (more.drop k) (Y6 (more.take k) (Y0 L B))
 unfold Ze9 Zk5
 rw [if_pos ha,hs,h1,Za7,Jy,Jy]
 refine Zm1 (fun e he=> ?_) (fun e he=> ?_) ?_
 ·have:=h0.lo e (List.mem_filter.1 he).1
  omega
 ·have:=h2 e (List.mem_filter.1 he).1
  have:=h0.many
  omega
 have:=Znx ha (more.take k) (J:=Y0 L B) (show Ch [] _ _ from rfl)
 rw [Jy] at this
 exact this
theorem stood_low {L:Led} {B:Bk} (_hh:HsOk L B) (more:List (List Stp)) {p c u:Int} (ha:Zaj p c=true) (hu:u<=0):Ze9 (Y6 more (Y0 L B)) p c u=Ya L p c:=by
 obtain ⟨t,h1,h2⟩:=Zhc more (Y0 L B)
 unfold Ze9 Zk5
 rw [if_pos ha,h1,Za7,Jy]
 refine Zm1 (l:=[]) (fun e he=>by simp at he) (fun e he=> ?_) rfl
 have:=h2 e (List.mem_filter.1 he).1
 have h3:(Y0 L B).many=0:=rfl
 omega
theorem Zq2 {L:Led} {B:Bk} (hh:HsOk L B) (more:List (List Stp)) {p c u:Int} (ha:Zaj p c=true) (hu:(more.length:Int)<=u):Ze9 (Y6 more (Y0 L B)) p c u=Ya (Y6 more (Y0 L B)).L p c:=by
 have h0:=Ziv more [] (Y0 L B) (Zni hh)
 rw [List.nil_append] at h0
 unfold Ze9 Zk5
 rw [if_pos ha]
 refine sto_all (fun e he=> ?_) ?_
 ·have:=h0.lo e (List.mem_filter.1 he).1
  omega
 exact Znx ha more (J:=Y0 L B) (show Ch [] _ _ from rfl)
def Ran (L:Led) (B:Bk):Prop:=∃cs:List (List Stp),L=(Y6 cs (Y0 Zdf ⟨[],1⟩)).L/\B=(Y6 cs (Y0 Zdf ⟨[],1⟩)).B
theorem Ran.new:Ran Zdf ⟨[],1⟩:=⟨[],rfl,rfl⟩
theorem Ran.step {L:Led} {B:Bk} (h:Ran L B) (l:List Stp):Ran (Z4 l L B).2.1 (Z4 l L B).2.2:=by
 obtain ⟨cs,rfl,rfl⟩:=h
 have e:Y6 (cs++[l]) (Y0 Zdf ⟨[],1⟩)=jdo l (Y6 cs (Y0 Zdf ⟨[],1⟩)):=by unfold Y6;rw [List.foldl_append];rfl
 have h1:=Jz l (Y6 cs (Y0 Zdf ⟨[],1⟩))
 exact ⟨cs++[l],by rw [e,h1.1],by rw [e,h1.2.1]⟩
theorem jrun_hs:∀(cs:List (List Stp)) (J:Jn),HsOk J.L J.B->HsOk (Y6 cs J).L (Y6 cs J).B
 | [],_,h=>h
 | l::cs,J,h=>by
   have h1:=Jz l J
   exact jrun_hs cs (jdo l J) (by rw [h1.1,h1.2.1];exact Zf9 h l)
theorem Ran.hs {L:Led} {B:Bk} (h:Ran L B):HsOk L B:=by
 obtain ⟨cs,rfl,rfl⟩:=h
 exact jrun_hs cs _ hs_new
end Go.Proofs.YtipjchbdogmccaaGreat
