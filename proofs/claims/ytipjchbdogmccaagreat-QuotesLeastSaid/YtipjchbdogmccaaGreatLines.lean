/- Lines of a ledger in their order, plainly; positions. What a payment does to positions, plainly. The sort of a ledger's lines: order, SortFunc. Lines of a ledger, in their order; a party's position. Lists of lines, and of offers, that are the same. Positions; whether one has moved; whether debts are sound. -/
import Derived.Test.YtipjchbdogmccaaGreatWf
import Derived.Test.YtipjchbdogmccaaGreatSortW
import Derived.Test.YtipjchbdogmccaaGreatCmpD
import Derived.Test.YtipjchbdogmccaaGreatBest2
import Derived.Maps.RangeRun
import Derived.Maps.RangeWalk
import Derived.Test.YtipjchbdogmccaaGreatAll
set_option maxHeartbeats 3200000
set_option maxRecDepth 100000
namespace Go.Proofs.YtipjchbdogmccaaGreat
abbrev Ln:=K3×V2
def Xx (x:Ln):List Value:=[.int .u8 x.1.1,.int .u8 x.1.2.1,.int .u8 x.1.2.2,.int .i64 x.2.1,.int .i64 x.2.2]
def Ju (x:Ln):Value:= .agg #[.int .u8 x.1.1,.int .u8 x.1.2.1,.int .u8 x.1.2.2,.int .i64 x.2.1,.int .i64 x.2.2]
def Ym (l:Zr):List Value:=l.flatMap Xx
def Zj1 (x y:Ln):Int:=orI (Vo x.1.2.2 y.1.2.2) (orI (Vo x.1.1 y.1.1) (Vo x.1.2.1 y.1.2.1))
def Zdt (x y:Ln):Bool:=decide (Zj1 x y<0)
def Z2 (l:Zr):Zr:=Jb Zdt l
theorem Zga {x y:Ln}:Zdt x y=true↔x.1.2.2<y.1.2.2\/(x.1.2.2=y.1.2.2/\(x.1.1<y.1.1\/(x.1.1=y.1.1/\x.1.2.1<y.1.2.1))):=by
 unfold Zdt Zj1
 rw [decide_eq_true_eq,Zhz,Zhz,Zas,Zdp,Zas,Zdp,Zas]
theorem Zb0 {x y:Ln}:Zdt x y=false↔¬(x.1.2.2<y.1.2.2\/(x.1.2.2=y.1.2.2/\(x.1.1<y.1.1\/(x.1.1=y.1.1/\x.1.2.1<y.1.2.1)))):=by
 rw [<-Bool.not_eq_true,Zga]
theorem Zop (x:Ln):Zdt x x=false:=by rw [Zb0];omega
theorem Zi8 (x y:Ln) (h:Zdt x y=true):Zdt y x=false:=by
 rw [Zga] at h
 rw [Zb0]
 omega
theorem Zcr (x y z:Ln) (h1:Zdt x y=false) (h2:Zdt y z=false):Zdt x z=false:=by
 rw [Zb0] at *
 omega
theorem Zq0 (x y z:Ln) (h1:Zdt x y=true) (h2:Zdt y z=true):Zdt x z=true:=by
 rw [Zga] at *
 omega
theorem Zq1 {x y:Ln} (h1:Zdt x y=false) (h2:Zdt y x=false):x.1=y.1:=by
 rw [Zb0] at *
 obtain ⟨⟨a,b,c⟩,v⟩:=x
 obtain ⟨⟨a',b',c'⟩,v'⟩:=y
 simp only at *
 have e1:c=c':=by omega
 have e2:a=a':=by omega
 have e3:b=b':=by omega
 rw [e1,e2,e3]
theorem Jv (l:Zr):(Z2 l).Perm l:=X4 _ _
theorem Zow {l:Zr} (h:(l.map (·.1)).Nodup):∀x∈l,∀y∈l,x.1=y.1->x=y:=by
 intro x hx y hy e
 induction l with
 | nil=>cases hx
 | cons z l ih=>
   rw [List.map_cons,List.nodup_cons] at h
   rcases List.mem_cons.1 hx with hx2 | hx2
   ·rcases List.mem_cons.1 hy with hy2 | hy2
    ·rw [hx2,hy2]
    exact absurd (List.mem_map.2 ⟨y,hy2,by rw [<-e,hx2]⟩) h.1
   rcases List.mem_cons.1 hy with hy2 | hy2
   ·exact absurd (List.mem_map.2 ⟨x,hx2,by rw [e,hy2]⟩) h.1
   exact ih h.2 hx2 hy2
theorem Zja {l l':Zr} (hk:(l.map (·.1)).Nodup) (hp:l'.Perm l) (h:l'.Pairwise (fun a b=>Zdt b a=false)):l'=Z2 l:=
 Zbw l' _ (hp.trans (Jv l).symm) h (Uq (p:=fun _=>True) (fun x y _ _=>Zi8 x y) (fun x y z _ _ _=>Zcr x y z) _ fun _ _=>trivial)
  fun x hx y hy h1 h2=>Zow hk x (hp.subset hx) y (hp.subset hy) (Zq1 h1 h2)
theorem Ue (l:Zr):(Z2 l).length=l.length:=(Jv l).length_eq
theorem Zam {l:Zr} {x:Ln}:x∈Z2 l↔x∈l:=(Jv l).mem_iff
def Zal (p c:Int) (x:Ln):Int:=if x.1.2.2=c then (if x.1.1=p then x.2.2 else if x.1.2.1=p then -x.2.2 else 0) else 0
def X2:List Int->Int
 | []=>0
 | x::l=>x+X2 l
theorem sumI_perm {l l':List Int} (h:l.Perm l'):X2 l=X2 l':=by
 induction h with
 | nil=>rfl
 | cons x _ ih=>simp only [X2,ih]
 | swap x y l=>simp only [X2];omega
 | trans _ _ h1 h2=>rw [h1,h2]
theorem Zgw (l l':List Int):X2 (l++l')=X2 l+X2 l':=by
 induction l with
 | nil=>simp [X2]
 | cons x l ih=>simp only [List.cons_append,X2,ih];omega
def Ur (l:Zr) (p c:Int):Int:=X2 (l.map (Zal p c))
def Zf0 (L:Led) (p c:Int):Int:=Ur L.lines p c
theorem posL_perm {l l':Zr} (h:l.Perm l') (p c:Int):Ur l p c=Ur l' p c:=sumI_perm (h.map _)
theorem Zqq (l:Zr) (p c:Int):Ur (Z2 l) p c=Ur l p c:=posL_perm (Jv l) p c
theorem Zlc (l:Zr) (k:Nat) (hk:k<l.length) (p c:Int):Ur (l.take (k+1)) p c=Ur (l.take k) p c+Zal p c (l[k]'hk):=by
 unfold Ur
 rw [List.take_succ_eq_append_getElem hk,List.map_append,Zgw]
 simp [X2]
theorem posT_bd {x:Ln} (p c:Int) (h0:0<=x.2.2) (h1:x.2.2<=1099511627776): -1099511627776<=Zal p c x/\Zal p c x<=1099511627776:=by
 unfold Zal
 repeat' split
 all_goals omega
theorem Zms (p c:Int):∀(l:Zr),(∀x∈l,0<=x.2.2/\x.2.2<=1099511627776)-> -(1099511627776*(l.length:Int))<=Ur l p c/\Ur l p c<=1099511627776*(l.length:Int)
 | [],_=>by simp [Ur,X2]
 | x::l,h=>by
   have h1:=posT_bd p c (h x (by simp)).1 (h x (by simp)).2
   have h2:=Zms p c l (fun y hy=>h y (by simp [hy]))
   unfold Ur at *
   simp only [List.map_cons,X2,List.length_cons]
   omega
theorem Zlb (p c:Int) (k:K3) (x:Int):Zal p c (k,(x,0))=0:=by
 unfold Zal
 repeat' split
 all_goals simp
theorem posT_add (p c:Int) (k:K3) (x y m n:Int):Zal p c (k,(x,m+n))=Zal p c (k,(y,m))+Zal p c (k,(y,n)):=by
 unfold Zal
 simp only
 repeat' split
 all_goals omega
theorem posT_lim (p c:Int) (k:K3) (x y m:Int):Zal p c (k,(x,m))=Zal p c (k,(y,m)):=rfl
theorem lk_cons (x:Ln) (l:Zr) (k:K3):lk (x::l) k=if x.1==k then x.2 else lk l k:=by
 unfold lk lkO
 rw [List.find?_cons]
 cases h:x.1==k<;>simp
theorem Zn9 (k:K3) (v:V2) (p c:Int):∀l:Zr,Ur (upd l k v) p c=Ur l p c+Zal p c (k,v)-Zal p c (k,lk l k)
 | []=>by
   have h0:lk [] k=(0,0):=rfl
   rw [h0,Zlb]
   simp [upd,Ur,X2]
 | x::l=>by
   have ih:=Zn9 k v p c l
   rw [lk_cons]
   unfold upd
   unfold Ur at *
   by_cases h:x.1==k
   ·rw [if_pos h,if_pos h]
    have hk:x.1=k:=by simpa using h
    have hx:Zal p c x=Zal p c (k,x.2):=by rw [<-hk]
    simp only [List.map_cons,X2]
    omega
   rw [if_neg h,if_neg h]
   simp only [List.map_cons,X2]
   omega
theorem Zoa (l:Zr) (k:K3) (n p c:Int):Ur (U8 l k n) p c=Ur l p c+Zal p c (k,(0,n)):=by
 unfold U8
 by_cases h:n=0
 ·subst h
  rw [if_pos rfl,Zlb]
  omega
 rw [if_neg h,Zn9,posT_add p c k _ 0,posT_lim p c k 0 (lk l k).1]
 have:Zal p c (k,lk l k)=Zal p c (k,((lk l k).1,(lk l k).2)):=rfl
 omega
def mvP (p c' a b c n:Int):Int:=if c'=c then (if p=b then n else 0)-(if p=a then n else 0) else 0
theorem pos_push (L:Led) (a b c n p c':Int) (hab:a≠b):Zf0 (V8 L a b c n) p c'=Zf0 L p c'+mvP p c' a b c n:=by
 unfold Zf0 V8 mvP
 simp only
 rw [Zoa,Zoa]
 generalize min n (lk L.lines (a,b,c)).2=f
 unfold Zal
 simp only
 by_cases hc:c'=c
 ·subst hc
  simp only [↓reduceIte]
  by_cases h1:p=a
  ·subst h1
   rw [if_pos rfl,if_neg (fun e=>hab e.symm),if_pos rfl,if_neg hab,if_pos rfl]
   omega
  by_cases h2:p=b
  ·subst h2
   rw [if_neg hab,if_pos rfl,if_pos rfl,if_pos rfl,if_neg (fun e=>hab e.symm)]
   omega
  rw [if_neg (fun e=>h1 e.symm),if_neg (fun e=>h2 e.symm),if_neg (fun e=>h2 e.symm),if_neg (fun e=>h1 e.symm),if_neg h2,if_neg h1]
  omega
 rw [if_neg (fun e=>hc e.symm),if_neg (fun e=>hc e.symm),if_neg hc]
 omega
theorem Zm2 (l:Zr) (k k':K3) (n:Int):lk (U8 l k n) k'=if k'=k then ((lk l k).1,(lk l k).2+n) else lk l k':=by
 unfold U8
 by_cases h:n=0
 ·rw [if_pos h]
  by_cases e:k'=k
  ·rw [if_pos e,e,h];simp
  rw [if_neg e]
 rw [if_neg h,lk_upd]
 by_cases e:k'=k
 ·rw [if_pos e,if_pos e.symm]
 rw [if_neg e,if_neg (fun h=>e h.symm)]
theorem Zh2 (L:Led) (a b c n:Int) (hab:a≠b) (k:K3):lk (V8 L a b c n).lines k=
 if k=(a,b,c) then ((lk L.lines (a,b,c)).1,(lk L.lines (a,b,c)).2-min n (lk L.lines (a,b,c)).2)
 else if k=(b,a,c) then ((lk L.lines (b,a,c)).1,(lk L.lines (b,a,c)).2+(n-min n (lk L.lines (a,b,c)).2)) else lk L.lines k:=by
 unfold V8
 simp only
 have hne:((b,a,c):K3)≠(a,b,c):=fun e=>hab (by injection e with e1 e2;exact e1.symm)
 rw [Zm2]
 by_cases h1:k=(a,b,c)
 ·subst h1
  rw [if_neg (fun e=>hne e.symm),if_pos rfl,Zm2,if_pos rfl]
  rfl
 rw [if_neg h1]
 by_cases h2:k=(b,a,c)
 ·subst h2
  rw [if_pos rfl,if_pos rfl,Zm2,if_neg hne]
 rw [if_neg h2,if_neg h2,Zm2,if_neg h1]
theorem room_push (L:Led) (a b c n x y:Int) (hab:a≠b):Xo (V8 L a b c n) x y c=
 if x=b/\y=a then Xo L x y c+n else if x=a/\y=b then Xo L x y c-n else Xo L x y c:=by
 unfold Xo
 rw [Zh2 L a b c n hab,Zh2 L a b c n hab]
 have k1:∀u v:Int,((u,v,c):K3)=(a,b,c)↔u=a/\v=b:=fun u v=>by simp
 have k2:∀u v:Int,((u,v,c):K3)=(b,a,c)↔u=b/\v=a:=fun u v=>by simp
 simp only [k1,k2]
 by_cases h1:x=b/\y=a
 ·obtain ⟨e1,e2⟩:=h1
  subst e1 e2
  simp only [show ¬(x=y/\y=x) from fun e=>hab e.2,and_self,↓reduceIte]
  omega
 rw [if_neg h1]
 by_cases h2:x=a/\y=b
 ·obtain ⟨e1,e2⟩:=h2
  subst e1 e2
  simp only [show ¬(y=x/\x=y) from fun e=>hab e.2,and_self,↓reduceIte]
  omega
 rw [if_neg h2,if_neg h2,if_neg h1,if_neg (fun e=>h1 ⟨e.2,e.1⟩),if_neg (fun e=>h2 ⟨e.2,e.1⟩)]
theorem Zqj (L:Led) (a b c n x y c':Int) (hab:a≠b) (hc:c'≠c):Xo (V8 L a b c n) x y c'=Xo L x y c':=by
 unfold Xo
 rw [Zh2 L a b c n hab,Zh2 L a b c n hab]
 have k1:∀u v x y:Int,((u,v,c'):K3)=(x,y,c)↔False:=fun u v x y=>by simp [hc]
 simp only [k1,if_false]
theorem gAt_inj {a b a' b':Nat} (hb:b<17) (hb':b'<17) (h:a*17+b=a' * 17+b'):a=a'/\b=b':=by omega
theorem Zll (L:Led) (cur a:Int):∀(bs g:List Int),(Jt L cur a bs g).length=g.length
 | [],_=>rfl
 | b::bs,g=>by
   have:=Zll L cur a bs (g.set (gAt a b) (Xo L a b cur))
   rw [List.length_set] at this
   exact this
theorem Zoh (L:Led) (cur:Int) (a:Nat) (ha:a<17):∀(bs g:List Int),g.length=289->(∀b∈bs,∃j:Nat,j<17/\b=(j:Int))->∀x y:Nat,x<17->y<17->
 (Jt L cur a bs g).getD (x*17+y) 0=if x=a/\(y:Int)∈bs then Xo L x y cur else g.getD (x*17+y) 0
 | [],g,_,_,x,y,_,_=>by simp [Jt]
 | b::bs,g,hl,hb,x,y,hx,hy=>by
   obtain ⟨j,hj,rfl⟩:=hb b (by simp)
   have ih:=Zoh L cur a ha bs (g.set (gAt a j) (Xo L a j cur)) (by simpa using hl) (fun b hb2=>hb b (by simp [hb2])) x y hx hy
   have e:Jt L cur a ((j:Int)::bs) g=Jt L cur a bs (g.set (gAt a j) (Xo L a j cur)):=rfl
   rw [e,ih,Zh4,Zcy _ _ _ _ (by omega)]
   by_cases h1:x=a/\(y:Int)∈bs
   ·rw [if_pos h1,if_pos ⟨h1.1,by simp [h1.2]⟩]
   rw [if_neg h1]
   by_cases h2:x*17+y=a*17+j
   ·obtain ⟨rfl,rfl⟩:=gAt_inj hy hj h2
    rw [if_pos h2,if_pos ⟨rfl,by simp⟩]
   rw [if_neg h2,if_neg]
   rintro ⟨rfl,h3⟩
   rcases List.mem_cons.1 h3 with h3 | h3
   ·exact h2 (by omega)
   exact h1 ⟨rfl,h3⟩
theorem ofK_at (L:Led) (cur:Int) (ps:List Int) (hps:∀b∈ps,∃j:Nat,j<17/\b=(j:Int)):∀(qs g:List Int),g.length=289->(∀b∈qs,∃j:Nat,j<17/\b=(j:Int))->∀x y:Nat,x<17->y<17->
 (qs.foldl (fun g a=>Jt L cur a ps g) g).getD (x*17+y) 0=if (x:Int)∈qs/\(y:Int)∈ps then Xo L x y cur else g.getD (x*17+y) 0
 | [],g,_,_,x,y,_,_=>by simp
 | a::qs,g,hl,ha,x,y,hx,hy=>by
   obtain ⟨j,hj,rfl⟩:=ha a (by simp)
   have ih:=ofK_at L cur ps hps qs (Jt L cur j ps g) (by rw [Zll];exact hl) (fun b hb2=>ha b (by simp [hb2])) x y hx hy
   rw [List.foldl_cons,ih,Zoh L cur j hj ps g hl hps x y hx hy]
   by_cases h1:(x:Int)∈qs/\(y:Int)∈ps
   ·rw [if_pos h1,if_pos ⟨by simp [h1.1],h1.2⟩]
   rw [if_neg h1]
   by_cases h2:x=j/\(y:Int)∈ps
   ·obtain ⟨rfl,h2⟩:=h2
    rw [if_pos ⟨rfl,h2⟩,if_pos ⟨by simp,h2⟩]
   rw [if_neg h2,if_neg]
   rintro ⟨h3,h4⟩
   rcases List.mem_cons.1 h3 with h3 | h3
   ·exact h2 ⟨by omega,h4⟩
   exact h1 ⟨h3,h4⟩
theorem Zom (L:Led) (x:Nat):(x:Int)∈Zx L↔x<17/\L.par.getD x false=true:=by
 unfold Zx Zhs
 rw [List.mem_map]
 constructor
 ·rintro ⟨j,hj,e⟩
  have e2:(j:Int)=(x:Int):=e
  have:j=x:=by omega
  subst this
  have:=List.mem_filter.1 hj
  exact ⟨List.mem_range.1 this.1,this.2⟩
 rintro ⟨h1,h2⟩
 exact ⟨x,List.mem_filter.2 ⟨List.mem_range.2 h1,h2⟩,rfl⟩
theorem Zgz (L:Led):∀b∈Zx L,∃j:Nat,j<17/\b=(j:Int):=by
 intro b hb
 obtain ⟨k,hk,rfl⟩:=List.getElem_of_mem hb
 exact Zg1 L k hk
theorem Zi4 (L:Led) (cur:Int) (x y:Nat) (hx:x<17) (hy:y<17):
 (ofR L cur).getD (x*17+y) 0=if L.par.getD x false=true/\L.par.getD y false=true then Xo L x y cur else 0:=by
 have h:=ofK_at L cur (Zx L) (Zgz L) (Zx L) (List.replicate 289 0) List.length_replicate (Zgz L) x y hx hy
 have e:(Zx L).foldl (fun g a=>Jt L cur a (Zx L) g) (List.replicate 289 0)=ofR L cur:=rfl
 rw [e] at h
 have hz:(List.replicate 289 (0:Int)).getD (x*17+y) 0=0:=by
  rw [List.getD_eq_getElem?_getD,List.getElem?_replicate]
  split<;>rfl
 rw [h,hz]
 simp only [Zom,hx,hy,true_and]
theorem Zdf {L:Led} (hw:WF L) (cur:Int):(ofR L cur).length=289:=(Zog hw cur).len
theorem Ze5 {l l':List Int} (h1:l.length=289) (h2:l'.length=289) (h:∀x y:Nat,x<17->y<17->l.getD (x*17+y) 0=l'.getD (x*17+y) 0):l=l':=by
 apply List.ext_getElem (by omega)
 intro k hk hk'
 have:=h (k / 17) (k%17) (by omega) (by omega)
 rw [show k / 17*17+k%17=k by omega,List.getD_eq_getElem?_getD,List.getD_eq_getElem?_getD,List.getElem?_eq_getElem hk,List.getElem?_eq_getElem hk'] at this
 exact this
theorem Zgy {L:Led} (hw:WF L) (c:Int) (a b:Nat) (n:Int) (ha:a<17) (hb:b<17) (hab:a≠b) (hn:1<=n) (hc:n<=Yi (ofR L c) a b):
 Js L a b c n=(0,V8 L a b c n)/\ofR (V8 L a b c n) c=Vz (ofR L c) a b n/\∀c',c'≠c->ofR (V8 L a b c n) c'=ofR L c':=by
 obtain ⟨⟨g1,_⟩,g2,_⟩:=Zae (c:=ofR L c) (a:=a) (b:=b) (by omega)
 have hcap:=Zb5 (ofR L c) a b (by omega) ha (by omega) hb
 rw [Zi4 L c a b ha hb] at hcap
 have habI:(a:Int)≠(b:Int):=by omega
 have hpar:L.par.getD a false=true/\L.par.getD b false=true:=by
  by_cases h:L.par.getD a false=true/\L.par.getD b false=true
  ·exact h
  rw [if_neg h] at hcap;omega
 rw [if_pos hpar] at hcap
 have hpr:Js L a b c n=(0,V8 L a b c n):=by
  unfold Js
  rw [if_neg (by omega),if_neg (by omega)]
 have hwp:WF (V8 L a b c n):=by
  have:=Zmj hw a b c n
  rw [hpr] at this
  exact this
 have hpp:(V8 L a b c n).par=L.par:=rfl
 refine ⟨hpr,?_,fun c' hc'=> ?_⟩
 ·refine Ze5 (Zdf hwp c) (by rw [Zlz];exact Zdf hw c) fun x y hx hy=> ?_
  rw [Zi4 _ c x y hx hy,hpp,Zbq _ (Zdf hw c) a b n ha hb hab,Zi4 L c x y hx hy,room_push L a b c n x y habI]
  by_cases h1:x=b/\y=a
  ·obtain ⟨rfl,rfl⟩:=h1
   rw [if_pos ⟨hpar.2,hpar.1⟩,if_pos ⟨rfl,rfl⟩,if_pos rfl,if_pos ⟨hpar.2,hpar.1⟩]
  have h1':¬((x:Int)=(b:Int)/\(y:Int)=(a:Int)):=by omega
  rw [if_neg (show ¬x*17+y=b*17+a by omega),if_neg h1']
  by_cases h2:x=a/\y=b
  ·obtain ⟨rfl,rfl⟩:=h2
   rw [if_pos ⟨hpar.1,hpar.2⟩,if_pos ⟨rfl,rfl⟩,if_pos rfl,if_pos ⟨hpar.1,hpar.2⟩]
  have h2':¬((x:Int)=(a:Int)/\(y:Int)=(b:Int)):=by omega
  rw [if_neg h2',if_neg (show ¬x*17+y=a*17+b by omega)]
 refine Ze5 (Zdf hwp c') (Zdf hw c') fun x y hx hy=> ?_
 rw [Zi4 _ c' x y hx hy,hpp,Zi4 L c' x y hx hy,Zqj L a b c n x y c' habI hc']
def Zlt:List Int->Int->Int
 | [],a=>a
 | b::r,_=>Zlt r b
structure WayP (L L':Led) (a b c n:Int):Prop where
 wf:WF L'
 par:L'.par=L.par
 pos:∀p c',Zf0 L' p c'=Zf0 L p c'+mvP p c' a b c n
 other:∀c',c'≠c->ofR L' c'=ofR L c'
 lims:L'.lines.map (fun x=>(x.1,x.2.1))=L.lines.map (fun x=>(x.1,x.2.1))
theorem mvP_zero (p c' a b c:Int):mvP p c' a b c 0=0:=by unfold mvP;simp
theorem mvP_self (p c' a c n:Int):mvP p c' a a c n=0:=by unfold mvP;split<;>omega
theorem mvP_trans (p c' a b e c n:Int):mvP p c' a b c n+mvP p c' b e c n=mvP p c' a e c n:=by
 unfold mvP
 split
 ·omega
 rfl
theorem mvP_add (p c' a b c n k:Int):mvP p c' a b c n+mvP p c' a b c k=mvP p c' a b c (n+k):=by
 unfold mvP
 repeat' split
 all_goals omega
theorem WayP.refl {L:Led} (hw:WF L) (a b c:Int):WayP L L a b c 0:=⟨hw,rfl,fun p c'=>by rw [mvP_zero];omega,fun _ _=>rfl,rfl⟩
theorem WayP.self {L:Led} (hw:WF L) (a c n:Int):WayP L L a a c n:=⟨hw,rfl,fun p c'=>by rw [mvP_self];omega,fun _ _=>rfl,rfl⟩
theorem WayP.trans {L L' L2:Led} {a b e c n:Int} (h:WayP L L' a b c n) (k:WayP L' L2 b e c n):WayP L L2 a e c n:=
 ⟨k.wf,k.par.trans h.par,fun p c'=>by rw [k.pos,h.pos,<-mvP_trans p c' a b e c n];omega,fun c' hc=>(k.other c' hc).trans (h.other c' hc),k.lims.trans h.lims⟩
theorem WayP.more {L L' L2:Led} {a b c n m:Int} (h:WayP L L' a b c n) (k:WayP L' L2 a b c m):WayP L L2 a b c (n+m):=
 ⟨k.wf,k.par.trans h.par,fun p c'=>by rw [k.pos,h.pos,<-mvP_add p c' a b c n m];omega,fun c' hc=>(k.other c' hc).trans (h.other c' hc),k.lims.trans h.lims⟩
theorem Znv {k:K3} {v v0:V2}:∀{l:Zr},lkO l k=some v0->v.1=v0.1->(upd l k v).map (fun x=>(x.1,x.2.1))=l.map (fun x=>(x.1,x.2.1))
 | [],h,_=>by simp [lkO] at h
 | y::l,h,he=>by
   rw [Zct] at h
   unfold upd
   split
   ·rename_i hc
    rw [if_pos hc] at h
    injection h with h
    have hk:y.1=k:=by simpa using hc
    simp [hk,he,h]
   rename_i hc
   rw [if_neg hc] at h
   simp [Znv h he]
theorem Zgs (l:Zr) (k:K3) (n:Int) (h:lkO l k=none->n=0):(U8 l k n).map (fun x=>(x.1,x.2.1))=l.map (fun x=>(x.1,x.2.1)):=by
 unfold U8
 split
 ·rfl
 rename_i hn
 cases hk:lkO l k with
 | none=>exact absurd (h hk) hn
 | some v0=>exact Znv hk (by rw [Zm0 hk])
theorem addL_lkO (l:Zr) (k k':K3) (n:Int) (h:lkO l k=none->n=0) (hk:lkO (U8 l k n) k'=none):lkO l k'=none:=by
 have hl:=Zgs l k n h
 cases hc:lkO l k' with
 | none=>rfl
 | some v=>
   exfalso
   have hm:=Zdk hc
   have:k'∈(U8 l k n).map (·.1):=by
    have e:(U8 l k n).map (·.1)=((U8 l k n).map (fun x=>(x.1,x.2.1))).map (·.1):=by simp
    rw [e,hl]
    simp only [List.map_map]
    exact List.mem_map.2 ⟨_,hm,rfl⟩
   obtain ⟨x,hx,rfl⟩:=List.mem_map.1 this
   unfold lkO at hk
   rw [Option.map_eq_none_iff,List.find?_eq_none] at hk
   have:=hk x hx
   simp at this
theorem push_lims {L:Led} (hw:WF L) (a b c n:Int) (hr:n<=Xo L a b c) (h1:1<=n):(V8 L a b c n).lines.map (fun x=>(x.1,x.2.1))=L.lines.map (fun x=>(x.1,x.2.1)):=by
 have hb:=hw.lk (a,b,c)
 unfold V8
 simp only
 have c1:lkO L.lines (a,b,c)=none-> -(min n (lk L.lines (a,b,c)).2)=0:=fun h=>by
  rw [Zm1 h];simp only;omega
 rw [Zgs _ (b,a,c) _ (fun h=> ?_),Zgs _ _ _ c1]
 have h2:=addL_lkO L.lines (a,b,c) (b,a,c) _ c1 h
 unfold Xo at hr
 rw [Zm1 h2] at hr
 simp only at hr
 omega
theorem way_push {L:Led} (hw:WF L) (c:Int) (a b:Nat) (n:Int) (ha:a<17) (hb:b<17) (hab:a≠b) (hn:1<=n) (hc:n<=Yi (ofR L c) a b):WayP L (V8 L a b c n) a b c n:=by
 obtain ⟨h1,h2,h3⟩:=Zgy hw c a b n ha hb hab hn hc
 have hwp:=Zmj hw a b c n
 rw [h1] at hwp
 have hr:n<=Xo L a b c:=by
  by_cases h:Xo L a b c<n
  ·unfold Js at h1
   rw [if_neg (by omega),if_pos h] at h1
   cases h1
  omega
 exact ⟨hwp,rfl,fun p c'=>pos_push L a b c n p c' (by omega),h3,push_lims hw a b c n hr hn⟩
theorem Zqt (L:Led) (c:Int) (f g:Flows):Yy L c (f++g)=Yy (Yy L c f) c g:=by
 unfold Yy;rw [List.foldl_append]
theorem Zky {d:List Int} (c n:Int) (hn:1<=n):∀(l:List Int) (a:Int) (L:Led),WF L->Um (ofR L c) d (a::l)->(∀i j:Nat,Y3 (a::l) i j->n<=Yi (ofR L c) i j)->
 ofR (Yy L c (Yb (a::l) n)) c=Xg (a::l) (ofR L c) n/\WayP L (Yy L c (Yb (a::l) n)) a (Zlt l a) c n
 | [],a,L,hw,_,_=>⟨rfl,WayP.self hw a c n⟩
 | b::r,a,L,hw,hadm,hle=>by
   unfold Um at hadm
   obtain ⟨⟨x,y,rfl,rfl,hx,hy,hc,hd⟩,hr⟩:=hadm
   have hxy:x≠y:=fun e=>by subst e;omega
   have hnxy:n<=Yi (ofR L c) x y:=hle x y (.inl ⟨rfl,rfl⟩)
   obtain ⟨⟨hx1,_⟩,hy1,_⟩:=Zae hc
   obtain ⟨m1,m2,m3⟩:=Zgy hw c x y n hx hy hxy hn hnxy
   have w1:=way_push hw c x y n hx hy hxy hn hnxy
   have hpd:=fun i j=>Zbz r (y:Int) hr i j
   have hat:∀i j:Nat,1<=i->i<17->1<=j->j<17->Yi (Vz (ofR L c) x y n) i j=if i=y/\j=x then Yi (ofR L c) i j+n else if i=x/\j=y then Yi (ofR L c) i j-n else Yi (ofR L c) i j:=fun i j h1 h2 h3 h4=>by
    rw [Zb5 _ i j h1 h2 h3 h4,Zb5 _ i j h1 h2 h3 h4,Zbq _ (Zdf hw c) x y n hx hy hxy]
    by_cases g1:i=y/\j=x
    ·obtain ⟨rfl,rfl⟩:=g1;simp
    rw [if_neg g1,if_neg (show ¬i*17+j=y*17+x by omega)]
    by_cases g2:i=x/\j=y
    ·obtain ⟨rfl,rfl⟩:=g2;simp
    rw [if_neg g2,if_neg (show ¬i*17+j=x*17+y by omega)]
   have hsame:∀i j:Nat,Y3 ((y:Int)::r) i j->Yi (Vz (ofR L c) x y n) i j=Yi (ofR L c) i j:=fun i j hp=>by
    obtain ⟨h1,h2,h3,h4,h5⟩:=hpd i j hp
    obtain ⟨⟨h6,_⟩,h7,_⟩:=Zae h3
    simp only [Int.toNat_natCast] at h5
    rw [hat i j (by omega) h1 (by omega) h2,if_neg,if_neg]
    ·rintro ⟨rfl,rfl⟩;omega
    rintro ⟨rfl,rfl⟩;omega
   have hadm1:∀(r:List Int) (y0:Int),Um (ofR L c) d (y0::r)->(∀i j:Nat,Y3 (y0::r) i j->Yi (Vz (ofR L c) x y n) i j=Yi (ofR L c) i j)->Um (Vz (ofR L c) x y n) d (y0::r):=by
    intro r
    induction r with
    | nil=>intro y0 _ _;simp [Um]
    | cons z r ih=>
      intro y0 h hs
      unfold Um at h ⊢
      obtain ⟨⟨i,j,rfl,rfl,h1,h2,h3,h4⟩,h5⟩:=h
      exact ⟨⟨i,j,rfl,rfl,h1,h2,by rw [hs i j (.inl ⟨rfl,rfl⟩)];exact h3,h4⟩,ih _ h5 (fun i j hp=>hs i j (.inr hp))⟩
   have ih:=Zky (d:=d) c n hn r (y:Int) (V8 L x y c n) w1.wf (by rw [m2];exact hadm1 r _ hr hsame) (fun i j hp=>by rw [m2,hsame i j hp];exact hle i j (.inr hp))
   have hf:Yy L c (Yb ((x:Int)::(y:Int)::r) n)=Yy (V8 L x y c n) c (Yb ((y:Int)::r) n):=by
    show Yy (Js L x y c n).2 c (Yb ((y:Int)::r) n)=_
    rw [m1]
   have hp0:Xg ((x:Int)::(y:Int)::r) (ofR L c) n=Xg ((y:Int)::r) (Vz (ofR L c) x y n) n:=by
    conv=>lhs;unfold Xg
    rw [Zl0 _ x y n hn hnxy]
   rw [hf,hp0]
   rw [m2] at ih
   exact ⟨ih.1,w1.trans ih.2⟩
theorem Zkz {c d:List Int} {t:Nat} (h:BInv c t d []):∀(n a:Nat),a<17->dAt d a=(n:Int)->dAt d a<17->Zlt (Zd8 c d n a) (a:Int)=(t:Int)
 | 0,a,ha,hd,_=>by
   have:=(h.root a ha).1 (by simpa using hd)
   simp [Zd8,Zlt,this]
 | n+1,a,ha,hd,h17=>by
   obtain ⟨h1,h2,h3,h4,_⟩:=Zfs h a ha (by omega) h17
   unfold Zd8 Zlt
   exact Zkz h n _ h2 (by omega) (by omega)
theorem Zqc {c:List Int} {a t:Int} (hn:Zq c a t≠[]):∃l,Zq c a t=a::l/\Zlt l a=t:=by
 obtain ⟨i,j,rfl,rfl,hi,hj,hij,he,_⟩:=Zbg hn
 rw [he] at hn ⊢
 unfold Zeb at hn ⊢
 split
 ·rename_i hf
  rw [if_pos hf] at hn
  exact absurd rfl hn
 rename_i hf
 have hB:=Zcw c j (by omega)
 have hr:=hB.rng i (by omega)
 exact ⟨_,rfl,Zkz hB _ i (by omega) (by omega) (by omega)⟩
theorem Zk6 (a t c want:Int):∀(f:Nat) (L0 L:Led) (got:Int) (acc:Flows),WF L->Yy L0 c acc=L->got<want->WayP L0 L a t c got->
 WayP L0 (Yy L0 c (Xw a t want f (ofR L c) got acc).1) a t c (Xw a t want f (ofR L c) got acc).2
 | 0,L0,L,got,acc,_,hp,_,h=>by
   simp only [Xw]
   rw [hp]
   exact h
 | f+1,L0,L,got,acc,hw,hp,hg,h=>by
   unfold Xw
   by_cases hn:Zq (ofR L c) a t=[]
   ·rw [if_pos hn]
    simp only
    rw [hp]
    exact h
   rw [if_neg hn]
   obtain ⟨p1,p2,p3,_⟩:=Jg (Zog hw c) hn (want-got) (by omega)
   obtain ⟨l,hl,hlast⟩:=Zqc hn
   obtain ⟨_,j,_,_,_,_,_,_,hadm,_,_⟩:=Zbg hn
   rw [hl] at hadm p1 p2 p3 ⊢
   have hw2:=Zky (d:=Vr (ofR L c) j) c (Z5 (ofR L c) (a::l) (want-got)) p1 l a L hw hadm (fun i j hp=>Zcv _ l a _ i j hp)
   rw [hlast] at hw2
   generalize Z5 (ofR L c) (a::l) (want-got)=n at *
   have hmore:=h.more hw2.2
   have hpa:Yy L0 c (acc++Yb (a::l) n)=Yy L c (Yb (a::l) n):=by rw [Zqt,hp]
   by_cases g1:got+n=want
   ·rw [if_pos g1]
    simp only
    rw [hpa,<-g1]
    exact hmore
   rw [if_neg g1,<-hw2.1]
   exact Zk6 a t c want f L0 _ (got+n) _ hw2.2.wf hpa (by omega) hmore
theorem pay_ok {L:Led} (hw:WF L) (a b c n:Int) (hb:Zkv a b c n=false) (h1:Yr L a=true) (h2:Yr L b=true) (hm:n<=Zd0 (ofR L c) a b):
 (U5 L a b c n).1.2=0/\WayP L (U5 L a b c n).2 a b c n:=by
 have hn:1<=n/\n<=1099511627776:=by
  unfold Zkv at hb
  simp only [Bool.not_eq_false',Bool.and_eq_true,decide_eq_true_eq] at hb
  omega
 have hr:=route_min (ofR L c) a b n (Zog hw c) hn.1 (by omega)
 have hgot:(Y9 (ofR L c) a b n).2=n:=by omega
 have hrt:=Zk6 a b c n 90000 L L 0 [] hw rfl (by omega) (WayP.refl hw a b c)
 have he:Y9 (ofR L c) a b n=Xw a b n 90000 (ofR L c) 0 []:=by
  unfold Y9
  rw [if_neg (by omega)]
 rw [<-he,hgot] at hrt
 unfold U5
 rw [if_neg (by rw [hb];simp),if_neg (by rw [h1,h2];simp),if_neg (by omega)]
 exact ⟨rfl,hrt⟩
end Go.Proofs.YtipjchbdogmccaaGreat
namespace Go.Proofs.YtipjchbdogmccaaGreat.D
open Go.RowKit Go.RgD Go.BigFrame
theorem Zjk (x:Int) (w:World):Calls Tryz.prog 202 #[.int .u8 x] w (fun e w'=>e= .returned (.bool false)/\w'=w):=by
 go_enter Tryz.func202,Tryz.ntmps202
 go_wp2
 go_ret
 exact ⟨rfl,rfl⟩
theorem Zjj (x:Int) (w:World):Calls Tryz.prog 203 #[.int .u8 x] w (fun e w'=>e= .returned (.bool false)/\w'=w):=by
 go_enter Tryz.func203,Tryz.ntmps203
 go_wp2
 go_ret
 exact ⟨rfl,rfl⟩
theorem Znh (x y:Int) (w:World):Calls Tryz.prog 158 #[.int .u8 x,.int .u8 y] w (fun e w'=>e= .returned (.int .i64 (Vo x y))/\w'=w):=by
 have hx:=Zjk x
 have hy:=Zjk y
 unfold Vo
 by_cases h1:x<y
 focus
  have h1':decide (x<y)=true:=by simpa using h1
  rw [if_pos h1]
 rotate_left
 focus
  have h1':decide (x<y)=false:=by simpa using h1
  rw [if_neg h1]
  by_cases h2:y<x
  focus
   have h2':decide (y<x)=true:=by simpa using h2
   rw [if_pos h2]
  rotate_left
  focus
   have h2':decide (y<x)=false:=by simpa using h2
   rw [if_neg h2]
 all_goals
  go_enter Tryz.func158,Tryz.ntmps158
  go_wp2_with fail
  refine (hx _).mono ?_
  rintro e w' ⟨rfl,rfl⟩
  go_wp2_with fail
  refine (hy _).mono ?_
  rintro e w' ⟨rfl,rfl⟩
  go_wp2
  go_ret
  exact ⟨rfl,rfl⟩
theorem Zb4 (x y:Int) (w:World):Calls Tryz.prog 159 #[.int .u8 x,.int .u8 y] w (fun e w'=>e= .returned (.int .i64 (Vo x y))/\w'=w):=by
 have hx:=Zjj x
 have hy:=Zjj y
 unfold Vo
 by_cases h1:x<y
 focus
  have h1':decide (x<y)=true:=by simpa using h1
  rw [if_pos h1]
 rotate_left
 focus
  have h1':decide (x<y)=false:=by simpa using h1
  rw [if_neg h1]
  by_cases h2:y<x
  focus
   have h2':decide (y<x)=true:=by simpa using h2
   rw [if_pos h2]
  rotate_left
  focus
   have h2':decide (y<x)=false:=by simpa using h2
   rw [if_neg h2]
 all_goals
  go_enter Tryz.func159,Tryz.ntmps159
  go_wp2_with fail
  refine (hx _).mono ?_
  rintro e w' ⟨rfl,rfl⟩
  go_wp2_with fail
  refine (hy _).mono ?_
  rintro e w' ⟨rfl,rfl⟩
  go_wp2
  go_ret
  exact ⟨rfl,rfl⟩
theorem or3_any (a b c:Int) (g cap:Nat) (w:World) (c0:w.cell? ⟨g,0,none⟩=some (.int .i64 a)) (c1:w.cell? ⟨g,1,none⟩=some (.int .i64 b)) (c2:w.cell? ⟨g,2,none⟩=some (.int .i64 c)):
 Calls Tryz.prog 157 #[.slice (some ⟨g,0,none⟩) 3 cap] w (fun e w'=>e= .returned (.int .i64 (orI a (orI b c)))/\w'=w):=by
 obtain ⟨r,hr⟩:∃r,r=orI a (orI b c):=⟨_,rfl⟩
 rw [<-hr]
 have HR:=Lib.hid hr
 clear hr
 go_enter Tryz.func157,Tryz.ntmps157
 go_wp2
 go_loopw [8] (fun i wr=>∃k:Nat,k<=3/\i= .int .i64 k/\wr=w/\(1<=k->a=0)/\(2<=k->b=0)/\(3<=k->c=0)) (fun i _=>3-(intOf i).toNat)
 case atStart=>exact ⟨0,by omega,rfl,rfl,by omega,by omega,by omega⟩
 obtain ⟨k,hk,rfl,rfl,ha,hb,hc⟩:=hrel
 by_cases h3:k=3
 focus
  subst h3
  rw [show ((3:Nat):Int)=3 from rfl]
  have ha:=ha (by omega)
  have hb:=hb (by omega)
  have hc:=hc (by omega)
  subst ha hb hc
  have HO:=Lib.hid (show orI 0 (orI 0 0)=0 by unfold orI;simp)
 rotate_left
 focus
  by_cases h2:k=2
  focus
   subst h2
   rw [show ((2:Nat):Int)=2 from rfl]
   have ha:=ha (by omega)
   have hb:=hb (by omega)
   subst ha hb
   by_cases q:c=0
   ·subst q
    go_wp2
    exact ⟨⟨3,by omega,by go_num,by first | exact ⟨rfl,by omega,by omega,by omega⟩ | simp⟩,by simp [intOf]⟩
   have q':(c==0)=false:=by simpa using q
   have HO:=Lib.hid (show orI 0 (orI 0 c)=c by unfold orI;simp)
  rotate_left
  focus
   by_cases h1:k=1
   focus
    subst h1
    rw [show ((1:Nat):Int)=1 from rfl]
    have ha:=ha (by omega)
    subst ha
    by_cases q:b=0
    ·subst q
     go_wp2
     exact ⟨⟨2,by omega,by go_num,by first | exact ⟨rfl,by omega,by omega,by omega⟩ | simp⟩,by simp [intOf]⟩
    have q':(b==0)=false:=by simpa using q
    have HO:=Lib.hid (show orI 0 (orI b c)=b by unfold orI;simp [q])
   rotate_left
   focus
    have h0:k=0:=by omega
    subst h0
    rw [show ((0:Nat):Int)=0 from rfl]
    by_cases q:a=0
    ·subst q
     go_wp2
     exact ⟨⟨1,by omega,by go_num,by first | exact ⟨rfl,by omega,by omega,by omega⟩ | simp⟩,by simp [intOf]⟩
    have q':(a==0)=false:=by simpa using q
    have HO:=Lib.hid (show orI a (orI b c)=a by unfold orI;rw [if_neg q])
 all_goals
  go_wp2
  go_ret
  exact ⟨by first | (rw [HR.out,HO.out];rfl) | rw [HR.out,HO.out],rfl⟩
theorem order_any (x y:Ln) (w:World):Calls Tryz.prog 105 #[Ju x,Ju y] w (Ret (.int .i64 (Zj1 x y)) w):=by
 have hc:∀a b w,Calls Tryz.prog 158 #[.int .u8 a,.int .u8 b] w (Ret (.int .i64 (Vo a b)) w):=fun a b w=>(Znh a b w).mono (by rintro e w' ⟨rfl,rfl⟩;exact ⟨rfl,Ext.refl _⟩)
 have hp:∀a b w,Calls Tryz.prog 159 #[.int .u8 a,.int .u8 b] w (Ret (.int .i64 (Vo a b)) w):=fun a b w=>(Zb4 a b w).mono (by rintro e w' ⟨rfl,rfl⟩;exact ⟨rfl,Ext.refl _⟩)
 unfold Zj1
 obtain ⟨⟨o0,o1,o2⟩,o3,o4⟩:=x
 obtain ⟨⟨x0,x1,x2⟩,x3,x4⟩:=y
 simp only [Ju] at *
 have e0:=Zc w (.cells #[.int .u8 o0,.int .u8 o1,.int .u8 o2,.int .i64 o3,.int .i64 o4] 151)
 have h0:=Zb w (.cells #[.int .u8 o0,.int .u8 o1,.int .u8 o2,.int .i64 o3,.int .i64 o4] 151)
 have s0:=size_alloc w (.cells #[.int .u8 o0,.int .u8 o1,.int .u8 o2,.int .i64 o3,.int .i64 o4] 151)
 generalize hW:w.alloc (.cells #[.int .u8 o0,.int .u8 o1,.int .u8 o2,.int .i64 o3,.int .i64 o4] 151)=W at *
 have e1:=Zc W (.cells #[.int .u8 x0,.int .u8 x1,.int .u8 x2,.int .i64 x3,.int .i64 x4] 151)
 have h1:=Zb W (.cells #[.int .u8 x0,.int .u8 x1,.int .u8 x2,.int .i64 x3,.int .i64 x4] 151)
 have h0:=e1.at h0
 rw [s0] at h1
 have E1:=Xt e0 e1
 have HW:=Lib.hid hW
 clear hW
 go_enter Tryz.func105,Tryz.ntmps105
 go_wp2
 rw [HW.out]
 refine Zh Zl 15 [] (by kernel_rfl) (by kernel_rfl) ?_
 intro w1 hw1
 have q0:∀u:ExtOf w1,u.to.heap[w.heap.size]? =_:=fun u=>(Xt hw1 u.h).at h0
 have q1:∀u:ExtOf w1,u.to.heap[w.heap.size+1]? =_:=fun u=>(Xt hw1 u.h).at h1
 have d0:=fun u:ExtOf w1=>Za (j:=0) (q0 u) rfl
 have d1:=fun u:ExtOf w1=>Za (j:=1) (q0 u) rfl
 have d2:=fun u:ExtOf w1=>Za (j:=2) (q0 u) rfl
 have f0:=fun u:ExtOf w1=>Za (j:=0) (q1 u) rfl
 have f1:=fun u:ExtOf w1=>Za (j:=1) (q1 u) rfl
 have f2:=fun u:ExtOf w1=>Za (j:=2) (q1 u) rfl
 clear q0 q1
 simp only [Zk,Rg.hsB,Nat.reduceAdd,↓reduceIte]
 repeat (go_big_quiet_step (first | (go_at_call 158;exact Ret.cls (hc _ _ _)) | (go_at_call 159;exact Ret.cls (hp _ _ _))))
 refine wpQuiet_nil ?_
 refine Zj (by kernel_rfl) ?_
 intro w2 e2 e2'
 simp only [Rg.puB]
 clear d0 d1 d2 f0 f1 f2
 generalize Vo o2 x2=A at *
 generalize Vo o0 x0=B at *
 generalize Vo o1 x1=C at *
 go_wp2_with fail
 refine (or3_any A B C _ _ _ (Za (j:=0) (Zb _ _) rfl) (Za (j:=1) (Zb _ _) rfl) (Za (j:=2) (Zb _ _) rfl)).mono ?_
 rintro e w7 ⟨rfl,rfl⟩
 go_wp2
 go_ret
 exact ⟨rfl,Xt E1 (Xt e2 (Zc _ _))⟩
open Go.Shelf in
theorem lcmpLays (blk size:Nat) (w:World):CmpLays Tryz.prog 105 #[] (fun x:Ln=>Xx x) 5 (fun x y=>Zj1 x y) blk 0 size w:=
 fun _ _ _ _ x y=>(order_any x y _).mono fun _ _ ⟨h1,h2⟩=>⟨h1,h2.grows⟩
end Go.Proofs.YtipjchbdogmccaaGreat.D
namespace Go.Proofs.YtipjchbdogmccaaGreat
open Go.RowKit Go.Rg Go.BigFrame
theorem Zmz (l:Zr):(Ym l).length=l.length*5:=by
 unfold Ym
 induction l with
 | nil=>simp
 | cons o l ih=>rw [List.flatMap_cons,List.length_append,ih,List.length_cons,Nat.succ_mul];simp [Xx];omega
theorem lsort_any (base:Nat) (v:Value) (l:Zr) (w:World) (hk:(l.map (·.1)).Nodup) (hl:l.length<=64) (hown:w.ownsRow base 151 5 v l.length (Ym l)):
 Calls Tryz.prog 104 #[v,.func (.func 105) #[] #[]] w fun e w'=>e= .returned (.tuple #[])/\Keep v.ownBlock.toList w w'/\w'.ownsRow base 151 5 v l.length (Ym (Z2 l)):=by
 rcases hown.2 with ⟨rfl,h0⟩ | ⟨g,cap,cur,rfl,hb,hg,hc1,hc2,hsz,htake⟩
 ·have:l=[]:=List.eq_nil_of_length_eq_zero h0
  subst this
  refine (AnyF.slices_SortFunc_none Tryz.sortLines none 0 (.func (.func 105) #[] #[]) w).mono ?_
  rintro e w' ⟨rfl,rfl⟩
  exact ⟨rfl,Keep.refl _ _,hown⟩
 cases hle:l with
 | nil=>
   subst hle
   refine (AnyF.slices_SortFunc_none Tryz.sortLines (some ⟨g,0,none⟩) cap (.func (.func 105) #[] #[]) w).mono ?_
   rintro e w' ⟨rfl,rfl⟩
   exact ⟨rfl,Keep.refl _ _,hown⟩
 | cons o0 l0=>
   rw [<-hle]
   have hO:Go.Sort.SWO (ltOf fun x y:Ln=>Zj1 x y):=
    { irrefl:=fun x=>Zop x
      trans:=fun x y z h1 h2=>Zq0 x y z h1 h2
      ntrans:=fun x y z h1 h2=>Zcr x y z h1 h2 }
   have hsz':l.toArray.size=l.length:=by simp
   have hH:=Zgi (fun x:Ln=>Xx x) 5 (fun _=>rfl) w g cur 151 l.toArray hg (by rw [hsz',List.toList_toArray];exact htake) (by rw [hsz',hsz];omega)
   have hcall:=AnyQ.slices_SortFunc Tryz.sortLines 5 Tryz.isAgg151 Tryz.sizeOf151 (fun x:Ln=>Xx x) (fun _=>rfl) (fun x v hv=>by
    simp only [Xx,List.mem_cons,List.not_mem_nil,or_false] at hv
    rcases hv with rfl | rfl | rfl | rfl | rfl<;>rfl) (fun x y=>Zj1 x y) hO 105 #[] g 0 cap l.toArray w (enters_of Tryz.func105 (by kernel_rfl) rfl)
    (D.lcmpLays g _ w) hH (Zg hg) (by rw [hsz'];omega)
   rw [hsz'] at hcall
   refine hcall.mono ?_
   rintro e w' ⟨rfl,d',n,os,hp,hso,rfl⟩
   have hps:d'.size=l.length:=by rw [hp.1];simp
   have hperm:d'.toList.Perm l:=by
    have h1:=hp.2.2
    have e1:d'.extract 0 l.length=d':=by rw [<-hps];simp
    have e2:l.toArray.extract 0 l.length=l.toArray:=by
     have:l.length=l.toArray.size:=hsz'.symm
     rw [this,Array.extract_size]
    rw [e1,e2] at h1
    simpa using h1
   have hlist:d'.toList=Z2 l:=by
    refine Zja hk hperm ?_
    rw [<-hps] at hso
    exact Ud hso
   obtain ⟨k1,cur',h1,h2,h3⟩:=Zcg (fun x:Ln=>Xx x) 5 (fun _=>rfl) w g n cur 151 d' os hg (by rw [hps,hsz];omega)
   refine ⟨rfl,k1,by rw [Zmz,Ue],.inr ⟨g,cap,cur',rfl,hb,h1,hc1,hc2,by rw [h2,hsz],?_⟩⟩
   rw [<-hps,h3,hlist]
   rfl
end Go.Proofs.YtipjchbdogmccaaGreat
namespace Go
open Go.Rg Go.RowKit
section
variable {P:Program} {w:World} {ops:Array Oper} {rest:List Oper} {o:Oper} {a:Act} {Q:Exit->Act->World->Prop}
theorem Zid (hg:o.guard=none) (it:Operand) (hop:o.op=Op.next it false) (r bm since c0:Nat) (seen:Array Nat) (es:Array MapEntry) (clock:Nat) (hit:a.eval it= .pointer (some ⟨r,0,none⟩))
 (hr:w.heap[r]? =some (.mapIter (some bm) since seen c0)) (hb:w.heap[bm]? =some (.map es clock)) (hold:∀x∈es.toList,x.born<since) (hsc:since<=c0)
 (hDone:(leftOf es seen).size=0->wpList P ops Q rest (a.put o.dst (.tuple #[.bool false])) w)
 (hMore:∀e∈(leftOf es seen).toList,∀w':World,Keep [r] w w'->w'.heap[r]? =some (.mapIter (some bm) since (seen.push e.born) clock)->wpList P ops Q rest (a.put o.dst (.tuple #[.bool true,e.key,e.val])) w'):
 wpList P ops Q (o::rest) a w:=by
 refine wpList_plain hg fun K' hK'=> ?_
 unfold Oper.wp
 have hlt:=Zg hr
 rcases run_next_at (P:=P) w o.type r bm since c0 seen es clock hr hb hold hsc with ⟨h0,hrun⟩ | ⟨e,he,w1,hw1,hrun⟩
 ·simp [execOp,hop,hit,hrun,Result.andThen]
  exact hK' _ _ (hDone h0)
 simp [execOp,hop,hit,hrun,Result.andThen]
 have h1:w1.heap=w.heap/\w1.os=w.os/\w1.tape=w.tape/\w1.output=w.output:=by rcases hw1 with rfl | rfl<;>exact ⟨rfl,rfl,rfl,rfl⟩
 refine hK' _ _ (hMore e he _ ⟨h1.2.1,h1.2.2.1,h1.2.2.2,?_,fun i hi hn=> ?_⟩ ?_)
 ·show w.heap.size<=(w1.heap.setIfInBounds r _).size
  rw [Array.size_setIfInBounds,h1.1];exact Nat.le_refl _
 ·show (w1.heap.setIfInBounds r _)[i]? =_
  rw [h1.1,Array.getElem?_setIfInBounds_ne (fun e=>hn (by simp [e]))]
 show (w1.heap.setIfInBounds r _)[r]? =_
 rw [h1.1,Array.getElem?_setIfInBounds_self_of_lt hlt]
theorem Zhn (hg:o.guard=none) (m:Operand) (t:TypeId) (hop:o.op=Op.range t m) (k e:TypeId) (ht:P.underlying t=some (.map k e)) (bm:Nat) (es:Array MapEntry) (clock:Nat) (hm:a.eval m= .map (some bm)) (hb:w.heap[bm]? =some (.map es clock))
 (hK:wpList P ops Q rest (a.put o.dst (.pointer (some ⟨w.heap.size,0,none⟩))) (w.alloc (.mapIter (some bm) clock #[] clock))):wpList P ops Q (o::rest) a w:=by
 refine wpList_plain hg fun K' hK'=> ?_
 unfold Oper.wp
 simp [execOp,hop,hm,run_range_map w t k e bm es clock ht hb,Result.andThen]
 exact hK' _ _ hK
end
end Go
namespace Go.Proofs.YtipjchbdogmccaaGreat
open Go.RowKit Go.Rg Go.BigFrame
theorem Zdg:∀(n:Nat) (is:List Nat),is.Nodup->(∀i∈is,i<n)->is.length<=n
 | 0,[],_,_=>Nat.le_refl _
 | 0,i::is,_,h=>absurd (h i (by simp)) (by omega)
 | n+1,is,hnd,h=>by
   by_cases hm:n∈is
   ·have h1:=List.length_erase_of_mem hm
    have h2:=Zdg n (is.erase n) (hnd.erase n) (fun i hi=>by
     have:=(hnd.mem_erase_iff).1 hi
     have:=h i this.2
     omega)
    omega
   have:=Zdg n is hnd (fun i hi=>by
    have h1:=h i hi
    have:i≠n:=fun e=>hm (e▸hi)
    omega)
   omega
theorem Zi3:∀(n:Nat) (is:List Nat),is.Nodup->(∀i,i∈is↔i<n)->is.Perm (List.range n)
 | 0,is,_,h=>by
   have:is=[]:=List.eq_nil_iff_forall_not_mem.2 fun i hi=>by have:=(h i).1 hi;omega
   subst this
   exact List.Perm.refl _
 | n+1,is,hnd,h=>by
   have hm:n∈is:=(h n).2 (by omega)
   have h2:=Zi3 n (is.erase n) (hnd.erase n) (fun i=>by
    rw [hnd.mem_erase_iff,h i]
    omega)
   rw [List.range_succ]
   exact (List.perm_cons_erase hm).trans ((h2.cons n).trans (List.perm_append_comm (l₁:=[n]) (l₂:=List.range n)))
def Zc7 (es:Array MapEntry) (i:Nat):Nat:=(es.toList.map (·.born)).getD i 0
def Zcs (l:Zr) (i:Nat):Ln:=l.getD i ((0,0,0),(0,0))
theorem left_one {es:Array MapEntry} {clock:Nat} {l:Zr} (h:MapRep es clock l) {is:List Nat} {seen:Array Nat} (hs:seen.toList=is.map (Zc7 es)) {e:MapEntry} (he:e∈(leftOf es seen).toList):
 ∃i,i<l.length/\i∉is/\e.born=Zc7 es i/\e.key=Xm (Zcs l i).1/\e.val=U7 (Zcs l i).2/\e∈es.toList:=by
 unfold leftOf at he
 simp only [Array.toList_filter,List.mem_filter,Bool.not_eq_true',Array.contains_eq_mem,decide_eq_false_iff_not] at he
 obtain ⟨hm,hn⟩:=he
 obtain ⟨i,hi,hei⟩:=List.getElem_of_mem hm
 have hlen:es.toList.length=l.length:=by have:=congrArg List.length h.same;simpa using this
 have hb:Zc7 es i=e.born:=by
  unfold Zc7
  rw [List.getD_eq_getElem?_getD,List.getElem?_map,List.getElem?_eq_getElem hi,hei]
  rfl
 have hil:i<l.length:=by omega
 have hkv:(e.key,e.val)=(Xm (l[i]'hil).1,U7 (l[i]'hil).2):=by
  have h1:(es.toList.map fun e=>(e.key,e.val))[i]? =(l.map fun x=>(Xm x.1,U7 x.2))[i]? :=by rw [h.same]
  rw [List.getElem?_map,List.getElem?_map,List.getElem?_eq_getElem hi,List.getElem?_eq_getElem hil,hei] at h1
  simpa using h1
 have hla:Zcs l i=l[i]'hil:=by unfold Zcs;rw [List.getD_eq_getElem?_getD,List.getElem?_eq_getElem hil];rfl
 refine ⟨i,hil,fun hx=>hn ?_,hb.symm,?_,?_,hm⟩
 ·rw [<-Array.mem_toList_iff,hs]
  exact List.mem_map.2 ⟨i,hx,hb⟩
 ·rw [hla];exact (Prod.mk.inj hkv).1
 rw [hla];exact (Prod.mk.inj hkv).2
theorem left_none {es:Array MapEntry} {clock:Nat} {l:Zr} (h:MapRep es clock l) {is:List Nat} {seen:Array Nat} (hnd:is.Nodup) (hlt:∀i∈is,i<l.length) (hs:seen.toList=is.map (Zc7 es)) (h0:(leftOf es seen).size=0):
 (is.map (Zcs l)).Perm l:=by
 have hlen:es.toList.length=l.length:=by have:=congrArg List.length h.same;simpa using this
 have hmem:∀i,i∈is↔i<l.length:=fun i=>by
  refine ⟨hlt i,fun hi=> ?_⟩
  have hi':i<es.toList.length:=by omega
  have hnot:es.toList[i]'hi'∉(leftOf es seen).toList:=by
   have:(leftOf es seen).toList=[]:=by
    have:(leftOf es seen).toList.length=0:=by simpa using h0
    exact List.eq_nil_of_length_eq_zero this
   rw [this];simp
  unfold leftOf at hnot
  simp only [Array.toList_filter,List.mem_filter,Bool.not_eq_true',Array.contains_eq_mem,decide_eq_false_iff_not,not_and,Classical.not_not] at hnot
  have hin:=hnot (List.getElem_mem hi')
  rw [<-Array.mem_toList_iff,hs] at hin
  obtain ⟨j,hj,hjb⟩:=List.mem_map.1 hin
  have hjl:j<es.toList.length:=by have:=hlt j hj;omega
  have hb:∀k (hk:k<es.toList.length),Zc7 es k=(es.toList[k]'hk).born:=fun k hk=>by
   unfold Zc7
   rw [List.getD_eq_getElem?_getD,List.getElem?_map,List.getElem?_eq_getElem hk]
   rfl
  rw [hb j hjl] at hjb
  have hij:j=i:=by
   have hn:=h.born
   rw [List.nodup_iff_pairwise_ne,List.pairwise_iff_getElem] at hn
   rcases Nat.lt_trichotomy j i with hc | hc | hc
   ·have:=hn j i (by simpa using hjl) (by simpa using hi') hc
    simp only [List.getElem_map] at this
    exact absurd hjb this
   ·exact hc
   have:=hn i j (by simpa using hi') (by simpa using hjl) hc
   simp only [List.getElem_map] at this
   exact absurd hjb.symm this
  exact hij▸hj
 have hp:=(Zi3 l.length is hnd hmem).map (Zcs l)
 have hr:(List.range l.length).map (Zcs l)=l:=by
  apply List.ext_getElem?
  intro k
  rw [List.getElem?_map]
  by_cases hk:k<l.length
  ·rw [List.getElem?_range hk,List.getElem?_eq_getElem hk]
   unfold Zcs
   rw [Option.map_some,List.getD_eq_getElem?_getD,List.getElem?_eq_getElem hk]
   rfl
  rw [List.getElem?_eq_none (by simp;omega),List.getElem?_eq_none (by omega)]
  rfl
 rw [hr] at hp
 exact hp
theorem Zcu {l l':Zr} (hk:(l.map (·.1)).Nodup) (h:l'.Perm l):Z2 l'=Z2 l:=
 Zja hk ((Jv l').trans h) (Uq (p:=fun _=>True) (fun x y _ _=>Zi8 x y) (fun x y z _ _ _=>Zcr x y z) _ fun _ _=>trivial)
theorem ln_info:(Tryz.prog.info? 151).map (fun i=>(i.zero,i.size,i.bytes))=some (some (.agg #[.int .u8 0,.int .u8 0,.int .u8 0,.int .i64 0,.int .i64 0]),5,24):=by kernel_rfl
def RetLns (l:Zr) (w:World) (e:Ending) (w':World):Prop:=∃v,e= .returned v/\Ext w w'/\w'.ownsRow w.heap.size 151 5 v l.length (Ym l)
theorem Zpv {S:List Nat} {base:Nat} {a b c:World} (h:Below base a b) (k:Keep S b c) (hb:base<=b.heap.size) (hs:∀x∈S,base<=x):Below base a c:=
 h.trans ⟨k.os,k.tape,k.output,k.size,fun i hi=>k.block i (by omega) (fun hx=>by have:=hs i hx;omega)⟩
theorem Zg2 {w:World} {base size n r:Nat} {e:TypeId} {v:Value} {xs:List Value} {m:Option Nat} {s c:Nat} {seen:Array Nat} (h:w.ownsRow base e size v n xs) (hr:w.heap[r]? =some (.mapIter m s seen c)):∀q,v.ownBlock=some q->q≠r:=by
 intro q hq e
 subst e
 rcases h.2 with ⟨rfl,_⟩ | ⟨b,cap,cur,rfl,_,hh,_⟩
 ·simp [Value.ownBlock] at hq
 simp only [Value.ownBlock,Option.some.injEq] at hq
 subst hq
 rw [hh] at hr
 cases hr
theorem Uj {w:World} {base base' size n:Nat} {e:TypeId} {v:Value} {xs:List Value} (h:w.ownsRow base e size v n xs) (hb:base'<=base):w.ownsRow base' e size v n xs:=by
 refine ⟨h.1,?_⟩
 rcases h.2 with h0 | ⟨b,cap,cur,rfl,hb2,hh,h3⟩
 ·exact .inl h0
 exact .inr ⟨b,cap,cur,rfl,Nat.le_trans hb hb2,hh,h3⟩
theorem Zf1 {S:List Nat} {w w':World} {base size n:Nat} {e:TypeId} {v:Value} {xs:List Value} (h:w.ownsRow base e size v n xs) (k:Keep S w w') (hS:∀q,v.ownBlock=some q->q∉S):w'.ownsRow base e size v n xs:=by
 refine ⟨h.1,?_⟩
 rcases h.2 with h0 | ⟨b,cap,cur,rfl,hb,hh,h3⟩
 ·exact .inl h0
 exact .inr ⟨b,cap,cur,rfl,hb,k.at hh (hS b rfl),h3⟩
theorem Zdl (p m:Nat) (L:Led) (w:World) (h:IsLed w p m L) (hwf:WF L):Calls Tryz.prog 56 #[.pointer (some ⟨p,0,none⟩)] w (RetLns (Z2 L.lines) w):=by
 obtain ⟨i0,hi,hz0,hz1,hz2⟩:=info_parts ln_info
 have hmap:=h.map
 have hkm:=hmap.keys
 obtain ⟨l,hpm,hm0⟩:=hmap
 have hfew:l.length<=64:=by rw [hpm.length_eq];exact hwf.few
 have hpl:=hpm.length_eq
 rw [<-Zcu hkm hpm]
 clear hpm hkm
 go_enter Tryz.func56,Tryz.ntmps56
 go_wp2_with fail
 refine (Vl p m L w h).mono ?_
 rintro e w1 ⟨rfl,e1⟩
 have h1:=h.ext e1
 have c17:=h1.cell17
 have hlen:=len_map m L.lines w1 h1.map
 rw [<-hpl] at hlen
 obtain ⟨es,clock,hm1,hrep⟩:=hm0
 have hm1:=e1.at hm1
 have hmlt:=Zg hm1
 clear hpl
 have HL1:=Lib.hid h1
 have HREP:=Lib.hid hrep
 clear h hwf h1 hrep
 go_wp2_with (first
  | (at_make;refine wpList_make_own _ rfl _ _ 44 rfl w1.heap.size 151 i0 (.agg #[.int .u8 0,.int .u8 0,.int .u8 0,.int .i64 0,.int .i64 0]) 5 Tryz.underlying44 hi hz0 hz1 _ _ _ l.length rfl rfl rfl (by rw [hz2];omega) (by unfold maxLen;omega) (Nat.le_refl _) ?_
     intro w2 hown2 hg2
     have e2:Ext w1 w2:=(Below.refl w1.heap.size w1).grown hg2 (Nat.le_refl _) (by simp)
     have c17:=(HL1.out.ext e2).cell17
     have hm2:=e2.at hm1)
  | (at_range;refine Zhn rfl _ 200 rfl 209 211 Tryz.underlying200 m es clock rfl hm2 ?_))
 try go_frame
 have e3:=Zc w2 (.mapIter (some m) clock #[] clock)
 have hr3:=Zb w2 (.mapIter (some m) clock #[] clock)
 have hown3:=Zo hown2 e3
 have s2:=e2.size
 have hE3:Below w1.heap.size w1 (w2.alloc (.mapIter (some m) clock #[] clock)):=Xt e2 e3
 clear hlen c17 hm2 hown2 hg2 e3
 go_loopw [3] (fun v wr=>∃(is:List Nat) (seen:Array Nat) (c0:Nat),is.Nodup/\(∀i∈is,i<l.length)/\seen.toList=is.map (Zc7 es)/\clock<=c0/\wr.heap[w2.heap.size]? =some (.mapIter (some m) clock seen c0)/\
  wr.ownsRow w1.heap.size 151 5 v is.length (Ym (is.map (Zcs l)))/\Below w1.heap.size w1 wr) (fun v _=>l.length-lenOf v)
 case atStart=>exact ⟨[],#[],clock,List.nodup_nil,by simp,rfl,Nat.le_refl _,hr3,hown3,hE3⟩
 obtain ⟨is,seen,c0,hnd,hlt,hse,hc0,hr,hown,hbel⟩:=hrel
 have hmr:wr.heap[m]? =some (.map es clock):=(hbel.block m hmlt).trans hm1
 have hil:=Zdg l.length is hnd hlt
 have hlo:=fun q hq=>(hown.lt q hq).1
 have hqr:=Zg2 hown hr
 obtain ⟨ao,acap,hav⟩:=Z7 hown
 subst hav
 have HOWN:=Lib.hid hown
 have HLT:=Lib.hid hlt
 have HSE:=Lib.hid hse
 have hwr:=hbel.size
 clear hown hlt hse hr3 hown3 hE3
 go_wp2_with (at_next;refine Zid rfl _ rfl w2.heap.size m clock c0 seen es clock rfl hr hmr HREP.out.clock hc0 ?_ ?_)
 ·intro h0
  have h0':(leftOf es seen).size=0:=by first | exact h0 | (rw [h0];rfl)
  have hperm:=left_none HREP.out hnd HLT.out HSE.out h0'
  have hkn:((is.map (Zcs l)).map (·.1)).Nodup:=(hperm.map (·.1)).nodup_iff.2 HREP.out.keys
  have hso:=lsort_any w1.heap.size (.slice ao is.length acap) (is.map (Zcs l)) wr hkn (by simp;omega) (by rw [List.length_map];exact HOWN.out)
  have hres:Z2 (is.map (Zcs l))=Z2 l:=Zcu HREP.out.keys hperm
  have hlen2:(is.map (Zcs l)).length=(Z2 l).length:=by rw [hperm.length_eq,Ue]
  rw [hres,hlen2] at hso
  have HLE:=Lib.hid hlen2
  clear hperm hkn hres hlen2 h0 h0'
  go_wp2_with fail
  refine hso.mono ?_
  rintro e w8 ⟨rfl,k8,hown8⟩
  go_wp2
  go_ret
  have he1:=e1.size
  refine ⟨_,rfl,?_,?_⟩
  ·have hb8:Below w1.heap.size w1 w8:=Zpv hbel k8 hwr (fun x hx=>hlo x (by simpa using hx))
   exact Xt e1 hb8
  exact Uj hown8 he1
 intro e he w4 k4 hr4
 have he':e∈(leftOf es seen).toList:=by first | exact he | simpa using he
 obtain ⟨i,hil2,hni,hbo,hkey,hval,hem⟩:=left_one HREP.out HSE.out he'
 have hm4:=k4.at hmr (by simp;omega)
 have hen:=run_entry_at (P:=Tryz.prog) w4 w2.heap.size m clock seen es clock e hr4 hm4 hem HREP.out.born
 rw [hkey,hval] at hen ⊢
 have hnd2:(is++[i]).Nodup:=by
  rw [List.nodup_append]
  exact ⟨hnd,by simp,fun x hx y hy e=>by simp at hy;subst hy e;exact hni hx⟩
 have hil3:=Zdg l.length (is++[i]) hnd2 (fun j hj=>by
  rcases List.mem_append.1 hj with hj | hj
  ·exact HLT.out j hj
  simp at hj;subst hj;exact hil2)
 rw [List.length_append,List.length_singleton] at hil3
 have HBO:=Lib.hid hbo
 have HND:=Lib.hid hnd2
 have HX:=Lib.hid (show Ym ((is++[i]).map (Zcs l))=Ym (is.map (Zcs l))++Xx (Zcs l i) by simp [Ym])
 have hown4:=Zf1 HOWN.out k4 (fun q hq hx=>hqr q hq (by simpa using hx))
 have hb4:Below w1.heap.size w1 w4:=Zpv hbel k4 hwr (fun x hx=>by simp at hx;omega)
 clear hbo hnd2 hkey hval he he' hem hm4 hmr hr k4 HOWN hbel
 generalize Zcs l i=x at *
 obtain ⟨⟨x0,x1,x2⟩,x3,x4⟩:=x
 unfold Xm U7 at hen ⊢
 simp only at hen ⊢
 have s4:=hb4.size
 have ea:=Zc w4 (.cells #[.int .u8 0,.int .u8 0,.int .u8 0] 209)
 have ha:=Zb w4 (.cells #[.int .u8 0,.int .u8 0,.int .u8 0] 209)
 have sa:=size_alloc w4 (.cells #[.int .u8 0,.int .u8 0,.int .u8 0] 209)
 have eb:=Zc (w4.alloc (.cells #[.int .u8 0,.int .u8 0,.int .u8 0] 209)) (.cells #[.int .i64 0,.int .i64 0] 211)
 have hb:=Zb (w4.alloc (.cells #[.int .u8 0,.int .u8 0,.int .u8 0] 209)) (.cells #[.int .i64 0,.int .i64 0] 211)
 rw [sa] at hb
 have ha:=eb.at ha
 have eab:=Xt ea eb
 clear ea eb sa
 go_wp2_with (first
  | (refine Ze rfl rfl 209 _ _ rfl w4.heap.size _ rfl rfl 209 _ ha (by kernel_rfl) (by rfl) (by rfl) ?_
     intro w5 hb5 ho5 hs5
     have e5:Ext w4 w5:=hb5 _ _ (Nat.le_refl _) eab
     have hb5':=(ho5 (w4.heap.size+1) (by omega)).trans hb)
  | (refine Ze rfl rfl 211 _ _ rfl (w4.heap.size+1) _ rfl rfl 211 _ hb5' (by kernel_rfl) (by rfl) (by rfl) ?_
     intro w6 hb6 ho6 hs6
     have e6:Ext w4 w6:=hb6 _ _ (by omega) e5
     have hs56:=(ho6 w4.heap.size (by omega)).trans hs5
     have d0:=Za (j:=0) hs56 rfl
     have d1:=Za (j:=1) hs56 rfl
     have d2:=Za (j:=2) hs56 rfl
     have f0:=Za (j:=0) hs6 rfl
     have f1:=Za (j:=1) hs6 rfl
     have s6:=e6.size)
  | (at_builtin;refine wpList_append_own _ rfl _ _ 44 rfl w1.heap.size 151 i0 (.agg #[.int .u8 0,.int .u8 0,.int .u8 0,.int .i64 0,.int .i64 0]) 5 24 Tryz.underlying44 hi hz0 hz1 hz2 rfl (by decide) _ _ _ rfl ((Zo hown4 e6).alloc _) ⟨w6.heap.size,0,none⟩ 1 1 (Xx ((x0,x1,x2),x3,x4)) rfl rfl (Uv w6 (Xx ((x0,x1,x2),x3,x4)) _) (fun x hx=>by simp only [Xx,List.mem_cons,List.not_mem_nil,or_false] at hx;rcases hx with rfl | rfl | rfl | rfl | rfl<;>rfl) (by unfold maxLen;omega) (by omega) (by simp;omega) ?_
     intro v' w7 hown7 hgrow7 hnil7))
 have hr7:w7.heap[w2.heap.size]? =some (.mapIter (some m) clock (seen.push e.born) clock):=by
  have ea7:=Zc w6 (.cells (Xx ((x0,x1,x2),x3,x4)).toArray 151)
  have hr6:=ea7.at (e6.at hr4)
  exact (hgrow7.block _ (Zg hr6) (fun hx=>Zg2 hown4 hr4 _ hx.symm rfl)).trans hr6
 have hb7:Below w1.heap.size w1 w7:=((hb4.trans (Below.mono e6 (by omega))).alloc (by omega) (.cells (Xx ((x0,x1,x2),x3,x4)).toArray 151)).grown hgrow7 (by simp;omega) (fun q hq=>hlo q hq)
 obtain ⟨A7,cap7,hv7⟩:=Z7 hown7
 subst hv7
 refine ⟨⟨is++[i],seen.push e.born,clock,HND.out,fun j hj=> ?_,?_,Nat.le_refl _,hr7,?_,hb7⟩,?_⟩
 ·rcases List.mem_append.1 hj with hj | hj
  ·exact HLT.out j hj
  simp at hj;subst hj;exact hil2
 ·rw [Array.toList_push,HSE.out,HBO.out,List.map_append];rfl
 ·rw [HX.out,List.length_append]
  exact hown7
 show l.length-(is.length+1)<l.length-is.length
 omega
theorem Zg9 (l:Zr) (k j:Nat) (hk:k<l.length) (hj:j<5):(Ym l)[k*5+j]? =(Xx (l[k]'hk))[j]? :=by
 induction l generalizing k with
 | nil=>simp at hk
 | cons o l ih=>
   have h5:(Xx o).length=5:=rfl
   have hc:Ym (o::l)=Xx o++Ym l:=rfl
   cases k with
   | zero=>
     simp only [hc,Nat.zero_mul,Nat.zero_add,List.getElem_cons_zero]
     rw [List.getElem?_append_left (by rw [h5];exact hj)]
   | succ k=>
     have:=ih k (by simpa using hk)
     simp only [hc,List.getElem_cons_succ] at this ⊢
     rw [List.getElem?_append_right (by rw [h5];omega),h5,show (k+1)*5+j-5=k*5+j by omega]
     exact this
theorem Ze2 (w:World) (g k:Nat) (l:Zr) (hk:k<l.length) (h:∀j u,(Ym l)[j]? =some u->w.cell? ⟨g,j,none⟩=some u):
 (loadVar 151 ⟨g,k*5,none⟩).run Tryz.prog w= .ok (Ju (l[k]'hk)) w:=
 Zs w g (k*5) 151 (Xx (l[k]'hk)) _ (fun j u hu=>by
  have hj:j<5:=(List.getElem?_eq_some_iff.1 hu).1
  exact h _ _ ((Zg9 l k j hk hj).trans hu)) Tryz.underlying151 rfl (by kernel_rfl)
theorem pos_any (p m:Nat) (L:Led) (x c:Int) (w:World) (h:IsLed w p m L) (hwf:WF L):Calls Tryz.prog 152 #[.pointer (some ⟨p,0,none⟩),.int .u8 x,.int .u8 c] w (Ret (.int .i64 (Zf0 L x c)) w):=by
 have hpe:Zf0 L x c=Ur (Z2 L.lines) x c:=(Zqq L.lines x c).symm
 have hbd:∀y∈Z2 L.lines,0<=y.2.2/\y.2.2<=1099511627776:=fun y hy=>by
  have:=hwf.nums y (Zam.1 hy)
  omega
 have hle:(Z2 L.lines).length<=64:=by rw [Ue];exact hwf.few
 have hln:=Zdl p m L w h hwf
 rw [hpe]
 generalize Z2 L.lines=S at *
 have HBD:=Lib.hid hbd
 clear hpe hbd h
 go_enter Tryz.func152,Tryz.ntmps152
 go_wp2_with fail
 refine hln.mono ?_
 rintro e w1 ⟨v,rfl,e1,hown⟩
 obtain ⟨A,cap,rfl,q1,q2,q3,q4⟩:=Zn.of_own hown
 have hn63:(S.length:Int)<=9223372036854775807:=by omega
 clear hln hown q3
 go_wp2_with fail
 go_loopw [6,12] (fun nv i wr=>∃k:Nat,k<=S.length/\i= .int .i64 k/\nv= .int .i64 (Ur (S.take k) x c)/\Ext w1 wr) (fun _ i _=>S.length-(intOf i).toNat)
 case atStart=>exact ⟨0,Nat.zero_le _,rfl,rfl,Ext.refl _⟩
 obtain ⟨k,hk,rfl,rfl,er⟩:=hrel
 have hpb:=Zms x c (S.take k) (fun y hy=>HBD.out y (List.mem_of_mem_take hy))
 have hpl:(S.take k).length<=64:=by rw [List.length_take];omega
 by_cases hkn:k<S.length
 ·rcases q4 with q4 | ⟨g,rfl,hb,hlt,hcell⟩
  ·omega
  have hld:=Ze2 wr g k S hkn (fun j u hu=>by rw [Zf (er.block hlt)];exact hcell j u hu)
  have hnx:=Zlc S k hkn x c
  have hyb:=HBD.out _ (List.getElem_mem hkn)
  generalize Ur (S.take k) x c=a at *
  obtain ⟨a',ha'⟩:∃a',Ur (S.take (k+1)) x c=a':=⟨_,rfl⟩
  rw [ha'] at hnx
  have HA:=Lib.hid ha'
  clear ha'
  generalize (S[k]'hkn)=y at *
  obtain ⟨⟨y0,y1,y2⟩,y3,y4⟩:=y
  simp only [Ju] at hld
  simp only at hyb
  unfold Zal at hnx
  simp only at hnx
  obtain ⟨hy1,hy2⟩:=hyb
  have ha1: -70368744177664<=a:=by omega
  have ha2:a<=70368744177664:=by omega
  have hz:=Zb wr (.cells #[.int .u8 0,.int .u8 0,.int .u8 0,.int .i64 0,.int .i64 0] 151)
  have ez:=Zc wr (.cells #[.int .u8 0,.int .u8 0,.int .u8 0,.int .i64 0,.int .i64 0] 151)
  clear hpb hpl hcell
  by_cases qc:y2=c
  focus
   have qc1:(y2==c)=true:=by simpa using qc
   have qc2:(y2 !=c)=false:=by simp [bne,qc1]
   rw [if_pos qc] at hnx
   by_cases qa:y0=x
   focus
    have qa1:(y0==x)=true:=by simpa using qa
    rw [if_pos qa] at hnx
    have HN:=Lib.hid hnx
    clear hnx qc qa
   rotate_left
   focus
    have qa1:(y0==x)=false:=by simpa using qa
    rw [if_neg qa] at hnx
    by_cases qb:y1=x
    focus
     have qb1:(y1==x)=true:=by simpa using qb
     rw [if_pos qb] at hnx
     have HN:=Lib.hid (show a'=a-y4 by omega)
    rotate_left
    focus
     have qb1:(y1==x)=false:=by simpa using qb
     rw [if_neg qb] at hnx
     have HN:=Lib.hid (show a'=a by omega)
    all_goals clear hnx qc qa qb
  rotate_left 3
  focus
   have qc1:(y2==c)=false:=by simpa using qc
   have qc2:(y2 !=c)=true:=by simp [bne,qc1]
   rw [if_neg qc] at hnx
   have HN:=Lib.hid (show a'=a by omega)
   clear hnx qc
  all_goals
   go_wp2_with (first
    | (refine Zd rfl 151 _ _ _ rfl rfl hld ?_)
    | (refine Ze rfl rfl 151 _ _ rfl wr.heap.size _ rfl rfl 151 _ hz (by kernel_rfl) (by rfl) (by rfl) ?_
       intro w5 hb5 ho5 hs5
       have e5:Ext wr w5:=hb5 _ _ (Nat.le_refl _) ez
       have d0:=Za (j:=0) hs5 rfl
       have d1:=Za (j:=1) hs5 rfl
       have d2:=Za (j:=2) hs5 rfl
       have d4:=Za (j:=4) hs5 rfl))
   exact ⟨⟨k+1,by omega,by go_num,by rw [HA.out,HN.out],Xt er e5⟩,by simp [intOf];omega⟩
 have hk':k=S.length:=by omega
 subst hk'
 rw [List.take_length]
 generalize Ur S x c=a at *
 clear q4 hpb hpl
 go_wp2
 go_ret
 exact ⟨rfl,Xt e1 er⟩
end Go.Proofs.YtipjchbdogmccaaGreat
