/- The best offers, plainly: sorted by rate, then by number. -/
import Derived.Test.YtipjchbdogmccaaGreatBk
import Derived.Test.YtipjchbdogmccaaGreatSortP
namespace Go.Proofs.YtipjchbdogmccaaGreat
def Zfh (n d m e:Int):Int:=if Xq n d&&Xq m e then Vz (n*e) (m*d) else 0
def Zq2 (x y:Off):Int:=orI (Zfh x.num x.den y.num y.den) (Vz x.seq y.seq)
def ltO (x y:Off):Bool:=decide (Zq2 x y<0)
def Vp (l:List Off) (sell buy:Int):List Off:=Jf ltO (l.filter fun o=>o.sell==sell&&o.buy==buy)
def Va (o:Off):Prop:=Xq o.num o.den=true
theorem Zeb {o:Off} (h:Va o):0<o.num/\0<o.den:=by
 unfold Va Xq at h
 rw [decide_eq_true_eq] at h
 omega
theorem Znp {x y:Off} (hx:Va x) (hy:Va y):ltO x y=true↔x.num*y.den<y.num*x.den\/(x.num*y.den=y.num*x.den/\x.seq<y.seq):=by
 unfold ltO Zq2 Zfh
 unfold Va at hx hy
 rw [hx,hy,decide_eq_true_eq,Zhr]
 simp only [Bool.and_self,↓reduceIte]
 rw [Zak,Zdi,Zak]
theorem Jm {x y:Off} (hx:Va x) (hy:Va y):ltO x y=false↔y.num*x.den<=x.num*y.den/\(x.num*y.den=y.num*x.den->y.seq<=x.seq):=by
 rw [<-Bool.not_eq_true,Znp hx hy]
 omega
theorem Zkv (x y:Off) (hx:Va x) (hy:Va y) (h:ltO x y=true):ltO y x=false:=by
 rw [Znp hx hy] at h
 rw [Jm hy hx]
 omega
theorem Zec (x y z:Off) (hx:Va x) (hy:Va y) (hz:Va z) (h1:ltO x y=false) (h2:ltO y z=false):ltO x z=false:=by
 rw [Jm hx hy] at h1
 rw [Jm hy hz] at h2
 rw [Jm hx hz]
 obtain ⟨_,px⟩:=Zeb hx
 obtain ⟨_,py⟩:=Zeb hy
 obtain ⟨_,pz⟩:=Zeb hz
 refine ⟨Zea px py pz h1.1 h2.1,fun e=> ?_⟩
 have a:=Zea (n1:=z.num) (n2:=x.num) (n3:=y.num) pz px py (by omega) h1.1
 have b:=Zea (n1:=y.num) (n2:=z.num) (n3:=x.num) py pz px h2.1 (by omega)
 have c1:=h1.2 (by omega)
 have c2:=h2.2 (by omega)
 omega
theorem Zpz (x:Off) (hx:Va x):ltO x x=false:=by
 rw [Jm hx hx];omega
theorem ltO_trans (x y z:Off) (hx:Va x) (hy:Va y) (hz:Va z) (h1:ltO x y=true) (h2:ltO y z=true):ltO x z=true:=by
 rw [<-Bool.not_eq_false]
 intro h
 have:=Zec _ _ _ hy hx hz (Zkv _ _ hx hy h1) h
 rw [h2] at this
 cases this
theorem ltO_total {x y:Off} (hx:Va x) (hy:Va y) (h1:ltO x y=false) (h2:ltO y x=false):x.seq=y.seq:=by
 rw [Jm hx hy] at h1
 rw [Jm hy hx] at h2
 omega
theorem Zei (l:List Off) (sell buy:Int):(Vp l sell buy).Perm (l.filter fun o=>o.sell==sell&&o.buy==buy):=Xd _ _
theorem Zdb {l:List Off} {sell buy:Int} {o:Off} (h:o∈Vp l sell buy):o∈l/\o.sell=sell/\o.buy=buy:=by
 have:=(Zei l sell buy).subset h
 rw [List.mem_filter] at this
 simpa using this
end Go.Proofs.YtipjchbdogmccaaGreat
