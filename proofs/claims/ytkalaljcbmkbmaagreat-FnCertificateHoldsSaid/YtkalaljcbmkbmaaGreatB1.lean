/-
  Joined texts: contracts and plain lemmas.
-/
import Derived.Lib.Hide
import Derived.WalkKit
import Derived.Test.YtkalaljcbmkbmaaGreatProg
import Derived.KernelRfl
import Derived.Deep.QuietTactic
import Derived.BigQuiet
import Derived.Deep.RegionHeld3
import Derived.Laws.OwnMore
import Derived.Maps.AppendAt
import Derived.OwnWalk
import Derived.RegionTactic
import Derived.Deep.DeepCutAuto
import Derived.Deep.RegionWith
import Derived.Outline
import Derived.Lib.SliceRun
import Derived.Shelf.Abstract
import Derived.Laws.Bits64b
set_option linter.unusedSimpArgs false
set_option linter.unusedVariables false
set_option maxRecDepth 100000
set_option maxHeartbeats 8000000
namespace Go.Proofs.YtkalaljcbmkbmaaGreat
section
instance : Coe Int Value := ⟨fun n => .int .i64 n⟩
instance : Coe Nat Value := ⟨fun n => .int .i64 n⟩
instance : Coe Bool Value := ⟨fun b => .bool b⟩
theorem DB {p : Prop} (h : p) : RowKit.Hid p := Lib.hid h
theorem DC (w : World) (o : Obj) : (w.alloc o).heap.size = w.heap.size + 1 := World.size_alloc w o
theorem DD {B : Nat} {a w : World} (h : RowKit.Below B a w) {p : Addr} (hp : B ≤ p.block) (u : Value) : RowKit.Below B a (w.setCell p u) := RowKit.Below.setCell h hp u
theorem DE (B : Nat) (w : World) : RowKit.Below B w w := RowKit.Below.refl B w
theorem DF (n : Nat) : n ≤ n := Nat.le_refl n
theorem Gh {B : Nat} {a w : World} (h : RowKit.Below B a w) {k : Nat} {x y : Value} (hk : B ≤ k := by omega) : RowKit.Below B a ((w.setCell ⟨k, 0, none⟩ x).setCell ⟨k, 1, none⟩ y) := RowKit.Below.setCell (RowKit.Below.setCell h hk _) hk _
theorem EW {B : Nat} {a w : World} (h : RowKit.Below B a w) {k : Nat} {x y z : Value} (hk : B ≤ k := by omega) : RowKit.Below B a (((w.setCell ⟨k, 0, none⟩ x).setCell ⟨k, 1, none⟩ y).setCell ⟨k, 2, none⟩ z) := RowKit.Below.setCell (RowKit.Below.setCell (RowKit.Below.setCell h hk _) hk _) hk _
theorem D9 {B : Nat} {a w : World} (h : RowKit.Below B a w) {k : Nat} {x y z u : Value} (hk : B ≤ k := by omega) : RowKit.Below B a ((((w.setCell ⟨k, 0, none⟩ x).setCell ⟨k, 1, none⟩ y).setCell ⟨k, 2, none⟩ z).setCell ⟨k, 3, none⟩ u) := RowKit.Below.setCell (RowKit.Below.setCell (RowKit.Below.setCell (RowKit.Below.setCell h hk _) hk _) hk _) hk _
theorem d_ {a b c : World} (h : RowKit.Below a.heap.size a b) (k : RowKit.Below b.heap.size b c) : RowKit.Below a.heap.size a c := h.trans (k.mono h.size)
namespace M
def Ik (a:Int):Prop:=-9223372036854775808<=a/\a<=9223372036854775807
def pick (ok:Bool) (x:Int):Int:=if ok then x else 0
theorem gh (x:Int):pick true x=x:=rfl
theorem jd (x:Int):pick false x=0:=rfl
def ins (n lo hi:Int):Bool:=decide (lo<=n/\n<=hi)
theorem iy {n lo hi:Int}:ins n lo hi=true ↔ lo<=n/\n<=hi:=by simp [ins]
theorem gK {n lo hi:Int} (h:ins n lo hi=true):lo<=n/\n<=hi:=iy.1 h
theorem aH {x y m n:Int} (h1:-m<=x:=by omega) (h2:x<=m:=by omega) (h3:-n<=y:=by omega) (h4:y<=n:=by omega):-(m*n)<=x*y/\x*y<=m*n:=by
 have a1:0<=(m - x)*(n - y):=Int.mul_nonneg (by omega) (by omega);have a2:0<=(m+x)*(n+y):=Int.mul_nonneg (by omega) (by omega);have a3:0<=(m - x)*(n+y):=Int.mul_nonneg (by omega) (by omega);have a4:0<=(m+x)*(n - y):=Int.mul_nonneg (by omega) (by omega);simp only [Int.sub_mul,Int.mul_sub,Int.add_mul,Int.mul_add] at a1 a2 a3 a4
 constructor <;> omega
theorem oM {x y m n:Int} (h1:0<=x) (h2:x<=m) (h3:0<=y) (h4:y<=n):0<=x*y/\x*y<=m*n:=
 ⟨Int.mul_nonneg h1 h3,(aH (m:=m) (n:=n) (by omega) h2 (by omega) h4).2⟩
def iI (n:Int):Prop:=2<=n/\∀ d:Int,2<=d->d*d<=n->¬ n % d=0
open Classical in
noncomputable def prime (n:Int):Bool:=decide (iI n)
theorem uY {n:Int}:prime n=true ↔ iI n:=by simp [prime]
theorem ua {n:Int}:prime n=false ↔ ¬ iI n:=by simp [prime]
theorem C7 {k m:Int} (hm:0<=m) (h:k*k<m*m):k<m:=by
 rcases Int.lt_or_le k m with q | q
 ·exact q
 have:m*m<=k*k:=Int.mul_le_mul q q (by omega) (by omega);omega
def u7 (n r:Int):Prop:=0<=r/\r*r<=n/\n<(r+1)*(r+1)
theorem u7.uniq {n r s:Int} (h:u7 n r) (k:u7 n s):r=s:=by
 obtain ⟨a,b,c⟩:=h;obtain ⟨d,e,f⟩:=k
 rcases Int.lt_trichotomy r s with q | q | q
 ·have:(r+1)*(r+1)<=s*s:=Int.mul_le_mul (by omega) (by omega) (by omega) (by omega)
  omega
 ·exact q
 have:(s+1)*(s+1)<=r*r:=Int.mul_le_mul (by omega) (by omega) (by omega) (by omega);omega
theorem tJ (n:Nat):∃ r:Nat,r*r<=n/\n<(r+1)*(r+1):=by
 induction n with
 | zero=>exact ⟨0,by omega,by omega⟩
 | succ n ih=>
 obtain ⟨r,h1,h2⟩:=ih
 rcases Nat.lt_or_ge (n+1) ((r+1)*(r+1)) with q | q
 ·exact ⟨r,by omega,q⟩
 refine ⟨r+1,q,?_⟩
 have:(r+1+1)*(r+1+1)=(r+1)*(r+1)+2*r+3:=by simp only [Nat.add_mul,Nat.mul_add];omega
 omega
open Classical in
noncomputable def root (n:Int):Int:=if h:0<=n then ((tJ n.toNat).choose:Int) else 0
theorem iF {n:Int} (h:0<=n):u7 n (root n):=by
 obtain ⟨a,b⟩:=(tJ n.toNat).choose_spec;unfold root;rw [dif_pos h];refine ⟨by omega,?_,?_⟩
 ·have:=Int.ofNat_le.2 a;push_cast at this;omega
 have:=Int.ofNat_lt.2 b;push_cast at this;omega
theorem kS {n r:Int} (h:u7 n r):r=root n:=by
 have:0<=r*r:=Int.mul_nonneg h.1 h.1;exact h.uniq (iF (by have:=h.2.1;omega))
def val (a b x:Int):Int:=x*x*x+a*x+b
def aS (a b:Int):Int:=4*a*a*a+27*b*b
def aw (a b:Int):Bool:=ins a (-1000) 1000 && ins b (-10000) 10000
def good (a b:Int):Bool:=aw a b && (aS a b != 0)
theorem ag {a b:Int} (h:aw a b=true):-1000<=a/\a<=1000/\-10000<=b/\b<=10000:=by
 simp only [aw,Bool.and_eq_true,iy] at h;omega
theorem aj {a b:Int} (h:good a b=true):aw a b=true:=by
 simp only [good,Bool.and_eq_true] at h;exact h.1
theorem uD {a b:Int} (h:good a b=true):aS a b≠0:=by
 simp only [good,Bool.and_eq_true,bne_iff_ne] at h;exact h.2
def upto (lo:Int) (k:Nat):List Int:=(List.range k).map fun i:Nat=>lo+(i:Int)
theorem uq (lo:Int) (k:Nat):upto lo (k+1)=upto lo k ++ [lo+(k:Int)]:=by
 simp [upto,List.range_succ]
def sel (p:Int->Bool) (lo:Int) (k:Nat):List Int:=(upto lo k).filter p
theorem Bz {p:Int->Bool} {lo:Int} {k:Nat} (h:p (lo+k)=false):sel p lo (k+1)=sel p lo k:=by
 simp [sel,uq,h]
theorem xI {a p:Int} (hp:1<=p):0<=a % p/\a % p<p:=⟨Int.emod_nonneg _ (by omega),Int.emod_lt_of_pos _ (by omega)⟩
def rhs (a b p x:Int):Int:=val a b x % p
def gcd (a b:Int):Int:=Int.gcd a b
theorem lH (a b:Int):Int.gcd b (a.tmod b)=Int.gcd a b:=by
 rw [Int.gcd_comm a b];simp only [Int.gcd,Int.natAbs_tmod];exact (Nat.gcd_rec b.natAbs a.natAbs ▸ Nat.gcd_comm _ _)
end M
namespace M
inductive i_ where
 | O:i_
 | fin (x y:Rat):i_
namespace i_
def On (a b:Rat):i_->Prop
 | O=>True
 | .fin x y=>y*y=x*x*x+a*x+b
def neg:i_->i_
 | O=>O
 | .fin x y=>.fin x (-y)
def Slp (a x1 y1 x2 y2 l:Rat):Prop:=y1 - y2=l*(x1 - x2)/\l*(y1+y2)=x1*x1+x1*x2+x2*x2+a
def lam (a x1 y1 x2 y2:Rat):Rat:=if x1=x2 then (3*x1*x1+a) / (2*y1) else (y1 - y2) / (x1 - x2)
def thd (x1 y1 x2 l:Rat):i_:=.fin (l*l - x1 - x2) (l*(x1 - (l*l - x1 - x2)) - y1)
def add (a:Rat):i_->i_->i_
 | O,Q=>Q
 | .fin x y,O=>.fin x y
 | .fin x1 y1,.fin x2 y2=>if x1=x2/\y1=-y2 then O else thd x1 y1 x2 (lam a x1 y1 x2 y2)
theorem CN (a:Rat) (P:i_):add a O P=P:=rfl
theorem jo (a:Rat) (P:i_):add a P O=P:=by cases P <;> rfl
theorem fP {a b x1 y1 x2 y2:Rat} (h1:On a b (.fin x1 y1)) (h2:On a b (.fin x2 y2)) (h:¬ (x1=x2/\y1=-y2)):Slp a x1 y1 x2 y2 (lam a x1 y1 x2 y2):=by
 unfold On at h1 h2;unfold Slp lam
 split
 ·rename_i hx
  subst hx
  have h3:(y1 - y2)*(y1+y2)=0:=by grind
  have h4:y1=y2:=by
   rcases Rat.mul_eq_zero.1 h3 with h4 | h4
   ·grind
   exact absurd ⟨rfl,by grind⟩ h
  subst h4
  have h5:y1≠0:=fun h0=>h ⟨rfl,by grind⟩
  constructor
  ·grind
  grind
 rename_i hx
 have h5:x1 - x2≠0:=by grind
 constructor
 ·grind
 grind
theorem tP {a b x1 y1 x2 y2 l:Rat} (hd:4*a*a*a+27*b*b≠0) (h1:On a b (.fin x1 y1)) (h:Slp a x1 y1 x2 y2 l):¬ (x1=x2/\y1=-y2):=by
 rintro ⟨rfl,hy⟩;unfold On at h1;obtain ⟨e1,e2⟩:=h
 have h0:y1=0:=by grind
 have h00:y2=0:=by grind
 subst h0 h00
 apply hd
 have e3:a=-3*x1*x1:=by grind
 have e4:b=2*x1*x1*x1:=by grind
 grind
theorem xx {a b x1 y1 x2 y2 l l':Rat} (hd:4*a*a*a+27*b*b≠0) (h1:On a b (.fin x1 y1)) (h:Slp a x1 y1 x2 y2 l) (h':Slp a x1 y1 x2 y2 l'):l=l':=by
 have hn:=tP hd h1 h;obtain ⟨e1,e2⟩:=h;obtain ⟨f1,f2⟩:=h'
 by_cases hx:x1=x2
 ·have hy:y1+y2≠0:=fun h0=>hn ⟨hx,by grind⟩
  grind
 have:x1 - x2≠0:=by grind
 grind
theorem cY {a b x1 y1 x2 y2 l:Rat} (hd:4*a*a*a+27*b*b≠0) (h1:On a b (.fin x1 y1)) (h2:On a b (.fin x2 y2)) (h:Slp a x1 y1 x2 y2 l):add a (.fin x1 y1) (.fin x2 y2)=thd x1 y1 x2 l:=by
 have hn:=tP hd h1 h;have hl:=xx hd h1 h (fP h1 h2 hn)
 show (if x1=x2/\y1=-y2 then O else thd x1 y1 x2 (lam a x1 y1 x2 y2))=_
 rw [if_neg hn,←hl]
theorem b7 {a x1 y1 x2 y2:Rat} (h:x1=x2/\y1=-y2):add a (.fin x1 y1) (.fin x2 y2)=O:=if_pos h
theorem pI {a b x1 y1 x2 y2 l:Rat} (h1:On a b (.fin x1 y1)) (h:Slp a x1 y1 x2 y2 l):On a b (thd x1 y1 x2 l):=by
 unfold thd On at *;obtain ⟨e1,e2⟩:=h
 grind
theorem dJ {a b:Rat} (hd:4*a*a*a+27*b*b≠0) {P Q:i_} (h1:On a b P) (h2:On a b Q):On a b (add a P Q):=by
 cases P with
 | O=>exact h2
 | fin x1 y1=>
 cases Q with
 | O=>exact h1
 | fin x2 y2=>
 by_cases hv:x1=x2/\y1=-y2
 ·rw [b7 hv];trivial
 have:=fP h1 h2 hv;rw [cY hd h1 h2 this];exact pI h1 this
theorem cJ {a b:Rat} {P:i_} (h:On a b P):On a b (neg P):=by
 cases P with
 | O=>trivial
 | fin x y=>unfold neg On at *;grind
theorem neg_neg (P:i_):neg (neg P)=P:=by
 cases P with
 | O=>rfl
 | fin x y=>unfold neg;simp
theorem Slp.symm {a x1 y1 x2 y2 l:Rat} (h:Slp a x1 y1 x2 y2 l):Slp a x2 y2 x1 y1 l:=by
 obtain ⟨e1,e2⟩:=h
 constructor <;> grind
theorem yJ {a x1 y1 x2 y2 l:Rat} (h:Slp a x1 y1 x2 y2 l):thd x1 y1 x2 l=thd x2 y2 x1 l:=by
 obtain ⟨e1,e2⟩:=h;unfold thd
 congr 1
 ·grind
 grind
theorem add_comm {a b:Rat} (hd:4*a*a*a+27*b*b≠0) {P Q:i_} (h1:On a b P) (h2:On a b Q):add a P Q=add a Q P:=by
 cases P with
 | O=>exact (jo a Q).symm
 | fin x1 y1=>
 cases Q with
 | O=>rfl
 | fin x2 y2=>
 by_cases hv:x1=x2/\y1=-y2
 ·rw [b7 hv,b7]
  exact ⟨hv.1.symm,by grind⟩
 have:=fP h1 h2 hv;rw [cY hd h1 h2 this,cY hd h2 h1 this.symm,yJ this]
theorem dC (a:Rat) (P:i_):add a (neg P) P=O:=by
 cases P with
 | O=>rfl
 | fin x y=>exact b7 ⟨rfl,rfl⟩
theorem oO {a b:Rat} (hd:4*a*a*a+27*b*b≠0) {P Q:i_} (h1:On a b P) (h2:On a b Q):neg (add a P Q)=add a (neg P) (neg Q):=by
 cases P with
 | O=>rfl
 | fin x1 y1=>
 cases Q with
 | O=>rfl
 | fin x2 y2=>
 by_cases hv:x1=x2/\y1=-y2
 ·rw [b7 hv]
  show O=add a (.fin x1 (-y1)) (.fin x2 (-y2))
  rw [b7];exact ⟨hv.1,by grind⟩
 have h3:=fP h1 h2 hv
 have h4:Slp a x1 (-y1) x2 (-y2) (-lam a x1 y1 x2 y2):=by
  obtain ⟨e1,e2⟩:=h3
  constructor <;> grind
 rw [cY hd h1 h2 h3]
 show _=add a (.fin x1 (-y1)) (.fin x2 (-y2))
 rw [cY hd (cJ h1) (cJ h2) h4];unfold thd neg
 congr 1 <;> grind
theorem q9 {a b:Rat} (hd:4*a*a*a+27*b*b≠0) {P Q:i_} (h1:On a b P) (h2:On a b Q):add a (neg P) (add a P Q)=Q:=by
 cases P with
 | O=>rfl
 | fin x1 y1=>
 cases Q with
 | O=>exact dC a _
 | fin x2 y2=>
 by_cases hv:x1=x2/\y1=-y2
 ·rw [b7 hv]
  show i_.fin x1 (-y1)=i_.fin x2 y2
  rw [hv.1,hv.2]
  congr 1
  grind
 have h3:=fP h1 h2 hv;generalize lam a x1 y1 x2 y2=l at h3;rw [cY hd h1 h2 h3];have h5:=pI h1 h3
 have h4:Slp a x1 (-y1) (l*l - x1 - x2) (l*(x1 - (l*l - x1 - x2)) - y1) (-l):=by
  obtain ⟨e1,e2⟩:=h3;unfold On at *
  constructor
  ·grind
  grind
 show add a (.fin x1 (-y1)) (.fin _ _)=_
 rw [cY hd (cJ h1) h5 h4];obtain ⟨e1,e2⟩:=h3;unfold thd
 congr 1 <;> grind
theorem vH {a x1 y1 x y x3 y3 l m:Rat} (hl:Slp a x1 y1 x y l) (hm:Slp a x y x3 y3 m) (hne:l≠m) :
  ∃ n r,Slp a (l*l - x1 - x) (l*(x1 - (l*l - x1 - x)) - y1) x3 y3 n/\Slp a x1 y1 (m*m - x - x3) (m*(x - (m*m - x - x3)) - y) r/\
   thd (l*l - x1 - x) (l*(x1 - (l*l - x1 - x)) - y1) x3 n=thd x1 y1 (m*m - x - x3) r:=by
 have hd:l - m≠0:=by grind
 obtain ⟨w,hw⟩:∃ w,w*(l - m)=x3 - x1:=⟨(x3 - x1) / (l - m),by grind⟩
 obtain ⟨e1,e2⟩:=hl;obtain ⟨f1,f2⟩:=hm
 have k1:2*y*(l - m)=(x3 - x)*(m*m - x1 - x - x3) - (x1 - x)*(l*l - x1 - x - x3):=by grind
 have k2:2*y+(l+m)*(x3 - x)=w*(l*l - x1 - x - x3):=by
  have:(l - m)*(2*y+(l+m)*(x3 - x))=(l - m)*(w*(l*l - x1 - x - x3)):=by grind
  grind
 have k3:2*y+(l+m)*(x1 - x)=w*(m*m - x1 - x - x3):=by
  have:(l - m)*(2*y+(l+m)*(x1 - x))=(l - m)*(w*(m*m - x1 - x - x3)):=by grind
  grind
 refine ⟨-l - w,-m - w,⟨?_,?_⟩,⟨?_,?_⟩,?_⟩
 ·grind
 ·grind
 ·grind
 ·grind
 unfold thd
 congr 1
 ·grind
 grind
theorem add_assoc {a b:Rat} (hd:4*a*a*a+27*b*b≠0) {P Q R:i_} (h1:On a b P) (h2:On a b Q) (h3:On a b R):add a (add a P Q) R=add a P (add a Q R):=by
 cases P with
 | O=>rfl
 | fin x1 y1=>
 cases Q with
 | O=>rfl
 | fin x y=>
 cases R with
 | O=>rw [jo,jo]
 | fin x3 y3=>
 by_cases v1:x1=x/\y1=-y
 ·rw [b7 v1]
  have:=q9 hd h2 h3;rw [show i_.fin x1 y1=neg (.fin x y) by rw [v1.1,v1.2];rfl,this];rfl
 by_cases v2:x=x3/\y=-y3
 ·rw [b7 v2,jo,add_comm hd (dJ hd h1 h2) h3,add_comm hd h1 h2]
  have:=q9 hd h2 h1;rw [show i_.fin x3 y3=neg (.fin x y) by rw [v2.1,v2.2];unfold neg;simp,this]
 have hl:=fP h1 h2 v1;have hm:=fP h2 h3 v2;generalize lam a x1 y1 x y=l at hl;generalize lam a x y x3 y3=m at hm;rw [cY hd h1 h2 hl,cY hd h2 h3 hm];have hS:=pI h1 hl;have hT:=pI h2 hm
 by_cases hlm:l=m
 ·subst hlm
  obtain ⟨e1,e2⟩:=id hl;obtain ⟨f1,f2⟩:=id hm
  have k:(x3 - x1)*(l*l - x1 - x - x3)=0:=by grind
  rcases Rat.mul_eq_zero.1 k with k | k
  ·obtain rfl:x3=x1:=by grind
   obtain rfl:y3=y1:=by grind
   rw [←cY hd h1 h2 hl,←cY hd h2 h3 hm,add_comm hd (dJ hd h1 h2) h1,add_comm hd h1 h2]
  show add a (.fin _ _) (.fin _ _)=add a (.fin _ _) (.fin _ _)
  rw [b7 ⟨by grind,by grind⟩,b7 ⟨by grind,by grind⟩]
 obtain ⟨n,r,e1,e2,e3⟩:=vH hl hm hlm
 show add a (.fin _ _) (.fin _ _)=add a (.fin _ _) (.fin _ _)
 rw [cY hd hS h3 e1,cY hd h1 hT e2,e3]
end i_
end M
namespace Wh
def val:List Int->Int
 | []=>0
 | x :: l=>x+10000*val l
def a_ (n:Nat):List Int:=if h:n=0 then [] else ((n % 10000:Nat):Int) :: a_ (n / 10000)
termination_by n
decreasing_by exact Nat.div_lt_self (Nat.pos_of_ne_zero h) (by decide)
def lim (x:Int):Prop:=0<=x/\x<10000
def bD (l:List Int):Prop:=∀ x ∈ l,lim x
theorem cj:a_ 0=[]:=by rw [a_];rfl
theorem gw {n:Nat} (h:n≠0):a_ n=((n % 10000:Nat):Int) :: a_ (n / 10000):=by rw [a_,dif_neg h]
theorem bE (n:Nat):val (a_ n)=n:=by
 induction n using Nat.strongRecOn with
 | ind n ih=>
 by_cases h:n=0
 ·subst h;rw [cj];rfl
 rw [gw h]
 show ((n % 10000:Nat):Int)+10000*val (a_ (n / 10000))=n
 rw [ih _ (Nat.div_lt_self (Nat.pos_of_ne_zero h) (by decide))];omega
theorem an (n:Nat):bD (a_ n):=by
 induction n using Nat.strongRecOn with
 | ind n ih=>
 by_cases h:n=0
 ·subst h;rw [cj];intro x hx;cases hx
 rw [gw h];intro x hx
 rcases List.mem_cons.1 hx with rfl | hx
 ·unfold lim;omega
 exact ih _ (Nat.div_lt_self (Nat.pos_of_ne_zero h) (by decide)) x hx
theorem gv {n:Nat}:a_ n=[] ↔ n=0:=by
 constructor
 ·intro h
  by_cases h0:n=0
  ·exact h0
  rw [gw h0] at h;cases h
 rintro rfl;exact cj
theorem pi {x v:Nat} (hx:x<10000) (h:x≠0∨v≠0):a_ (x+10000*v)=(x:Int) :: a_ v:=by
 rw [gw (by omega),show (x+10000*v) % 10000=x by omega,show (x+10000*v) / 10000=v by omega]
def trim:List Int->List Int
 | []=>[]
 | x :: l=>match trim l with
  | []=>if x=0 then [] else [x]
  | y :: t=>x :: y :: t
theorem dB:∀ {l:List Int},bD l->0<=val l
 | [],_=>Int.le_refl _
 | x :: l,h=>by
  have h1:=dB (l:=l) fun y hy=>h y (List.mem_cons_of_mem _ hy)
  have h2:=(h x List.mem_cons_self).1
  show 0<=x+10000*val l
  omega
theorem kU:∀ {l:List Int},bD l->trim l=a_ (val l).toNat
 | [],_=>by show []=a_ (0:Int).toNat;rw [show (0:Int).toNat=0 from rfl,cj]
 | x :: l,h=>by
  have hl:bD l:=fun y hy=>h y (List.mem_cons_of_mem _ hy)
  have ih:=kU hl;have hx:=h x List.mem_cons_self;have hv:=dB hl
  obtain ⟨v,hv'⟩:∃ v:Nat,val l=v:=⟨(val l).toNat,by omega⟩
  obtain ⟨y,rfl⟩:∃ y:Nat,x=y:=⟨x.toNat,by have:=hx.1;omega⟩
  rw [hv',Int.toNat_natCast] at ih
  have hy:y<10000:=by have:=hx.2;omega
  show (match trim l with
   | []=>if (y:Int)=0 then [] else [(y:Int)]
   | z :: t=>(y:Int) :: z :: t)=a_ ((y:Int)+10000*val l).toNat
  rw [ih,hv',show ((y:Int)+10000*(v:Int)).toNat=y+10000*v by omega]
  by_cases h0:v=0
  ·subst h0
   rw [cj]
   by_cases hy0:y=0
   ·subst hy0
    rw [Nat.mul_zero,cj];rfl
   rw [pi hy (Or.inl hy0),cj,if_neg (by omega)]
  rw [pi hy (Or.inr h0),gw h0]
theorem jk:∀ l:List Int,trim (l ++ [0])=trim l
 | []=>rfl
 | x :: l=>by
  show (match trim (l ++ [0]) with
   | []=>if x=0 then [] else [x]
   | z :: t=>x :: z :: t)=_
  rw [jk l];rfl
theorem mw:∀ (l:List Int) {x:Int},x≠0->trim (l ++ [x])=l ++ [x]
 | [],x,h=>by show (if x=0 then [] else [x])=_;rw [if_neg h];rfl
 | y :: l,x,h=>by
  show (match trim (l ++ [x]) with
   | []=>if y=0 then [] else [y]
   | z :: t=>y :: z :: t)=_
  rw [mw l h]
  cases l <;> rfl
theorem wC (n:Nat):trim (a_ n)=a_ n:=by rw [kU (an n),bE,Int.toNat_natCast]
theorem gJ:∀ a b:List Int,val (a ++ b)=val a+10000 ^ a.length*val b
 | [],b=>by show val b=0+10000 ^ 0*val b;rw [Int.pow_zero];omega
 | x :: a,b=>by
  show x+10000*val (a ++ b)=x+10000*val a+10000 ^ (a.length+1)*val b
  rw [gJ a b,Int.pow_succ]
  grind
theorem pow_pos (n:Nat):(0:Int)<10000 ^ n:=Int.pow_pos (by decide)
theorem fU:∀ {l:List Int},bD l->val l<10000 ^ l.length
 | [],_=>by show (0:Int)<10000 ^ 0;rw [Int.pow_zero];decide
 | x :: l,h=>by
  have h1:=fU (l:=l) fun y hy=>h y (List.mem_cons_of_mem _ hy)
  have h2:=(h x List.mem_cons_self).2
  show x+10000*val l<10000 ^ (l.length+1)
  rw [Int.pow_succ];omega
theorem cM {a b:List Int} (h:bD a) (h':bD b):bD (a ++ b):=fun x hx=>by
 rcases List.mem_append.1 hx with q | q
 ·exact h x q
 exact h' x q
theorem fd {a:List Int} (h:bD a) (k:Nat):bD (a.take k):=fun x hx=>h x (List.mem_of_mem_take hx)
theorem jU {a:List Int} (h:bD a) (k:Nat):bD (a.drop k):=fun x hx=>h x (List.mem_of_mem_drop hx)
theorem b6 {l:List Int} {k:Nat} {x:Int} (hx:l[k]?=some x):val (l.take (k+1))=val (l.take k)+10000 ^ k*x:=by
 have hk:=(List.getElem?_eq_some_iff.1 hx).1;rw [List.take_add_one,hx,gJ,List.length_take,Nat.min_eq_left (Nat.le_of_lt hk)]
 show _+_*(x+10000*0)=_
 grind
theorem lr {l:List Int} {k:Nat} {x:Int} (hx:l[k]?=some x):val (l.drop k)=x+10000*val (l.drop (k+1)):=by
 obtain ⟨h1,rfl⟩:=List.getElem?_eq_some_iff.1 hx;rw [List.drop_eq_getElem_cons h1];rfl
theorem dL {n k:Nat} (h:n<10000 ^ k):(a_ n).length<=k:=by
 induction k generalizing n with
 | zero=>rw [Nat.pow_zero] at h;rw [show n=0 by omega,cj];exact DF _
 | succ k ih=>
 by_cases h0:n=0
 ·subst h0;rw [cj];exact Nat.zero_le _
 rw [gw h0,List.length_cons]
 have:n / 10000<10000 ^ k:=by
  rw [Nat.pow_succ] at h;exact Nat.div_lt_of_lt_mul (by rwa [Nat.mul_comm])
 have:=ih this;omega
def nth (l:List Int) (i:Nat):Int:=(l[i]?).getD 0
theorem cr {l:List Int} {i:Nat} {x:Int} (h:l[i]?=some x):nth l i=x:=by unfold nth;rw [h];rfl
theorem co {l:List Int} {i:Nat} (h:l.length<=i):nth l i=0:=by unfold nth;rw [List.getElem?_eq_none h];rfl
theorem bq (l:List Int) (k:Nat):val (l.take (k+1))=val (l.take k)+10000 ^ k*nth l k:=by
 by_cases h:k<l.length
 ·have hx:l[k]?=some l[k]:=List.getElem?_eq_getElem h
  rw [b6 hx,cr hx]
 rw [co (by omega),List.take_of_length_le (by omega),List.take_of_length_le (by omega)]
 grind
theorem kM {l:List Int} (h:bD l) (i:Nat):lim (nth l i):=by
 unfold nth
 cases hx:l[i]? with
 | none=>exact ⟨Int.le_refl _,by decide⟩
 | some x=>exact h x (List.mem_of_getElem? hx)
end Wh
namespace Wh
structure ft (a b:List Int) (s:Int) (i:Nat) (o:List Int) (c:Int):Prop where
 eq:val o+10000 ^ i*c=val (a.take i)+s*val (b.take i)
 len:o.length=i
 ls:bD o
 c1:s=1->0<=c/\c<=1
 c2:s=-1->-1<=c/\c<=0
theorem ft.start (a b:List Int) (s:Int):ft a b s 0 [] 0 where
 eq:=by simp [val]
 len:=rfl
 ls:=fun x hx=>by cases hx
 c1:=fun _=>by omega
 c2:=fun _=>by omega
theorem qn (o:List Int) (x:Int):val (o ++ [x])=val o+10000 ^ o.length*x:=by
 rw [gJ]
 show _+_*(x+10000*0)=_
 grind
theorem ft.step {a b o:List Int} {s c:Int} {i:Nat} (h:ft a b s i o c) {x c':Int} (hx:lim x) (he:x+10000*c'=nth a i+s*nth b i+c) (h1:s=1->0<=c'/\c'<=1) (h2:s=-1->-1<=c'/\c'<=0):ft a b s (i+1) (o ++ [x]) c' where
 eq:=by
  rw [qn,h.len,bq,bq,Int.pow_succ];have:=h.eq
  grind
 len:=by rw [List.length_append,h.len];rfl
 ls:=cM h.ls fun y hy=>by rw [List.mem_singleton] at hy;subst hy;exact hx
 c1:=h1
 c2:=h2
theorem ft.rng {a b o:List Int} {s c:Int} {i:Nat} (h:ft a b s i o c) (hs:s=1∨s=-1) (ha:bD a) (hb:bD b):-10000<=nth a i+s*nth b i+c/\nth a i+s*nth b i+c<=19999/\(s=1->0<=nth a i+s*nth b i+c)/\(s=-1->nth a i+s*nth b i+c<=9999)/\-1<=c/\c<=1:=by
 have h1:=kM ha i;have h2:=kM hb i;unfold lim at h1 h2
 rcases hs with rfl | rfl
 ·have:=h.c1 rfl
  refine ⟨?_,?_,fun _=>?_,fun h=>absurd h (by decide),?_,?_⟩ <;> omega
 have:=h.c2 rfl;refine ⟨?_,?_,fun h=>absurd h (by decide),fun _=>?_,?_,?_⟩ <;> omega
theorem ft.all {a b o:List Int} {s c:Int} {i:Nat} (h:ft a b s i o c) (ha:a.length<=i) (hb:b.length<=i):val o+10000 ^ i*c=val a+s*val b:=by
 have:=h.eq
 rwa [List.take_of_length_le ha,List.take_of_length_le hb] at this
theorem ft.fin {a b o:List Int} {s c:Int} {i:Nat} (h:ft a b s i o c) (hs:s=1∨s=-1) (ha:a.length<=i) (hb:b.length<=i) (h0:0<=val a+s*val b) (h1:val a+s*val b<10000 ^ i):c=0/\val o=val a+s*val b:=by
 have e:=h.all ha hb;have o1:=dB h.ls;have o2:=fU h.ls;rw [h.len] at o2;have hp:=pow_pos i
 have hc:-1<=c/\c<=1:=by
  rcases hs with rfl | rfl
  ·have:=h.c1 rfl;omega
  have:=h.c2 rfl;omega
 have:c=0:=by
  have hc':c=-1∨c=0∨c=1:=by omega
  rcases hc' with rfl | rfl | rfl
  ·rw [show (10000:Int) ^ i*-1=-(10000 ^ i) by grind] at e;omega
  ·rfl
  rw [Int.mul_one] at e;omega
 subst this;refine ⟨rfl,?_⟩;rw [Int.mul_zero] at e;omega
theorem ft.carry {a b o:List Int} {s c:Int} {i:Nat} (h:ft a b s i o c) (hs:s=1∨s=-1) (ha:a.length<=i) (hb:b.length<=i) (h0:0<=val a+s*val b) (hc:c≠0):c=1:=by
 have e:=h.all ha hb;have o2:=fU h.ls;rw [h.len] at o2
 have hc':c=-1∨c=1:=by
  rcases hs with rfl | rfl
  ·have:=h.c1 rfl;omega
  have:=h.c2 rfl;omega
 rcases hc' with rfl | rfl
 ·rw [show (10000:Int) ^ i*-1=-(10000 ^ i) by grind] at e;omega
 rfl
theorem jf {m n:Nat} (h:m<=n):(10000:Int) ^ m<=10000 ^ n:=by
 obtain ⟨k,rfl⟩:=Nat.le.dest h;rw [Int.pow_add];have h1:=pow_pos m;have h2:=pow_pos k;have:=Int.mul_le_mul_of_nonneg_left (show (1:Int)<=10000 ^ k by omega) (Int.le_of_lt h1);omega
theorem sum_lt {a b:List Int} {s:Int} (hs:s=1∨s=-1) (ha:bD a) (hb:bD b) {n:Nat} (h1:a.length<=n) (h2:b.length<=n):val a+s*val b<10000 ^ (n+1):=by
 have a2:=fU ha;have b1:=dB hb;have b2:=fU hb;have p1:=jf h1;have p2:=jf h2;have p:=pow_pos n;rw [Int.pow_succ]
 rcases hs with rfl | rfl <;> omega
structure MInv (o0 o:List Int) (x:Int) (b:List Int) (i k:Nat) (c:Int):Prop where
 len:o.length=o0.length
 eq:val (o.take k)+10000 ^ k*c=val (o0.take k)+10000 ^ i*(x*val (b.take (k - i)))
 rest:o.drop k=o0.drop k
 ls:bD (o.take k)
 c0:0<=c/\c<=9999
theorem MInv.start {o0:List Int} (h:bD o0) (x:Int) (b:List Int) (i:Nat):MInv o0 o0 x b i i 0 where
 len:=rfl
 eq:=by rw [Nat.sub_self];simp [val]
 rest:=rfl
 ls:=fd h i
 c0:=by omega
theorem oL {x y:Int} (hx:lim x) (hy:lim y):0<=x*y/\x*y<=99980001:=by
 have h1:=Int.mul_nonneg hx.1 hy.1;have h2:x*y<=9999*y:=Int.mul_le_mul_of_nonneg_right (by have:=hx.2;omega) hy.1;have:=hy.2;omega
theorem MInv.step {o0 o b:List Int} {x c t:Int} {i k:Nat} (h:MInv o0 o x b i k c) (ho:bD o0) (hx:lim x) (hb:bD b) (hik:i<=k) (ht:o0[k]?=some t) {y:Int} (hy:y=t+c+x*nth b (k - i)):(0<=y/\y<=99999999)/\MInv o0 (o.set k (y % 10000)) x b i (k+1) (y / 10000):=by
 have hk:=(List.getElem?_eq_some_iff.1 ht).1;have htl:lim t:=ho t (List.mem_of_getElem? ht);have hm:=oL hx (kM hb (k - i));have hc:=h.c0;unfold lim at htl
 have MW:0<=y/\y<=99999999:=by omega
 have htk:(o.set k (y % 10000)).take k=o.take k:=by
  rw [List.take_set,List.set_eq_of_length_le (by rw [List.length_take];omega)]
 have hsk:(o.set k (y % 10000))[k]?=some (y % 10000):=by
  rw [List.getElem?_set_self (by rw [h.len];exact hk)]
 refine ⟨MW,⟨by rw [List.length_set,h.len],?_,?_,?_,by omega⟩⟩
 ·rw [b6 hsk,htk,b6 ht,show k+1 - i=(k - i)+1 by omega,bq,Int.pow_succ]
  have e:=h.eq
  have hp:(10000:Int) ^ i*10000 ^ (k - i)=10000 ^ k:=by rw [←Int.pow_add,show i+(k - i)=k by omega]
  have hd:10000*(y / 10000)+y % 10000=y:=Int.mul_ediv_add_emod y 10000;subst hy;rw [←hp] at e ⊢;generalize (10000:Int) ^ i=P at *;generalize (10000:Int) ^ (k - i)=Q at *;generalize nth b (k - i)=n3,val (b.take (k - i))=v3,val (o0.take k)=v2,val (o.take k)=v1,(t+c+x*nth b (k - i)) % 10000=r,(t+c+x*nth b (k - i)) / 10000=q at *
  grind
 ·rw [List.drop_set_of_lt (Nat.lt_succ_self k)]
  have:=congrArg (List.drop 1) h.rest
  rwa [List.drop_drop,List.drop_drop] at this
 rw [List.take_add_one,hsk,htk]
 refine cM h.ls fun z hz=>?_
 simp only [Option.toList_some,List.mem_singleton] at hz;subst hz;unfold lim;omega
theorem MInv.bD {o0 o b:List Int} {x c:Int} {i k:Nat} (h:MInv o0 o x b i k c) (ho:bD o0):bD o:=by
 rw [←List.take_append_drop k o,h.rest];exact cM h.ls (jU ho k)
theorem MInv.fin {o0 o b:List Int} {x c:Int} {i n:Nat} (h:MInv o0 o x b i n c) (hn:o0.length=n) (hb:b.length+i<=n) {v:Int} (hv:val o0+10000 ^ i*(x*val b)=v) (hlt:v<10000 ^ n) (ho:Wh.bD o0):val o=v:=by
 have e:=h.eq;have l1:=h.len;rw [List.take_of_length_le (by omega),List.take_of_length_le (by omega),List.take_of_length_le (by omega),hv] at e;have o1:=dB (h.bD ho);have hp:=pow_pos n;have hc:=h.c0
 by_cases h0:c=0
 ·subst h0;rw [Int.mul_zero] at e;omega
 have:=Int.mul_le_mul_of_nonneg_left (show 1<=c by omega) (Int.le_of_lt hp);omega
theorem xT {a b:List Int} {i:Nat} {x o:Int} (hx:a[i]?=some x) (ho:o=val (a.take i)*val b):o+10000 ^ i*(x*val b)=val (a.take (i+1))*val b:=by
 rw [b6 hx,ho]
 grind
theorem tG {a b:List Int} (ha:bD a) (hb:bD b) {n:Nat} (h:a.length+b.length<=n):val a*val b<10000 ^ n:=by
 have a1:=dB ha;have a2:=fU ha;have b1:=dB hb;have b2:=fU hb;have p:=jf h;rw [Int.pow_add] at p;have h1:val a*val b<=val a*10000 ^ b.length:=Int.mul_le_mul_of_nonneg_left (Int.le_of_lt b2) a1;have h2:val a*10000 ^ b.length<10000 ^ a.length*10000 ^ b.length:=Int.mul_lt_mul_of_pos_right a2 (pow_pos _);omega
structure kX (a q:List Int) (n:Int) (i:Nat) (r:Int):Prop where
 len:q.length=a.length
 eq:val (a.drop i)=n*val (q.drop i)+r
 r0:0<=r/\r<n
 ls:bD (q.drop i)
theorem kX.start {a q:List Int} {n:Int} (hn:0<n) (hl:q.length=a.length):kX a q n a.length 0 where
 len:=hl
 eq:=by rw [List.drop_length,←hl,List.drop_length];simp [val]
 r0:=by omega
 ls:=by rw [←hl,List.drop_length];intro x hx;cases hx
theorem kX.step {a q:List Int} {n r x:Int} {i:Nat} (h:kX a q n (i+1) r) (ha:bD a) (hx:a[i]?=some x) (hn:n<=1000000000000):(0<=r*10000+x/\r*10000+x<=10000000000000000)/\kX a (q.set i ((r*10000+x) / n)) n i ((r*10000+x) % n):=by
 have hi:=(List.getElem?_eq_some_iff.1 hx).1;have hxl:lim x:=ha x (List.mem_of_getElem? hx);unfold lim at hxl;have hr:=h.r0;have hq:(q.set i ((r*10000+x) / n))[i]?=some ((r*10000+x) / n):=List.getElem?_set_self (by rw [h.len];exact hi);have hd:(q.set i ((r*10000+x) / n)).drop (i+1)=q.drop (i+1):=List.drop_set_of_lt (Nat.lt_succ_self i)
 have hn0:0<n:=by omega
 have hq0:0<=(r*10000+x) / n:=Int.ediv_nonneg (by omega) (by omega);have hq1:(r*10000+x) / n<10000:=Int.ediv_lt_of_lt_mul hn0 (by omega);refine ⟨by omega,⟨by rw [List.length_set,h.len],?_,⟨Int.emod_nonneg _ (by omega),Int.emod_lt_of_pos _ hn0⟩,?_⟩⟩
 ·rw [lr hx,lr hq,hd,h.eq]
  have:=Int.mul_ediv_add_emod (r*10000+x) n;generalize (r*10000+x) % n=z,(r*10000+x) / n=y at *
  grind
 rw [List.drop_eq_getElem_cons (by rw [List.length_set,h.len];exact hi),hd];intro y hy
 rcases List.mem_cons.1 hy with rfl | hy
 ·rw [List.getElem_set_self];exact ⟨hq0,hq1⟩
 exact h.ls y hy
theorem kX.fin {a q:List Int} {n r:Int} (h:kX a q n 0 r):val q=val a / n/\r=val a % n/\bD q:=by
 have e:=h.eq;rw [List.drop_zero,List.drop_zero] at e;have hr:=h.r0;have hl:=h.ls;rw [List.drop_zero] at hl;refine ⟨?_,?_,hl⟩
 ·rw [e,Int.add_comm,Int.add_mul_ediv_left _ _ (by omega),Int.ediv_eq_zero_of_lt hr.1 hr.2,Int.zero_add]
 rw [e,Int.add_comm,Int.add_mul_emod_self_left,Int.emod_eq_of_lt hr.1 hr.2]
end Wh
namespace Wh
def Du (x y:Int):Int:=if x<y then -1 else if y<x then 1 else 0
theorem jg {x y:Int} (h:x<y):Du x y=-1:=if_pos h
theorem oy {x y:Int} (h:y<x):Du x y=1:=by unfold Du;rw [if_neg (by omega),if_pos h]
theorem B0 (x:Int):Du x x=0:=by unfold Du;rw [if_neg (by omega),if_neg (by omega)]
theorem qp {a:List Int} (ha:bD a) (i:Nat):val (a.take i)<10000 ^ i:=by
 have h1:=fU (fd ha i);have h2:=jf (m:=(a.take i).length) (n:=i) (by rw [List.length_take];omega);omega
theorem ru {a b:List Int} (ha:bD a) (hb:bD b) {i:Nat} (hlt:nth a i<nth b i):∀ n,i<n->(∀ j,i<j->j<n->nth a j=nth b j)->val (a.take n)<val (b.take n)
 | 0,h,_=>absurd h (Nat.not_lt_zero _)
 | n+1,h,he=>by
  by_cases hn:i=n
  ·subst hn
   have h1:=qp ha i;have h2:=dB (fd hb i);rw [bq,bq];have h3:=Int.mul_le_mul_of_nonneg_left (show nth a i+1<=nth b i by omega) (Int.le_of_lt (pow_pos i));rw [Int.mul_add,Int.mul_one] at h3;omega
  have ih:=ru ha hb hlt n (by omega) fun j h1 h2=>he j h1 (by omega)
  rw [bq,bq,he n (by omega) (by omega)];omega
theorem yM {a b:List Int}:∀ n,(∀ j,j<n->nth a j=nth b j)->val (a.take n)=val (b.take n)
 | 0,_=>by simp [val]
 | n+1,he=>by
  rw [bq,bq,he n (by omega),yM n fun j h=>he j (by omega)]
theorem fp {a:List Int} {n:Nat} (h:a.length<=n):a.take n=a:=List.take_of_length_le h
theorem vV {a b:List Int} (ha:bD a) (hb:bD b) {i n:Nat} (h1:a.length<=n) (h2:b.length<=n) (hi:i<n) (he:∀ j,i<j->j<n->nth a j=nth b j) (hlt:nth a i<nth b i):Du (val a) (val b)=-1:=by
 have:=ru ha hb hlt n hi he;rw [fp h1,fp h2] at this;exact jg this
theorem vU {a b:List Int} (ha:bD a) (hb:bD b) {i n:Nat} (h1:a.length<=n) (h2:b.length<=n) (hi:i<n) (he:∀ j,i<j->j<n->nth a j=nth b j) (hlt:nth b i<nth a i):Du (val a) (val b)=1:=by
 have:=ru hb ha hlt n hi fun j h1 h2=>(he j h1 h2).symm
 rw [fp h1,fp h2] at this;exact oy this
theorem cmp_eq {a b:List Int} {n:Nat} (h1:a.length<=n) (h2:b.length<=n) (he:∀ j,j<n->nth a j=nth b j):Du (val a) (val b)=0:=by
 have:=yM n he;rw [fp h1,fp h2] at this;rw [this,B0]
theorem eM {m n:Nat} (h:m<=n):(a_ m).length<=(a_ n).length:=by
 refine dL ?_;have h1:=fU (an n);rw [bE] at h1;have h2:((10000 ^ (a_ n).length:Nat):Int)=(10000:Int) ^ (a_ n).length:=Int.natCast_pow 10000 _;generalize (10000:Int) ^ (a_ n).length=P at *;generalize 10000 ^ (a_ n).length=Q at *;omega
theorem k9 {m n:Nat} (h:(a_ m).length<(a_ n).length):m<n:=by
 by_cases h':n<=m
 ·have:=eM h';omega
 omega
def Dv (neg:Bool) (n:Int):Int:=if neg then -n else n
theorem tL {neg:Bool} {n:Int} (h:0<=n):decide (Dv neg n<0)=(neg && decide (n≠0)):=by
 cases neg
 ·simp [Dv];omega
 simp only [Dv,if_true,Bool.true_and,decide_eq_decide];omega
theorem pA {neg:Bool} {n:Int} (h:0<=n):(Dv neg n).natAbs=n.toNat:=by
 cases neg
 ·simp only [Dv,Bool.false_eq_true,if_false];omega
 simp only [Dv,if_true];omega
theorem qd (z:Int):Dv (decide (z<0)) z.natAbs=z:=by
 unfold Dv
 by_cases h:z<0
 ·rw [if_pos (decide_eq_true h)];omega
 rw [if_neg (by simp [h])];omega
end Wh
end
section
open Go.RowKit
theorem lY {a b:Int} (h:a=b):Ending.returned (.int .i64 a)=.returned (.int .i64 b):=by rw [h]
theorem d8 {a b:Bool} (h:a=b):Ending.returned (.bool a)=.returned (.bool b):=by rw [h]
theorem dl (n lo hi:Int) (w:World) :
  Calls Tryz.prog 35 #[n,lo,hi] w fun e w'=>e=.returned (.bool (M.ins n lo hi))/\w=w':=by
 unfold M.ins
 by_cases h1:lo<=n <;> by_cases h2:n<=hi <;>
 (go_enter Tryz.func35,Tryz.ntmps35
  go_wp2
  go_ret;exact ⟨by simp [h1,h2],rfl⟩)
theorem cQ (n lo hi:Int) (w:World) :
  Calls Tryz.prog 28 #[n,lo,hi] w fun e w'=>e=.returned (.bool (M.ins n lo hi))/\w=w':=by
 unfold M.ins
 by_cases h1:lo<=n <;> by_cases h2:n<=hi <;>
 (go_enter Tryz.func28,Tryz.ntmps28
  go_wp2
  go_ret;exact ⟨by simp [h1,h2],rfl⟩)
theorem wO (n:Int) (w:World) (h1:0<=n) (h2:n<=4000000000000000000) :
  Calls Tryz.prog 97 #[n] w fun e w'=>e=.returned (.int .i64 (M.root n))/\w=w':=by
 go_enter Tryz.func97,Tryz.ntmps97
 go_wp2
 go_loop [3,4] (fun l h=>∃ a b:Int,0<=a/\a<b/\b<=2000000001/\l=.int .i64 a/\h=.int .i64 b/\a*a<=n/\n<b*b) (fun l h=>(intOf h - intOf l).toNat)
 case atStart=>exact ⟨0,2000000001,by omega,by omega,by omega,rfl,rfl,by simp;omega,by simp;omega⟩
 case round=>
 obtain ⟨a,b,ha,hab,hb,rfl,rfl,ha2,hb2⟩:=hrel
 by_cases c1:1<b - a
 ·have hm1:a<(a+b) / 2:=by omega
  have hm2:(a+b) / 2<b:=by omega
  have EY:=M.oM (x:=(a+b) / 2) (y:=(a+b) / 2) (m:=2000000001) (n:=2000000001) (by omega) (by omega) (by omega) (by omega)
  by_cases c2:(a+b) / 2*((a+b) / 2)<=n
  ·go_wp2
   go_round
   case rel=>exact ⟨(a+b) / 2,b,by omega,by omega,by omega,rfl,rfl,c2,hb2⟩
   case measure=>simp [intOf];omega
  go_wp2
  go_round
  case rel=>exact ⟨a,(a+b) / 2,by omega,by omega,by omega,rfl,rfl,ha2,by omega⟩
  case measure=>simp [intOf];omega
 go_wp2;go_ret;exact ⟨lY (M.kS ⟨by omega,ha2,by rw [show (a:Int)+1=b from by omega];exact hb2⟩),rfl⟩
theorem qC (a b:Int) (w:World) (h1:-9000000000000000000<=a) (h2:a<=9000000000000000000) (h3:-9000000000000000000<=b) (h4:b<=9000000000000000000) :
  Calls Tryz.prog 83 #[a,b] w fun e w'=>e=.returned (.int .i64 (M.gcd a b))/\∃ m,w'=w.drewN m:=by
 go_enter Tryz.func83,Tryz.ntmps83
 go_wp2
 go_loopw [0,1] (fun va vb wr=>∃ x y:Int,va=.int .i64 x/\vb=.int .i64 y/\-9000000000000000000<=x/\x<=9000000000000000000/\-9000000000000000000<=y/\y<=9000000000000000000/\M.gcd x y=M.gcd a b/\∃ m,wr=w.drewN m) (fun _ vb _=>(intOf vb).natAbs)
 case atStart=>exact ⟨a,b,rfl,rfl,h1,h2,h3,h4,rfl,0,rfl⟩
 case round=>
 obtain ⟨x,y,rfl,rfl,x1,x2,y1,y2,hg,m,rfl⟩:=hrel;have Hg:=DB hg;clear hg
 by_cases hy:y=0
 ·subst hy
  by_cases hx:0<=x
  ·go_wp2
   all_goals (go_ret;exact ⟨lY (by rw [←Hg.out];simp only [M.gcd,Int.gcd_zero_right];omega),_,rfl⟩)
  go_wp2
  all_goals (go_ret;exact ⟨lY (by rw [←Hg.out];simp only [M.gcd,Int.gcd_zero_right];omega),_,rfl⟩)
 have ht:=Int.natAbs_tmod x y;have hm:x.natAbs % y.natAbs<y.natAbs:=Nat.mod_lt _ (by omega);have ht:=DB (show (x.tmod y).natAbs<y.natAbs by omega)
 have ht1:-9000000000000000000<=x.tmod y:=by omega
 have ht2:x.tmod y<=9000000000000000000:=by omega
 by_cases hp:0<=x/\1<=y
 ·obtain ⟨p1,p2⟩:=hp
  have e1:=DB (Int.tmod_eq_emod_of_nonneg (b:=y) p1);have hb:=M.xI (a:=x) p2;go_wp2
  go_quiet (fail)
  go_wp2
  go_roundw
  case rel=>exact ⟨y,x % y,rfl,rfl,y1,y2,by omega,by omega,by rw [←Hg.out,←e1.out];unfold M.gcd;rw [M.lH],_,World.drewN_drewN _ _ _⟩
  case measure=>simp [intOf];omega
 go_wp2
 go_quiet (fail)
 go_wp2
 go_roundw
 case rel=>exact ⟨y,x.tmod y,rfl,rfl,y1,y2,ht1,ht2,by rw [←Hg.out];unfold M.gcd;rw [M.lH],_,World.drewN_drewN _ _ _⟩
 case measure=>have:=ht.out;simp [intOf];omega
theorem dK (a b:Int) (w:World) (h1:0<=a) (h2:a<=9000000000000000000) (h3:0<=b) (h4:b<=9000000000000000000) :
  Calls Tryz.prog 52 #[a,b] w fun e w'=>e=.returned (.int .i64 (M.gcd a b))/\w=w':=by
 go_enter Tryz.func52,Tryz.ntmps52
 go_wp2
 go_loop [0,1] (fun va vb=>∃ x y:Int,va=.int .i64 x/\vb=.int .i64 y/\0<=x/\x<=9000000000000000000/\0<=y/\y<=9000000000000000000/\M.gcd x y=M.gcd a b) (fun _ vb=>(intOf vb).toNat)
 case atStart=>exact ⟨a,b,rfl,rfl,h1,h2,h3,h4,rfl⟩
 case round=>
 obtain ⟨x,y,rfl,rfl,x1,x2,y1,y2,hg⟩:=hrel;have Hg:=DB hg;clear hg
 by_cases hy:0<y
 ·have hb:=M.xI (a:=x) (p:=y) (by omega)
  have e1:=DB (Int.tmod_eq_emod_of_nonneg (b:=y) x1);go_wp2
  go_round
  case rel=>exact ⟨y,x % y,rfl,rfl,y1,y2,by omega,by omega,by rw [←Hg.out,←e1.out];unfold M.gcd;rw [M.lH]⟩
  case measure=>simp [intOf];omega
 obtain rfl:y=0:=by omega
 go_wp2;go_ret;exact ⟨lY (by rw [←Hg.out];simp only [M.gcd,Int.gcd_zero_right];omega),rfl⟩
theorem d6 (a b:Int) (w:World) :
  Calls Tryz.prog 94 #[a,b] w fun e w'=>e=.returned (.int .i64 (max a b))/\w=w':=by
 by_cases h:b<a
 ·go_enter Tryz.func94,Tryz.ntmps94
  go_wp2;go_ret;exact ⟨lY (by omega),rfl⟩
 go_enter Tryz.func94,Tryz.ntmps94
 go_wp2;go_ret;exact ⟨lY (by omega),rfl⟩
theorem dH (a:Int) (w:World) (h1:-9223372036854775807<=a) (h2:a<=9223372036854775807) :
  Calls Tryz.prog 53 #[a] w fun e w'=>e=.returned (.int .i64 (a.natAbs:Int))/\w=w':=by
 go_enter Tryz.func53,Tryz.ntmps53
 go_wp2_with (go_at_call 94;refine (d6 _ _ _).mono ?_;rintro e w' ⟨rfl,rfl⟩)
 go_ret;exact ⟨lY (by omega),rfl⟩
theorem iK {W w1:World} (hb:Below W.heap.size W w1):(∀ b o,b<W.heap.size->w1.cell? ⟨b,o,none⟩=W.cell? ⟨b,o,none⟩)/\(∀ b o,b<W.heap.size->w1.frozen? ⟨b,o,none⟩=W.frozen? ⟨b,o,none⟩)/\W.heap.size<=w1.heap.size:=
 ⟨fun b o h=>hb.cell (p:=⟨b,o,none⟩) h,fun b o h=>hb.frozen (p:=⟨b,o,none⟩) h,hb.size⟩
theorem aP (w:World):w.drew.heap=w.heap:=rfl
theorem aK (w:World) (a:Addr) (v:Value):(w.setCell a v).heap.size=w.heap.size:=by simp [World.setCell]
theorem aQ {w W:World} (h:Below w.heap.size w W) (o:Obj):Below w.heap.size w (W.alloc o):=h.alloc h.size o
theorem aR {w W w':World} (h:Below w.heap.size w W) (hb:Below W.heap.size W w'):Below w.heap.size w w':=d_ h hb
theorem aN {w W:World} (h:Below w.heap.size w W) (n:Nat):Below w.heap.size w (W.drewN n):=by
 induction n with
 | zero=>exact h
 | succ n ih=>exact ih.drew
theorem nY (a b:Int) (w:World) (h:M.aw a b=true) :
  Calls Tryz.prog 106 #[.agg #[a,b]] w fun e w'=>e=.returned (.int .i64 (M.aS a b))/\Below w.heap.size w w':=by
 obtain ⟨h1,h1',h2,h2'⟩:=M.ag h;have b1:=M.aH (x:=4*a) (y:=a) (m:=4000) (n:=1000);have b2:=M.aH (x:=4*a*a) (y:=a) (m:=4000000) (n:=1000);have b3:=M.aH (x:=27*b) (y:=b) (m:=270000) (n:=10000);go_enter Tryz.func106,Tryz.ntmps106
 go_wp2;go_ret;exact ⟨rfl,(by repeat (first | exact DE _ _ | refine aQ ?_ _ | refine aR ?_ (by assumption) | refine Below.drew ?_ | refine DD ?_ (by first | exact DF _ | exact Nat.le_add_right _ _ | (simp <;> omega)) _ | refine aN ?_ _))⟩
theorem wL (a b:Int) (w:World) (h:M.aw a b=true) :
  Calls Tryz.prog 116 #[.agg #[a,b]] w fun e w'=>e=.returned (.int .i64 (M.aS a b))/\Below w.heap.size w w':=by
 obtain ⟨h1,h1',h2,h2'⟩:=M.ag h;have b1:=M.aH (x:=4*a) (y:=a) (m:=4000) (n:=1000);have b2:=M.aH (x:=4*a*a) (y:=a) (m:=4000000) (n:=1000);have b3:=M.aH (x:=27*b) (y:=b) (m:=270000) (n:=10000);go_enter Tryz.func116,Tryz.ntmps116
 go_wp2;go_ret;exact ⟨rfl,(by repeat (first | exact DE _ _ | refine aQ ?_ _ | refine aR ?_ (by assumption) | refine Below.drew ?_ | refine DD ?_ (by first | exact DF _ | exact Nat.le_add_right _ _ | (simp <;> omega)) _ | refine aN ?_ _))⟩
theorem mT (a b:Int) (w:World) :
  Calls Tryz.prog 62 #[.agg #[a,b]] w fun e w'=>e=.returned (.bool (M.good a b))/\Below w.heap.size w w':=by
 cases h1:M.ins a (-1000) 1000
 ·go_enter Tryz.func62,Tryz.ntmps62
  go_wp2_with (go_at_call 28;refine (cQ _ _ _ _).mono ?_;rintro e w' ⟨rfl,rfl⟩)
  go_ret;exact ⟨d8 (by simp [M.good,M.aw,h1]),(by repeat (first | exact DE _ _ | refine aQ ?_ _ | refine aR ?_ (by assumption) | refine Below.drew ?_ | refine DD ?_ (by first | exact DF _ | exact Nat.le_add_right _ _ | (simp <;> omega)) _ | refine aN ?_ _))⟩
 cases h2:M.ins b (-10000) 10000
 ·go_enter Tryz.func62,Tryz.ntmps62
  go_wp2_with (go_at_call 28;refine (cQ _ _ _ _).mono ?_;rintro e w' ⟨rfl,rfl⟩)
  go_ret;exact ⟨d8 (by simp [M.good,M.aw,h2]),(by repeat (first | exact DE _ _ | refine aQ ?_ _ | refine aR ?_ (by assumption) | refine Below.drew ?_ | refine DD ?_ (by first | exact DF _ | exact Nat.le_add_right _ _ | (simp <;> omega)) _ | refine aN ?_ _))⟩
 go_enter Tryz.func62,Tryz.ntmps62
 go_wp2_with (first | (go_at_call 28;refine (cQ _ _ _ _).mono ?_;rintro e w' ⟨rfl,rfl⟩) | (go_at_call 106;refine (nY _ _ _ (by simp [M.aw,h1,h2])).mono ?_;rintro e w' ⟨rfl,hb⟩;obtain ⟨hc_,hf_,Jf⟩:=iK hb;(try simp only [DC,aP,World.heap_drewN,aK] at Jf)))
 go_ret;exact ⟨d8 (by simp [M.good,M.aw,h1,h2]),(by repeat (first | exact DE _ _ | refine aQ ?_ _ | refine aR ?_ (by assumption) | refine Below.drew ?_ | refine DD ?_ (by first | exact DF _ | exact Nat.le_add_right _ _ | (simp <;> omega)) _ | refine aN ?_ _))⟩
theorem pk (a b:Int) (w:World) :
  Calls Tryz.prog 74 #[.agg #[a,b]] w fun e w'=>e=.returned (.bool (M.good a b))/\Below w.heap.size w w':=by
 cases h1:M.ins a (-1000) 1000
 ·go_enter Tryz.func74,Tryz.ntmps74
  go_wp2_with (go_at_call 35;refine (dl _ _ _ _).mono ?_;rintro e w' ⟨rfl,rfl⟩)
  go_ret;exact ⟨d8 (by simp [M.good,M.aw,h1]),(by repeat (first | exact DE _ _ | refine aQ ?_ _ | refine aR ?_ (by assumption) | refine Below.drew ?_ | refine DD ?_ (by first | exact DF _ | exact Nat.le_add_right _ _ | (simp <;> omega)) _ | refine aN ?_ _))⟩
 cases h2:M.ins b (-10000) 10000
 ·go_enter Tryz.func74,Tryz.ntmps74
  go_wp2_with (go_at_call 35;refine (dl _ _ _ _).mono ?_;rintro e w' ⟨rfl,rfl⟩)
  go_ret;exact ⟨d8 (by simp [M.good,M.aw,h2]),(by repeat (first | exact DE _ _ | refine aQ ?_ _ | refine aR ?_ (by assumption) | refine Below.drew ?_ | refine DD ?_ (by first | exact DF _ | exact Nat.le_add_right _ _ | (simp <;> omega)) _ | refine aN ?_ _))⟩
 go_enter Tryz.func74,Tryz.ntmps74
 go_wp2_with (first | (go_at_call 35;refine (dl _ _ _ _).mono ?_;rintro e w' ⟨rfl,rfl⟩) | (go_at_call 116;refine (wL _ _ _ (by simp [M.aw,h1,h2])).mono ?_;rintro e w' ⟨rfl,hb⟩;obtain ⟨hc_,hf_,Jf⟩:=iK hb;(try simp only [DC,aP,World.heap_drewN,aK] at Jf)))
 go_ret;exact ⟨d8 (by simp [M.good,M.aw,h1,h2]),(by repeat (first | exact DE _ _ | refine aQ ?_ _ | refine aR ?_ (by assumption) | refine Below.drew ?_ | refine DD ?_ (by first | exact DF _ | exact Nat.le_add_right _ _ | (simp <;> omega)) _ | refine aN ?_ _))⟩
def cv (a b:Int):Value:=.agg #[a,b]
theorem nt {a b:Int} (h:b≠0):0<M.gcd a b:=by
 unfold M.gcd;have:0<Int.gcd a b:=Int.gcd_pos_of_ne_zero_right _ h;omega
def b9 (a b:Int):Int:=if b<0 then -a.tdiv (M.gcd a b) else a.tdiv (M.gcd a b)
def bK (a b:Int):Int:=if b<0 then -b.tdiv (M.gcd a b) else b.tdiv (M.gcd a b)
theorem fg {a b:Int} (h:b<0):b9 a b=-a.tdiv (M.gcd a b):=if_pos h
theorem dP {a b:Int} (h:0<=b):b9 a b=a.tdiv (M.gcd a b):=if_neg (by omega)
theorem ff {a b:Int} (h:b<0):bK a b=-b.tdiv (M.gcd a b):=if_pos h
theorem dO {a b:Int} (h:0<=b):bK a b=b.tdiv (M.gcd a b):=if_neg (by omega)
theorem fQ {a d m:Int} (h1:-m<=a) (h2:a<=m) (hd:d≠0):-m<=a.tdiv d/\a.tdiv d<=m:=by
 have:(a.tdiv d).natAbs<=a.natAbs:=by rw [Int.natAbs_tdiv];exact Nat.div_le_self _ _
 omega
theorem wP {a b:Int} (h:b≠0):M.gcd a b<=b.natAbs:=by
 unfold M.gcd;have:=Nat.le_of_dvd (by omega) (Nat.gcd_dvd_right a.natAbs b.natAbs);simp only [Int.gcd];omega
theorem iv (a b:Int) (w:World) (h1:-4000000000000000000<=a) (h2:a<=4000000000000000000) (h3:-4000000000000000000<=b) (h4:b<=4000000000000000000) (h0:b≠0) :
  Calls Tryz.prog 99 #[a,b] w fun e w'=>e=.returned (.tuple #[b9 a b,bK a b])/\Below w.heap.size w w':=by
 have hg:=nt (a:=a) h0;have hl:=wP (a:=a) h0
 have hgg:M.gcd a.natAbs b.natAbs=M.gcd a b:=by simp [M.gcd,Int.gcd]
 have t1:=fQ (d:=M.gcd a b) h1 h2 (by omega);have t2:=fQ (d:=M.gcd a b) h3 h4 (by omega)
 by_cases hb:b<0
 ·have e1:=DB (fg (a:=a) hb)
  have e2:=DB (ff (a:=a) hb);go_enter Tryz.func99,Tryz.ntmps99
  go_wp2_with (first | (go_at_call 53;refine (dH _ _ (by omega) (by omega)).mono ?_;rintro e w' ⟨rfl,rfl⟩) | (go_at_call 52;refine (dK _ _ _ (by omega) (by omega) (by omega) (by omega)).mono ?_;rintro e w' ⟨rfl,rfl⟩))
  go_quiet (fail)
  go_wp2;go_ret2;exact ⟨by rw [e1.out,e2.out];rfl,(by repeat (first | exact DE _ _ | refine aQ ?_ _ | refine aR ?_ (by assumption) | refine Below.drew ?_ | refine DD ?_ (by first | exact DF _ | exact Nat.le_add_right _ _ | (simp <;> omega)) _ | refine aN ?_ _))⟩
 have e1:=DB (dP (a:=a) (b:=b) (by omega));have e2:=DB (dO (a:=a) (b:=b) (by omega));go_enter Tryz.func99,Tryz.ntmps99
 go_wp2_with (first | (go_at_call 53;refine (dH _ _ (by omega) (by omega)).mono ?_;rintro e w' ⟨rfl,rfl⟩) | (go_at_call 52;refine (dK _ _ _ (by omega) (by omega) (by omega) (by omega)).mono ?_;rintro e w' ⟨rfl,rfl⟩))
 go_quiet (fail)
 go_wp2;go_ret2;exact ⟨by rw [e1.out,e2.out];rfl,(by repeat (first | exact DE _ _ | refine aQ ?_ _ | refine aR ?_ (by assumption) | refine Below.drew ?_ | refine DD ?_ (by first | exact DF _ | exact Nat.le_add_right _ _ | (simp <;> omega)) _ | refine aN ?_ _))⟩
theorem aE {W w':World} (hb:Below W.heap.size W w') {p:Addr} {v:Value} (h:W.cell? p=some v):w'.cell? p=some v:=
 (hb.cell (World.block_lt_of_cell? W _ h)).trans h
theorem bI {W w':World} (hb:Below W.heap.size W w') {p:Addr} (h:p.block<W.heap.size) (hf:W.frozen? p=false):w'.frozen? p=false:=
 (hb.frozen h).trans hf
theorem sU {a b:Int} (h:M.aw a b=true):-10000000000<=M.aS a b/\M.aS a b<=10000000000:=by
 obtain ⟨h1,h1',h2,h2'⟩:=M.ag h;have b1:=M.aH (x:=4*a) (y:=a) (m:=4000) (n:=1000);have b2:=M.aH (x:=4*a*a) (y:=a) (m:=4000000) (n:=1000);have b3:=M.aH (x:=27*b) (y:=b) (m:=270000) (n:=10000);unfold M.aS;omega
theorem lJ:(Tryz.prog.info? 3).map (fun i=>(i.zero,i.size,i.bytes))=some (some (.int .i64 0),1,8):=by kernel_rfl
def aF (w:World) (base:Nat) (v:Value) (xs:List Int):Prop:=w.ownsRow base 3 1 v xs.length (xs.map (Value.int .i64))
theorem aF.nil (w:World) (base:Nat):aF w base (.slice none 0 0) []:=World.ownsRow_nil w base _ 1
theorem aF.push {w:World} {base:Nat} {v':Value} {xs:List Int} {n:Nat} {x:Int} {ys:List Int} (hn:n=xs.length) (h:w.ownsRow base 3 1 v' (n+1) (xs.map (Value.int .i64) ++ [.int .i64 x])) (he:ys=xs ++ [x]):aF w base v' ys:=by
 subst hn he
 simpa [aF] using h
theorem aF.below {w w':World} {base:Nat} {v:Value} {xs:List Int} (h:aF w base v xs) (hb:Below w.heap.size w w'):aF w' base v xs:=by
 obtain ⟨h1,h2⟩:=h;refine ⟨h1,?_⟩
 rcases h2 with h2 | ⟨g,cap,cur,hv,hg,hh,r⟩
 ·exact Or.inl h2
 exact Or.inr ⟨g,cap,cur,hv,hg,by rw [hb.block g (Array.getElem?_eq_some_iff.1 hh).1];exact hh,r⟩
theorem aF.base {w:World} {base base':Nat} {v:Value} {xs:List Int} (h:aF w base v xs) (hb:base'<=base):aF w base' v xs:=by
 obtain ⟨h1,h2⟩:=h;refine ⟨h1,?_⟩
 rcases h2 with h2 | ⟨g,cap,cur,hv,hg,hh,r⟩
 ·exact Or.inl h2
 exact Or.inr ⟨g,cap,cur,hv,Nat.le_trans hb hg,hh,r⟩
theorem oQ (x:Int):∀ u ∈ [Value.int .i64 x],u.oneCell'=true:=by
 intro u hu;simp only [List.mem_singleton] at hu;subst hu;rfl
theorem aF.view {w:World} {base:Nat} {v:Value} {xs:List Int} (h:aF w base v xs):∃ (a:Option Addr) (cap:Nat),v=.slice a xs.length cap/\(xs.length:Int)<=9223372036854775807/\
  ∀ k,k<xs.length->∃ g x,a=some ⟨g,0,none⟩/\base<=g/\Hid (xs[k]?=some x)/\w.cell? ⟨g,k,none⟩=some (.int .i64 x):=by
 obtain ⟨h1,h2⟩:=h
 rcases h2 with ⟨rfl,hn⟩ | ⟨g,cap,cur,rfl,hg,hh,hc,hm,hs,ht⟩
 ·refine ⟨none,0,by rw [hn],by omega,fun k hk=>by omega⟩
 refine ⟨some ⟨g,0,none⟩,cap,rfl,by unfold maxLen at hm;omega,fun k hk=>⟨g,xs[k],rfl,hg,List.getElem?_eq_getElem hk,?_⟩⟩;rw [cell_of_row w g k cur _ (0,0) hh]
 have e:(xs.map (Value.int .i64))[k]?=some (.int .i64 xs[k]):=by
  rw [List.getElem?_map,List.getElem?_eq_getElem hk];rfl
 rw [←ht,List.getElem?_take] at e
 split at e
 ·simpa using e
 cases e
theorem jj {xs:List Int} {k:Nat} {x:Int} (h:xs[k]?=some x):xs.take (k+1)=xs.take k ++ [x]:=by
 obtain ⟨hk,e⟩:=List.getElem?_eq_some_iff.1 h;rw [List.take_succ_eq_append_getElem hk,e]
theorem cw {ops:Array Oper} {rest:List Oper} {o:Oper} {a:Act} {Q:Exit->Act->World->Prop} {w W:World} (base:Nat) (y:Int) (xs:List Int) (v:Value) (hgd:o.guard=none) (s x:Operand)
  (ho:o.op=.call { callee:=.builtin .append,args:=#[s,x],argTypes:=#[29,29] }) (hs:a.eval s=v) (hx:a.eval x=.slice (some ⟨w.heap.size,0,none⟩) 1 1)
  (hown:aF w base v xs) (hW:Below base W w) (hB:base<=w.heap.size) (hl:xs.length<=10000000000)
  (h:∀ v' w',aF w' base v' (xs ++ [y])->Below base W w'->wpList Tryz.prog ops Q rest (a.put o.dst v') w') :
  wpList Tryz.prog ops Q (o :: rest) a (w.alloc (.cells #[y] 3)):=by
 obtain ⟨i0,hi,hz0,hz1,hz2⟩:=info_parts lJ
 refine wpList_append_own _ hgd s x 29 ho base 3 i0 (.int .i64 0) 1 8 Tryz.underlying29 hi hz0 hz1 hz2 rfl (by decide) v xs.length (xs.map (Value.int .i64)) hs (hown.alloc _) ⟨w.heap.size,0,none⟩ 1 1 [.int .i64 y] hx rfl (fun j u hu=>by
  have hadd:(⟨w.heap.size,0,none⟩:Addr).add j=⟨w.heap.size,j,none⟩:=by unfold Addr.add;split <;> simp_all
  rw [hadd,World.cell?_alloc_at _ _ _ _ rfl]
  simpa using hu) (oQ _) ?_ ?_ ?_ ?_
 ·unfold maxLen;omega
 ·omega
 ·simp;omega
 intro v' w' h1 h2 _;exact h v' w' (aF.push rfl h1 rfl) ((hW.alloc hB _).grown h2 (by simp;omega) fun k hk=>(hown.lt k hk).1)
def ij (w:World) (hi:Nat) (v:Value) (xs:List Int):Prop:=
 ∃ (a:Option Addr) (cap:Nat),v=.slice a xs.length cap/\(xs.length:Int)<=9223372036854775807/\
  ∀ k,k<xs.length->∃ g x,a=some ⟨g,0,none⟩/\g<hi/\Hid (xs[k]?=some x)/\w.cell? ⟨g,k,none⟩=some (.int .i64 x)
theorem ij.below {w w':World} {hi:Nat} {v:Value} {xs:List Int} (h:ij w hi v xs) (hb:Below hi w w'):ij w' hi v xs:=by
 obtain ⟨a,cap,h1,h2,h3⟩:=h;refine ⟨a,cap,h1,h2,fun k hk=>?_⟩;obtain ⟨g,x,e1,e2,e3,e4⟩:=h3 k hk;exact ⟨g,x,e1,e2,e3,(hb.cell (p:=⟨g,k,none⟩) e2).trans e4⟩
theorem ij.mono {w:World} {hi hi':Nat} {v:Value} {xs:List Int} (h:ij w hi v xs) (hh:hi<=hi'):ij w hi' v xs:=by
 obtain ⟨a,cap,h1,h2,h3⟩:=h;refine ⟨a,cap,h1,h2,fun k hk=>?_⟩;obtain ⟨g,x,e1,e2,e3,e4⟩:=h3 k hk;exact ⟨g,x,e1,by omega,e3,e4⟩
theorem aF.seen {w:World} {base:Nat} {v:Value} {xs:List Int} (h:aF w base v xs):ij w w.heap.size v xs:=by
 obtain ⟨a,cap,h1,h2,h3⟩:=h.view;refine ⟨a,cap,h1,h2,fun k hk=>?_⟩;obtain ⟨g,x,e1,e2,e3,e4⟩:=h3 k hk;exact ⟨g,x,e1,World.block_lt_of_cell? w _ e4,e3,e4⟩
theorem ij.len {w:World} {hi:Nat} {v:Value} {xs:List Int} (h:ij w hi v xs):(xs.length:Int)<=9223372036854775807:=by
 obtain ⟨a,cap,h1,h2,h3⟩:=h;exact h2
theorem dw {a b c:World} {r:Option Nat} (h:a.grownBy b r) (k:b.grownBy c r):a.grownBy c r:=
 ⟨k.os.trans h.os,k.tape.trans h.tape,k.output.trans h.output,Nat.le_trans h.size k.size,fun i hi hne=>(k.block i (Nat.lt_of_lt_of_le hi h.size) hne).trans (h.block i hi hne)⟩
theorem fa (a:World) (r:Option Nat):a.grownBy a r:=⟨rfl,rfl,rfl,DF _,fun _ _ _=>rfl⟩
theorem qE {a b:World} {r:Option Nat} (h:a.grownBy b r) (n:Nat):a.grownBy (b.drewN n) r:=⟨h.os,h.tape,h.output,h.size,h.block⟩
theorem ck {a b:World} {r:Option Nat} {base:Nat} (h:a.grownBy b r) (hb:base<=a.heap.size) (hr:∀ k,r=some k->base<=k):Below base a b:=
 ⟨h.os,h.tape,h.output,h.size,fun i hi=>h.block i (by omega) (fun e=>by have:=hr i e.symm;omega)⟩
theorem bw {a b:World} (h:Below a.heap.size a b) (r:Option Nat):a.grownBy b r:=⟨h.os,h.tape,h.output,h.size,fun i hi _=>h.block i hi⟩
theorem aF.set {w:World} {base g cap n j:Nat} {xs:List Int} (hn:n=xs.length) (h:aF w base (.slice (some ⟨g,0,none⟩) n cap) xs) (x:Int) {ys:List Int} (he:ys=xs.set j x) :
  aF (w.setCell ⟨g,j,none⟩ (.int .i64 x)) base (.slice (some ⟨g,0,none⟩) n cap) ys/\w.grownBy (w.setCell ⟨g,j,none⟩ (.int .i64 x)) (some g):=by
 subst he hn;have:=World.ownsRow.stored (g:=g) (cap:=cap) h j (.int .i64 x);refine ⟨?_,this.2⟩;unfold aF;rw [List.map_set,List.length_set];exact this.1
theorem aF.form {w:World} {base:Nat} {v:Value} {xs:List Int} (h:aF w base v xs) (hn:0<xs.length):∃ g cap,v=.slice (some ⟨g,0,none⟩) xs.length cap/\base<=g/\g<w.heap.size:=by
 rcases h.2 with ⟨rfl,h2⟩ | ⟨g,cap,cur,rfl,hg,hh,-⟩
 ·omega
 exact ⟨g,cap,rfl,hg,(Array.getElem?_eq_some_iff.1 hh).1⟩
theorem aF.zD (w:World) (base:Nat) (hb:base<=w.heap.size):aF (w.alloc (.cells #[] 3)) base (.slice (some ⟨w.heap.size,0,none⟩) 0 0) []:=
 World.ownsRow_made w #[] 0 hb (by unfold maxLen;omega) rfl
theorem aF.lt {w:World} {base:Nat} {v:Value} {xs:List Int} (h:aF w base v xs):∀ k,v.ownBlock=some k->base<=k/\k<w.heap.size:=World.ownsRow.lt h
theorem aF.alloc {w:World} {base:Nat} {v:Value} {xs:List Int} (h:aF w base v xs) (o:Obj):aF (w.alloc o) base v xs:=World.ownsRow.alloc h o
theorem aF.forms {w:World} {base:Nat} {v:Value} {xs:List Int} (h:aF w base v xs):(v=.slice none 0 0/\xs=[])∨∃ g cap,v=.slice (some ⟨g,0,none⟩) xs.length cap/\base<=g:=by
 rcases h.2 with ⟨e,h2⟩ | ⟨g,cap',cur,e,hg,-⟩
 ·exact Or.inl ⟨e,List.eq_nil_of_length_eq_zero h2⟩
 exact Or.inr ⟨g,cap',e,hg⟩
theorem aF.cap {w:World} {base:Nat} {a:Option Addr} {n cap:Nat} {xs:List Int} (h:aF w base (.slice a n cap) xs):xs.length<=cap/\cap<=9223372036854775807:=by
 rcases h.2 with ⟨e,h2⟩ | ⟨g,cap',cur,e,-,-,h3,h4,-⟩
 ·injection e with e1 e2 e3
  exact ⟨by omega,by omega⟩
 injection e with e1 e2 e3
 unfold maxLen at h4;exact ⟨by omega,by omega⟩
theorem fO {P:Program} (w:World) (base:Nat) (t ty e:TypeId) (i:TypeInfo) (size:Nat) (ht:P.underlying t=some (.slice e)) (hi:P.info? e=some i)
  (v:Value) (n:Nat) (xs:List Value) (hown:w.ownsRow base e size v n xs) (c:Nat):(Builtin.append_ #[t,t] ty #[v,.slice none 0 c]).run P w=.ok v w:=by
 rcases hown.2 with ⟨rfl,rfl⟩ | ⟨g,cap,cur,rfl,_,_,hnc,_⟩
 ·simp [Builtin.append_,run_underlying ht,sizeOf,typeInfo,hi,Builtin.lenOf,Builtin.firstCells]
 simp [Builtin.append_,run_underlying ht,sizeOf,typeInfo,hi,Builtin.lenOf,Builtin.firstCells,hnc,storeCells]
theorem ow {w W:World} (base:Nat) (ty:TypeId) (ys xs:List Int) (v:Value) (A:Option Addr) (c:Nat)
  (hr:∀ j y,ys[j]?=some y->∃ ad,A=some ad/\w.cell? (ad.add j)=some (.int .i64 y)) (hown:aF w base v xs) (hW:Below base W w) (hB:base<=w.heap.size) (hl:xs.length+ys.length<=10000000000) :
  ∃ v' w',(Builtin.append_ #[29,29] ty #[v,.slice A ys.length c]).run Tryz.prog w=.ok v' w'/\aF w' base v' (xs ++ ys)/\Below base W w':=by
 obtain ⟨i0,hi,hz0,hz1,hz2⟩:=info_parts lJ
 cases A with
 | none=>
  have he:ys=[]:=by
   cases ys with
   | nil=>rfl
   | cons y ys=>obtain ⟨ad,h,-⟩:=hr 0 y rfl;cases h
  subst he;exact ⟨v,w,fO w base _ _ _ i0 1 Tryz.underlying29 hi _ _ _ hown c,by simpa using hown,hW⟩
 | some ad=>
 obtain ⟨v',w',h1,h2,h3,-,-⟩:=run_append_own_at (P:=Tryz.prog) w base 29 ty 3 i0 (.int .i64 0) 1 8 Tryz.underlying29 hi hz0 hz1 hz2 rfl (by decide) v xs.length (xs.map (Value.int .i64)) hown ad ys.length c (ys.map (Value.int .i64))
  (by simp) (fun j u hu=>by
   rw [List.getElem?_map] at hu
   cases hy:ys[j]? with
   | none=>rw [hy] at hu;cases hu
   | some y=>
    rw [hy] at hu;obtain ⟨ad',h1,h2⟩:=hr j y hy;obtain rfl:=Option.some.inj h1;obtain rfl:=Option.some.inj hu
    exact h2) (fun u hu=>by
   obtain ⟨y,-,rfl⟩:=List.mem_map.1 hu
   rfl) (by unfold maxLen;omega) (by omega) hB
 refine ⟨v',w',h1,?_,hW.grown h3 hB fun k hk=>(hown.lt k hk).1⟩;unfold aF;rw [List.map_append,List.length_append];exact h2
theorem qS {ops:Array Oper} {rest:List Oper} {o:Oper} {a:Act} {Q:Exit->Act->World->Prop} {w W:World} (base:Nat) (ys xs:List Int) (v:Value) (A:Option Addr) (m c:Nat) (hm:ys.length=m) (hgd:o.guard=none) (s x:Operand)
  (ho:o.op=.call { callee:=.builtin .append,args:=#[s,x],argTypes:=#[29,29] }) (hs:a.eval s=v) (hx:a.eval x=.slice A m c)
  (hr:∀ j y,ys[j]?=some y->∃ ad,A=some ad/\w.cell? (ad.add j)=some (.int .i64 y)) (hown:aF w base v xs) (hW:Below base W w) (hB:base<=w.heap.size) (hl:xs.length+ys.length<=10000000000)
  (h:∀ v' w',aF w' base v' (xs ++ ys)->Below base W w'->wpList Tryz.prog ops Q rest (a.put o.dst v') w') :
  wpList Tryz.prog ops Q (o :: rest) a w:=by
 subst hm
 refine wpList_plain hgd fun _ hK=>?_
 obtain ⟨v',w',h1,h2,h3⟩:=ow (w:=w) (W:=W) base o.type ys xs v A c hr hown hW hB hl;unfold Oper.wp execOp;simp only [ho,resolve,invoke,builtin,Sem.run_bind,Sem.run_pure,Result.andThen_ok,List.map_toArray,List.map_cons,List.map_nil,hs,hx,h1];exact hK _ _ (h v' w' h2 h3)
namespace Rw
variable {α:Type}
structure Enc (α:Type) where
 t:TypeId
 k:Nat
 cells:α->List Value
 len:∀ x,(cells x).length=k
 one:∀ x,∀ u ∈ cells x,u.oneCell'=true
 pos:0<k
theorem cP (E:Enc α):∀ xs:List α,(xs.flatMap E.cells).length=xs.length*E.k
 | []=>by simp
 | x :: xs=>by rw [List.flatMap_cons,List.length_append,cP E xs,E.len,List.length_cons,Nat.add_mul];omega
theorem flat_get (E:Enc α):∀ (xs:List α) (j i:Nat) (x:α),xs[j]?=some x->i<E.k->(xs.flatMap E.cells)[j*E.k+i]?=(E.cells x)[i]?
 | [],_,_,_,h,_=>by simp at h
 | y :: ys,0,i,x,h,hi=>by
  simp only [List.getElem?_cons_zero,Option.some.injEq] at h;subst h;rw [List.flatMap_cons,Nat.zero_mul,Nat.zero_add,List.getElem?_append_left (by rw [E.len];exact hi)]
 | y :: ys,j+1,i,x,h,hi=>by
  have ih:=flat_get E ys j i x (by simpa using h) hi;rw [List.flatMap_cons,List.getElem?_append_right (by rw [E.len,Nat.add_mul];omega),E.len];rw [←ih]
  congr 1
  rw [Nat.add_mul];omega
theorem jR (E:Enc α) (xs:List α) (n:Nat):(xs.take n).flatMap E.cells=(xs.flatMap E.cells).take (n*E.k):=by
 have e:xs.flatMap E.cells=(xs.take n).flatMap E.cells ++ (xs.drop n).flatMap E.cells:=by rw [←List.flatMap_append,List.take_append_drop]
 rcases Nat.lt_or_ge n xs.length with h | h
 ·have hl:((xs.take n).flatMap E.cells).length=n*E.k:=by rw [cP,List.length_take,Nat.min_eq_left (by omega)]
  rw [e,←hl,List.take_left]
 rw [List.take_of_length_le h,List.take_of_length_le (by rw [cP];exact Nat.mul_le_mul_right _ h)]
theorem uA (E:Enc α) (xs:List α) (n:Nat):(xs.drop n).flatMap E.cells=(xs.flatMap E.cells).drop (n*E.k):=by
 have e:xs.flatMap E.cells=(xs.take n).flatMap E.cells ++ (xs.drop n).flatMap E.cells:=by rw [←List.flatMap_append,List.take_append_drop]
 rcases Nat.lt_or_ge n xs.length with h | h
 ·have hl:((xs.take n).flatMap E.cells).length=n*E.k:=by rw [cP,List.length_take,Nat.min_eq_left (by omega)]
  rw [e,←hl,List.drop_left]
 rw [List.drop_eq_nil_of_le h,List.drop_eq_nil_of_le (by rw [cP];exact Nat.mul_le_mul_right _ h)];rfl
theorem mM (E:Enc α) (xs:List α):∀ u ∈ xs.flatMap E.cells,u.oneCell'=true:=by
 intro u hu;obtain ⟨x,-,h⟩:=List.mem_flatMap.1 hu;exact E.one x u h
def Own (E:Enc α) (w:World) (base:Nat) (v:Value) (xs:List α):Prop:=w.ownsRow base E.t E.k v xs.length (xs.flatMap E.cells)
variable {E:Enc α} {w w':World} {base base':Nat} {v:Value} {xs:List α}
theorem Own.nil (E:Enc α) (w:World) (base:Nat):Own E w base (.slice none 0 0) ([]:List α):=World.ownsRow_nil w base _ _
theorem Own.zD (E:Enc α) (w:World) (base:Nat) (hb:base<=w.heap.size):Own E (w.alloc (.cells #[] E.t)) base (.slice (some ⟨w.heap.size,0,none⟩) 0 0) ([]:List α):=
 World.ownsRow_made w #[] 0 hb (by unfold maxLen;omega) (by simp)
theorem Own.kept {r:Option Nat} (h:Own E w base v xs) (hg:w.grownBy w' r) (hr:∀ g,r=some g->v.ownBlock≠some g):Own E w' base v xs:=by
 refine World.ownsRow.kept h hg ?_
 cases r with
 | none=>
  cases hv:v.ownBlock
  ·exact Or.inl rfl
  exact Or.inr (by simp)
 | some g=>exact Or.inr (hr g rfl)
theorem Own.below (h:Own E w base v xs) (hb:Below w.heap.size w w'):Own E w' base v xs:=h.kept (bw hb none) fun g hg=>by cases hg
theorem Own.down (h:Own E w base v xs) (hb:base'<=base):Own E w base' v xs:=by
 obtain ⟨h1,h2⟩:=h;refine ⟨h1,?_⟩
 rcases h2 with h2 | ⟨g,cap,cur,hv,hg,hh,r⟩
 ·exact Or.inl h2
 exact Or.inr ⟨g,cap,cur,hv,Nat.le_trans hb hg,hh,r⟩
theorem Own.alloc (h:Own E w base v xs) (o:Obj):Own E (w.alloc o) base v xs:=World.ownsRow.alloc h o
theorem Own.lt (h:Own E w base v xs):∀ g,v.ownBlock=some g->base<=g/\g<w.heap.size:=World.ownsRow.lt h
theorem Own.forms (h:Own E w base v xs):(v=.slice none 0 0/\xs=[])∨∃ g cap,v=.slice (some ⟨g,0,none⟩) xs.length cap/\base<=g/\g<w.heap.size/\xs.length<=cap/\cap<=9223372036854775807:=by
 rcases h.2 with ⟨e,h2⟩ | ⟨g,cap',cur,e,hg,hh,h3,h4,-⟩
 ·exact Or.inl ⟨e,List.eq_nil_of_length_eq_zero h2⟩
 exact Or.inr ⟨g,cap',e,hg,(Array.getElem?_eq_some_iff.1 hh).1,h3,by unfold maxLen at h4;omega⟩
def Seen (E:Enc α) (w:World) (hi:Nat) (v:Value) (xs:List α):Prop:=
 ∃ (a:Option Addr) (cap:Nat),v=.slice a xs.length cap/\xs.length<=cap/\cap<=9223372036854775807/\
  ∀ j,j<xs.length->∃ g x,a=some ⟨g,0,none⟩/\g<hi/\Hid (xs[j]?=some x)/\∀ i u,(E.cells x)[i]?=some u->w.cell? ⟨g,j*E.k+i,none⟩=some u
theorem Seen.below {hi:Nat} (h:Seen E w hi v xs) (hb:Below hi w w'):Seen E w' hi v xs:=by
 obtain ⟨a,cap,h1,h2,h2',h3⟩:=h;refine ⟨a,cap,h1,h2,h2',fun k hk=>?_⟩;obtain ⟨g,x,e1,e2,e3,e4⟩:=h3 k hk;exact ⟨g,x,e1,e2,e3,fun i u hu=>(hb.cell (p:=⟨g,k*E.k+i,none⟩) e2).trans (e4 i u hu)⟩
theorem Own.seen (h:Own E w base v xs):Seen E w w.heap.size v xs:=by
 have hf:=h.forms;obtain ⟨h1,h2⟩:=h
 rcases h2 with ⟨rfl,hn⟩ | ⟨g,cap,cur,rfl,hg,hh,hc,hm,hs,ht⟩
 ·exact ⟨none,0,by rw [hn],by omega,by omega,fun k hk=>by omega⟩
 refine ⟨some ⟨g,0,none⟩,cap,rfl,hc,by unfold maxLen at hm;omega,fun j hj=>⟨g,xs[j],rfl,(Array.getElem?_eq_some_iff.1 hh).1,List.getElem?_eq_getElem hj,fun i u hu=>?_⟩⟩;rw [cell_of_row w g _ cur _ (0,0) hh]
 have hi:i<E.k:=by rw [←E.len xs[j]];exact (List.getElem?_eq_some_iff.1 hu).1
 have e:=flat_get E xs j i _ (List.getElem?_eq_getElem hj) hi;rw [hu,←ht,List.getElem?_take] at e
 split at e
 ·simpa using e
 cases e
def From (E:Enc α) (w:World) (A:Option Addr) (ys:List α):Prop:=∀ j u,(ys.flatMap E.cells)[j]?=some u->∃ ad,A=some ad/\w.cell? (ad.add j)=some u
theorem From.nil (E:Enc α) (w:World) (A:Option Addr):From E w A ([]:List α):=fun j u h=>by simp at h
theorem From.lit (E:Enc α) (w:World) (x:α) (H:Nat) (hH:w.heap.size=H):From E (w.alloc (.cells (E.cells x).toArray E.t)) (some ⟨H,0,none⟩) [x]:=by
 intro j u h;subst hH
 have hadd:∀ b i:Nat,(⟨b,0,none⟩:Addr).add i=⟨b,i,none⟩:=fun b i=>by unfold Addr.add;split <;> simp_all
 refine ⟨_,rfl,?_⟩;rw [hadd,World.cell?_alloc_at _ _ _ _ rfl]
 simpa using h
theorem Own.cellAt {g n cap:Nat} (hn:n=xs.length) (h:Own E w base (.slice (some ⟨g,0,none⟩) n cap) xs) (j:Nat) (u:Value) (hu:(xs.flatMap E.cells)[j]?=some u):w.cell? ⟨g,j,none⟩=some u/\w.frozen? ⟨g,j,none⟩=false:=by
 subst hn;have hj:=(List.getElem?_eq_some_iff.1 hu).1;rw [cP] at hj;exact ⟨(World.ownsRow.cellAt h j hj).trans hu,World.ownsRow.frozenAt h j⟩
theorem Own.Af {g n cap:Nat} (hn:n=xs.length) (h:Own E w base (.slice (some ⟨g,0,none⟩) n cap) xs) {hi:Nat} (hhi:g<hi) (hb:Below hi w w') (m:Nat):From E w' (some ⟨g,0,none⟩) (xs.take m):=by
 intro j u hu
 have hadd:∀ b i:Nat,(⟨b,0,none⟩:Addr).add i=⟨b,i,none⟩:=fun b i=>by unfold Addr.add;split <;> simp_all
 rw [jR,List.getElem?_take] at hu
 split at hu
 ·exact ⟨_,rfl,by rw [hadd];exact (hb.cell (p:=⟨g,j,none⟩) hhi).trans (h.cellAt hn j u hu).1⟩
 cases hu
theorem jD (base g cap n:Nat) (t:TypeId) (k:Nat):∀ (l:List Value) (o:Nat) (w:World) (zs:List Value),w.ownsRow base t k (.slice (some ⟨g,0,none⟩) n cap) n zs->
  ∃ ys,(w.setCells g o l).ownsRow base t k (.slice (some ⟨g,0,none⟩) n cap) n ys/\ys.take o=zs.take o/\w.grownBy (w.setCells g o l) (some g)
 | [],o,w,zs,h=>⟨zs,h,rfl,fa _ _⟩
 | u :: l,o,w,zs,h=>by
  have h1:=World.ownsRow.stored h o u;obtain ⟨ys,k1,k2,k3⟩:=jD base g cap n t k l (o+1) _ _ h1.1;refine ⟨ys,k1,?_,dw h1.2 k3⟩;have:=congrArg (List.take o) k2;rw [List.take_take,List.take_take,Nat.min_eq_left (by omega)] at this;rw [this,List.take_set,List.set_eq_of_length_le (by rw [List.length_take];omega)]
theorem zv {t:TypeId} {k g n cap i:Nat} {zs:List Value} (h:w.ownsRow base t k (.slice (some ⟨g,0,none⟩) n cap) n zs) (hi:i<=n):w.ownsRow base t k (.slice (some ⟨g,0,none⟩) i cap) i (zs.take (i*k)):=by
 obtain ⟨h1,h2⟩:=h;have hik:i*k<=n*k:=Nat.mul_le_mul_right _ hi
 rcases h2 with ⟨e,-⟩ | ⟨g',cap',cur,e,hg,hh,hc,hm,hs,ht⟩
 ·cases e
 injection e with e1 e2 e3
 simp only [Option.some.injEq,Addr.mk.injEq,and_true] at e1;subst e1 e3;refine ⟨by rw [List.length_take];omega,Or.inr ⟨g,cap,cur,rfl,hg,hh,by omega,hm,hs,?_⟩⟩;rw [←ht,List.take_take,Nat.min_eq_left hik]
theorem Own.cut {g n cap i:Nat} {ys:List α} (hn:n=xs.length) (h:Own E w base (.slice (some ⟨g,0,none⟩) n cap) xs) (hi:i<=n) (l:List Value) (hy:ys=xs.take i) (o:Nat) (ho:o=i*E.k) :
  Own E (w.setCells g o l) base (.slice (some ⟨g,0,none⟩) i cap) ys/\w.grownBy (w.setCells g o l) (some g):=by
 subst hn hy ho;obtain ⟨rs,k1,k2,k3⟩:=jD base g cap xs.length E.t E.k l (i*E.k) w _ h;refine ⟨?_,k3⟩
 have hl:(xs.take i).length=i:=by rw [List.length_take];omega
 have:=zv k1 hi;rw [k2,←jR] at this;unfold Own;rw [hl];exact this
theorem pu (E:Enc α):∀ (xs:List α) (j:Nat) (x:α),j<xs.length->∀ t,((xs.set j x).flatMap E.cells)[t]?=if j*E.k<=t/\t<j*E.k+E.k then (E.cells x)[t - j*E.k]? else (xs.flatMap E.cells)[t]?
 | [],j,x,h,_=>by simp at h
 | y :: ys,0,x,h,t=>by
  rw [List.set_cons_zero,List.flatMap_cons,List.flatMap_cons]
  by_cases ht:t<E.k
  ·rw [List.getElem?_append_left (by rw [E.len];exact ht),if_pos ⟨by omega,by omega⟩]
   simp
  rw [List.getElem?_append_right (by rw [E.len];omega),if_neg (by omega),List.getElem?_append_right (by rw [E.len];omega),E.len,E.len]
 | y :: ys,j+1,x,h,t=>by
  have ih:=pu E ys j x (by simpa using h);rw [List.set_cons_succ,List.flatMap_cons,List.flatMap_cons]
  have e:(j+1)*E.k=j*E.k+E.k:=by rw [Nat.add_mul];omega
  by_cases ht:t<E.k
  ·rw [List.getElem?_append_left (by rw [E.len];exact ht),List.getElem?_append_left (by rw [E.len];exact ht),if_neg (by omega)]
  rw [List.getElem?_append_right (by rw [E.len];omega),List.getElem?_append_right (by rw [E.len];omega),E.len,ih (t - E.k),e]
  by_cases hc:j*E.k<=t - E.k/\t - E.k<j*E.k+E.k
  ·rw [if_pos hc,if_pos (by omega)]
   congr 1
   omega
  rw [if_neg hc,if_neg (by omega)]
structure Fits (P:Program) (E:Enc α) (ts:TypeId):Prop where
 under:P.underlying ts=some (.slice E.t)
 info:∃ i z,P.info? E.t=some i/\i.zero=some z/\i.size=E.k/\i.bytes<=1000/\z.cells.size=E.k
theorem qa {P:Program} {ts:TypeId} (F:Fits P E ts) {W:World} (ty:TypeId) (ys:List α) (A:Option Addr) (c:Nat)
  (hr:From E w A ys) (hown:Own E w base v xs) (hW:Below base W w) (hB:base<=w.heap.size) (hl:xs.length+ys.length<=100000000000) :
  ∃ v' w',(Builtin.append_ #[ts,ts] ty #[v,.slice A ys.length c]).run P w=.ok v' w'/\Own E w' base v' (xs ++ ys)/\Below base W w':=by
 obtain ⟨i,z,hi,hz,hs,hby,hzc⟩:=F.info
 cases A with
 | none=>
  have he:ys=[]:=by
   cases ys with
   | nil=>rfl
   | cons y ys=>
   have hp:=E.pos;have hl:=E.len y;obtain ⟨ad,h,-⟩:=hr 0 ((E.cells y)[0]'(by omega)) (by rw [List.flatMap_cons,List.getElem?_append_left (by omega)];exact List.getElem?_eq_getElem _);cases h
  subst he;exact ⟨v,w,fO w base _ _ _ i E.k F.under hi _ _ _ hown c,by simpa using hown,hW⟩
 | some ad=>
 have hbb:(xs.length+ys.length)*i.bytes<=140737488355328:=Nat.le_trans (Nat.mul_le_mul hl hby) (by omega)
 obtain ⟨v',w',h1,h2,h3,-,-⟩:=run_append_own_at (P:=P) w base ts ty E.t i z E.k i.bytes F.under hi hz hs rfl hzc E.pos v xs.length (xs.flatMap E.cells) hown ad ys.length c (ys.flatMap E.cells)
  (cP E ys) (fun j u hu=>by
   obtain ⟨ad',h1,h2⟩:=hr j u hu;obtain rfl:=Option.some.inj h1
   exact h2) (mM E ys) (by unfold maxLen;omega) hbb hB
 refine ⟨v',w',h1,?_,hW.grown h3 hB fun k hk=>(Own.lt hown k hk).1⟩;unfold Own;rw [List.flatMap_append,List.length_append];exact h2
theorem push {P:Program} {ts:TypeId} (F:Fits P E ts) {ops:Array Oper} {rest:List Oper} {o:Oper} {a:Act} {Q:Exit->Act->World->Prop} {W:World} (base:Nat) (ys xs:List α) (v:Value) (A:Option Addr) (m c:Nat) (hm:ys.length=m) (hgd:o.guard=none) (s x:Operand)
  (ho:o.op=.call { callee:=.builtin .append,args:=#[s,x],argTypes:=#[ts,ts] }) (hs:a.eval s=v) (hx:a.eval x=.slice A m c)
  (hr:From E w A ys) (hown:Own E w base v xs) (hW:Below base W w) (hB:base<=w.heap.size) (hl:xs.length+ys.length<=100000000000)
  (h:∀ v' w',Own E w' base v' (xs ++ ys)->Below base W w'->wpList P ops Q rest (a.put o.dst v') w') :
  wpList P ops Q (o :: rest) a w:=by
 subst hm
 refine wpList_plain hgd fun _ hK=>?_
 obtain ⟨v',w',h1,h2,h3⟩:=qa F (w:=w) (W:=W) (base:=base) o.type ys A c hr hown hW hB hl;unfold Oper.wp execOp;simp only [ho,resolve,invoke,builtin,Sem.run_bind,Sem.run_pure,Result.andThen_ok,List.map_toArray,List.map_cons,List.map_nil,hs,hx,h1];exact hK _ _ (h v' w' h2 h3)
end Rw
end
section
namespace M
theorem ml {q d:Int} (hq:iI q) (h2:2<=d) (hd:q % d=0):d=q:=by
 have hdvd:d ∣ q:=Int.dvd_of_emod_eq_zero hd;obtain ⟨c,hc⟩:=hdvd;have hq2:=hq.1
 have hc1:1<=c:=by
  rcases Int.lt_or_le c 1 with h | h
  ·have:d*c<=0:=Int.mul_nonpos_of_nonneg_of_nonpos (by omega) (by omega)
   omega
  exact h
 rcases Int.lt_or_le c 2 with h | h
 ·have:c=1:=by omega
  rw [this] at hc;omega
 exfalso
 rcases Int.lt_or_le c d with h' | h'
 ·refine hq.2 c h ?_ ?_
  ·rw [hc];exact Int.mul_le_mul_of_nonneg_right (by omega) (by omega)
  rw [hc];exact Int.mul_emod_left d c
 refine hq.2 d h2 ?_ hd;rw [hc];exact Int.mul_le_mul_of_nonneg_left h' (by omega)
theorem uX {q x:Int} (hq:iI q) (h:¬ x % q=0):Int.gcd q x=1:=by
 have hg:(Int.gcd q x:Int) ∣ q:=Int.gcd_dvd_left ..;have hg2:(Int.gcd q x:Int) ∣ x:=Int.gcd_dvd_right ..;have hq2:=hq.1;have hpos:0<Int.gcd q x:=Int.gcd_pos_of_ne_zero_left _ (by omega)
 rcases Nat.lt_or_ge (Int.gcd q x) 2 with k | k
 ·omega
 exfalso
 have:=ml hq (d:=(Int.gcd q x:Int)) (by omega) (Int.emod_eq_zero_of_dvd hg);rw [this] at hg2;exact h (Int.emod_eq_zero_of_dvd hg2)
theorem uZ {q x y:Int} (hq:iI q) (h:x*y % q=0) (hx:¬ x % q=0):y % q=0:=by
 have h1:=Int.dvd_gcd_mul_iff_dvd_mul.2 (Int.dvd_of_emod_eq_zero h);rw [uX hq hx] at h1;exact Int.emod_eq_zero_of_dvd (by simpa using h1)
noncomputable def uU (n p:Int):Bool:=prime p && (n % p == 0)
noncomputable def qR (n:Int):List Int:=sel (uU n) 0 (n.natAbs+1)
theorem qb {f:Int->Bool} {k m:Nat} (h:∀ x:Int,(k:Int)<=x->x<m->f x=false) (hkm:k<=m):sel f 0 m=sel f 0 k:=by
 induction m with
 | zero=>
      obtain rfl:k=0:=by omega
      rfl
 | succ m ih=>
 rcases Nat.lt_or_ge k (m+1) with q | q
 ·rw [Bz (by rw [Int.zero_add];exact h m (by omega) (by omega)),ih (fun x h1 h2=>h x h1 (by omega)) (by omega)]
 obtain rfl:k=m+1:=by omega
 rfl
structure tZ (N n p:Int) (l:List Int):Prop where
 n1:1<=n
 p2:2<=p
 nN:n<=N
 pn:n=1∨p<=n
 pN:p<=N+1
 dvd:N % n=0
 low:∀ d:Int,2<=d->d<p->¬ n % d=0
 big:∀ q:Int,iI q->p<=q->N % q=0->n % q=0
 out:l=sel (uU N) 0 p.toNat
theorem tZ.start {N:Int} (h:1<=N):tZ N N 2 [] where
 n1:=h
 p2:=by omega
 nN:=by omega
 pn:=by omega
 pN:=by omega
 dvd:=Int.emod_self
 low:=fun d h1 h2=>by omega
 big:=fun q _ _ h=>h
 out:=by
  have:sel (uU N) 0 2=sel (uU N) 0 0:=qb (fun x h1 h2=>by
   unfold uU;rw [ua.2 (fun h=>by have:=h.1;omega)]
   rfl) (by omega)
  exact this.symm
theorem tZ.prime {N n p:Int} {l:List Int} (h:tZ N n p l) (hn:1<n) (hp:n<p*p):iI n:=by
 refine ⟨by omega,fun d h2 hd=>h.low d h2 ?_⟩;exact C7 (by have:=h.p2;omega) (by omega)
theorem BI {a b c:Int} (h:c % b=0) (k:b % a=0):c % a=0:=
 Int.emod_eq_zero_of_dvd (Int.dvd_trans (Int.dvd_of_emod_eq_zero k) (Int.dvd_of_emod_eq_zero h))
structure KS (n p n':Int):Prop where
 n1:1<=n'
 nn:n'<=n
 dvd:n % n'=0
 big:∀ q:Int,iI q->p<q->n % q=0->n' % q=0
theorem KS.start {n p:Int} (h:1<=n):KS n p n:=⟨h,by omega,Int.emod_self,fun _ _ _ h=>h⟩
theorem mP {n p:Int} (hp:1<=p) (h:n % p=0):n / p*p=n:=Int.ediv_mul_cancel (Int.dvd_of_emod_eq_zero h)
theorem BH {n p:Int} (hp:2<=p) (hn:1<=n):n / p<n:=by
 have:=Int.ediv_lt_of_lt_mul (a:=n) (b:=n) (c:=p) (by omega) (by
  have:=Int.mul_le_mul_of_nonneg_left hp (show 0<=n by omega)
  omega)
 exact this
theorem KS.step {n p n':Int} (h:KS n p n') (hp:iI p) (hd:n' % p=0):KS n p (n' / p):=by
 have hp2:=hp.1;have he:=mP (by omega) hd;have h1:=h.n1
 have hpos:1<=n' / p:=by
  rcases Int.lt_or_le (n' / p) 1 with k | k
  ·have:n' / p*p<=0:=Int.mul_nonpos_of_nonpos_of_nonneg (by omega) (by omega)
   omega
  exact k
 have hlt:=BH hp2 h1;refine ⟨hpos,by have:=h.nn;omega,BI h.dvd ?_,fun q hq hpq hnq=>?_⟩
 ·exact Int.emod_eq_zero_of_dvd ⟨p,he.symm⟩
 have:=h.big q hq hpq hnq;refine uZ hq (x:=p) ?_ ?_
 ·rw [Int.mul_comm,he];exact this
 intro hz;have:=ml hp hq.1 hz;omega
theorem tZ.done {N n p:Int} {l:List Int} (h:tZ N n p l) (hn:n<=1):l=qR N:=by
 have h1:=h.n1
 have hn:n=1:=by omega
 have hN:=h.nN;rw [h.out];unfold qR
 have e:((N.natAbs:Nat):Int)=N:=by omega
 refine (qb (fun x h2 h3=>?_) (by have:=h.pN;omega)).symm;unfold uU
 cases hp:M.prime x
 ·rfl
 cases hd:(N % x == 0)
 ·rfl
 have hx:=uY.1 hp;have:=h.big x hx (by have:=h.p2;omega) (by simpa using hd);rw [hn] at this;have:=hx.1;have:(1:Int) % x=1:=Int.emod_eq_of_lt (by omega) (by omega);omega
theorem yV {a p:Int} (hp:2<=p) (ha:a≠0) (h:a % p=0):(a / p).natAbs<a.natAbs/\a / p≠0:=by
 have he:=mP (n:=a) (by omega) h
 have e2:a.natAbs=(a / p).natAbs*p.natAbs:=by rw [←Int.natAbs_mul,he]
 have hp':2<=p.natAbs:=by omega
 have hne:a / p≠0:=by
  intro hz;rw [hz] at he;omega
 have:(a / p).natAbs*2<=(a / p).natAbs*p.natAbs:=Nat.mul_le_mul_left _ hp';exact ⟨by omega,hne⟩
end M
namespace M
def mo (u4 u6:Int):Nat->Int->Int->Int × Int
 | 0,a,b=>(a,b)
 | f+1,a,b=>if a % u4=0/\b % u6=0/\(a≠0∨b≠0) then mo u4 u6 f (a / u4) (b / u6) else (a,b)
theorem yE {u4 u6:Int} {f:Nat} {a b:Int} (hf:a.natAbs+b.natAbs<=f) (h:a % u4=0) (h':b % u6=0) (hn:a≠0∨b≠0):mo u4 u6 f a b=mo u4 u6 (f - 1) (a / u4) (b / u6):=by
 cases f with
 | zero=>omega
 | succ f=>simp [mo,h,h',hn]
theorem ik {a p:Int} (hp:2<=p) (h:a % p=0):(a / p).natAbs<=a.natAbs/\(a≠0->(a / p).natAbs<a.natAbs/\a / p≠0):=by
 by_cases ha:a=0
 ·subst ha;simp
 have:=yV hp ha h;exact ⟨by omega,fun _=>this⟩
theorem uj {u4 u6 a b:Int} (h4:2<=u4) (h6:2<=u6) (h:a % u4=0) (h':b % u6=0) (hn:a≠0∨b≠0) :
  (a / u4).natAbs+(b / u6).natAbs<a.natAbs+b.natAbs/\(a / u4≠0∨b / u6≠0):=by
 have h1:=ik h4 h;have h2:=ik h6 h'
 rcases hn with k | k
 ·have:=h1.2 k
  exact ⟨by omega,Or.inl this.2⟩
 have:=h2.2 k;exact ⟨by omega,Or.inr this.2⟩
def CB (u4 u6:Int) (x:Int × Int):Int × Int:=mo u4 u6 (x.1.natAbs+x.2.natAbs) x.1 x.2
structure u9 (u4 u6:Int) (p:Int × Int) (x y:Int):Prop where
 ne:x≠0∨y≠0
 bx:x.natAbs<=p.1.natAbs
 bY:y.natAbs<=p.2.natAbs
 st:∃ f,x.natAbs+y.natAbs<=f/\mo u4 u6 f x y=CB u4 u6 p
theorem u9.start {u4 u6 x y:Int} {p:Int × Int} (hp:(x,y)=p) (h:x≠0∨y≠0):u9 u4 u6 p x y:=by
 subst hp;exact ⟨h,DF _,DF _,_,DF _,rfl⟩
theorem u9.step {u4 u6 x y:Int} {p:Int × Int} (h4:2<=u4) (h6:2<=u6) (h:u9 u4 u6 p x y) (hx:x % u4=0) (hy:y % u6=0):u9 u4 u6 p (x / u4) (y / u6):=by
 obtain ⟨f,hf,hs⟩:=h.st;have hsum:=uj h4 h6 hx hy h.ne;have h1:=(ik h4 hx).1;have h2:=(ik h6 hy).1;refine ⟨hsum.2,Nat.le_trans h1 h.bx,Nat.le_trans h2 h.bY,f - 1,by omega,?_⟩;rw [←yE hf hx hy h.ne];exact hs
end M
namespace M
def fb (p:Int):Nat->Int
 | 0=>1
 | k+1=>fb p k*p
end M
namespace M
def cH (xs:List Int) (n:Int):Nat:=(xs.takeWhile (decide <| ·<n)).length
def put (xs:List Int) (n:Int):List Int:=if xs[cH xs n]?=some n then xs else xs.take (cH xs n) ++ [n] ++ xs.drop (cH xs n)
end M
namespace M
def four (u:Int):Int:=u*u*u*u
def six (u:Int):Int:=u*u*u*u*u*u
def yf (a b u:Int):Bool:=decide (a % four u=0) && decide (b % six u=0)
def sm (a b:Int):Int:=if yf a b 5 then 5 else if yf a b 4 then 4 else if yf a b 3 then 3 else if yf a b 2 then 2 else 1
end M
end
section
open Go.RowKit
theorem iC {w:World} {b1 b2 n1 n2 s1 s2:Nat} {t1 t2:TypeId} {v1 v2:Value} {x1 x2:List Value} (h1:w.ownsRow b1 t1 s1 v1 n1 x1) (h2:w.ownsRow b2 t2 s2 v2 n2 x2) (ht:t1≠t2):∀ g,v2.ownBlock=some g->v1.ownBlock≠some g:=by
 intro g hg hg'
 rcases h1.2 with ⟨rfl,-⟩ | ⟨g1,c1,GT,rfl,-,GX,-⟩
 ·cases hg'
 rcases h2.2 with ⟨rfl,-⟩ | ⟨g2,c2,cur2,rfl,-,F_,-⟩
 ·cases hg
 simp only [Value.ownBlock,Option.some.injEq] at hg hg';subst hg hg';rw [GX] at F_
 injection F_ with F_
 injection F_ with _ ht' _
 exact ht ht'
namespace Rw
variable {α:Type} {E:Enc α} {w w':World} {base:Nat} {v:Value} {xs:List α}
theorem Own.Cj (E:Enc α) (x:α) (w:World) (base:Nat) (hb:base<=w.heap.size):Own E (w.alloc (.cells (E.cells x).toArray E.t)) base (.slice (some ⟨w.heap.size,0,none⟩) 1 1) [x]:=
 ⟨by simp [E.len],.inr ⟨w.heap.size,1,(E.cells x).toArray,rfl,hb,heap_alloc_new w _,DF 1,by unfold maxLen;omega,by simp [E.len],by simp [E.len,List.take_of_length_le]⟩⟩
theorem ug {P:Program} {ts:TypeId} (F:Fits P E ts) (ty:TypeId) (ys:List α) (ad:Addr) (c:Nat)
  (hr:From E w (some ad) ys) (hown:Own E w base v xs) (hB:base<=w.heap.size) (hl:xs.length+ys.length<=100000000000) :
  ∃ v' w',(Builtin.append_ #[ts,ts] ty #[v,.slice (some ad) ys.length c]).run P w=.ok v' w'/\Own E w' base v' (xs ++ ys)/\w.grownBy w' v.ownBlock/\(v'.ownBlock=v.ownBlock∨v'.ownBlock=some w.heap.size):=by
 obtain ⟨i,z,hi,hz,hs,hby,hzc⟩:=F.info;have hbb:(xs.length+ys.length)*i.bytes<=140737488355328:=Nat.le_trans (Nat.mul_le_mul hl hby) (by omega)
 obtain ⟨v',w',h1,h2,h3,-,h5⟩:=run_append_own_at (P:=P) w base ts ty E.t i z E.k i.bytes F.under hi hz hs rfl hzc E.pos v xs.length (xs.flatMap E.cells) hown ad ys.length c (ys.flatMap E.cells)
  (cP E ys) (fun j u hu=>by
   obtain ⟨ad',h1,h2⟩:=hr j u hu;obtain rfl:=Option.some.inj h1
   exact h2) (mM E ys) (by unfold maxLen;omega) hbb hB
 refine ⟨v',w',h1,?_,h3,h5⟩;unfold Own;rw [List.flatMap_append,List.length_append];exact h2
theorem xY {P:Program} {ts:TypeId} (F:Fits P E ts) {ops:Array Oper} {rest:List Oper} {o:Oper} {a:Act} {Q:Exit->Act->World->Prop} (base:Nat) (ys xs:List α) (v:Value) (ad:Addr) (m c:Nat) (hm:ys.length=m) (hgd:o.guard=none) (s x:Operand)
  (ho:o.op=.call { callee:=.builtin .append,args:=#[s,x],argTypes:=#[ts,ts] }) (hs:a.eval s=v) (hx:a.eval x=.slice (some ad) m c)
  (hr:From E w (some ad) ys) (hown:Own E w base v xs) (hB:base<=w.heap.size) (hl:xs.length+ys.length<=100000000000)
  (h:∀ v' w',Own E w' base v' (xs ++ ys)->w.grownBy w' v.ownBlock->(v'.ownBlock=v.ownBlock∨v'.ownBlock=some w.heap.size)->wpList P ops Q rest (a.put o.dst v') w') :
  wpList P ops Q (o :: rest) a w:=by
 subst hm
 refine wpList_plain hgd fun _ hK=>?_
 obtain ⟨v',w',h1,h2,h3,h4⟩:=ug F (w:=w) (base:=base) o.type ys ad c hr hown hB hl;unfold Oper.wp execOp;simp only [ho,resolve,invoke,builtin,Sem.run_bind,Sem.run_pure,Result.andThen_ok,List.map_toArray,List.map_cons,List.map_nil,hs,hx,h1];exact hK _ _ (h v' w' h2 h3 h4)
end Rw
theorem aF.cellAt {w:World} {base g n cap:Nat} {xs:List Int} (hn:n=xs.length) (h:aF w base (.slice (some ⟨g,0,none⟩) n cap) xs) {i:Nat} {t:Int} (ht:xs[i]?=some t):w.cell? ⟨g,i,none⟩=some (.int .i64 t):=by
 have hi:=(List.getElem?_eq_some_iff.1 ht).1;subst hn;have:=World.ownsRow.cellAt (g:=g) (cap:=cap) (n:=xs.length) h i (by omega);rw [this,List.getElem?_map,ht];rfl
end
section
open Go.RowKit Go.Shelf
theorem aF.setCells (base g cap n:Nat):∀ (l:List Int) (o:Nat) (w:World) (xs:List Int),n=xs.length->aF w base (.slice (some ⟨g,0,none⟩) n cap) xs->
  ∃ ys,aF (w.setCells g o (l.map (Value.int .i64))) base (.slice (some ⟨g,0,none⟩) n cap) ys/\ys.take o=xs.take o/\ys.length=xs.length/\w.grownBy (w.setCells g o (l.map (Value.int .i64))) (some g)
 | [],o,w,xs,_,h=>⟨xs,h,rfl,rfl,fa _ _⟩
 | x :: l,o,w,xs,hn,h=>by
  have h1:=aF.set (j:=o) hn h x rfl;obtain ⟨ys,k1,k2,k3,k4⟩:=aF.setCells base g cap n l (o+1) _ (xs.set o x) (by rw [List.length_set];exact hn) h1.1;refine ⟨ys,k1,?_,by rw [k3,List.length_set],dw h1.2 k4⟩;have:=congrArg (List.take o) k2;rw [List.take_take,List.take_take,Nat.min_eq_left (by omega)] at this;rw [this,List.take_set,List.set_eq_of_length_le (by rw [List.length_take];omega)]
theorem aF.cut {w:World} {base g cap n:Nat} {xs:List Int} (hn:n=xs.length) (h:aF w base (.slice (some ⟨g,0,none⟩) n cap) xs) {i:Nat} (hi:i<=n) {ys:List Int} (hy:ys=xs.take i):aF w base (.slice (some ⟨g,0,none⟩) i cap) ys:=by
 subst hy hn;obtain ⟨h1,h2⟩:=h
 have hl:(xs.take i).length=i:=by rw [List.length_take];omega
 rcases h2 with ⟨e,-⟩ | ⟨g',cap',cur,e,hg,hh,hc,hm,hs,ht⟩
 ·cases e
 injection e with e1 e2 e3
 simp only [Option.some.injEq,Addr.mk.injEq,and_true] at e1;subst e1 e3;refine ⟨by simp,Or.inr ⟨g,cap,cur,by rw [hl],hg,hh,by omega,hm,hs,?_⟩⟩;have:=congrArg (List.take i) ht;rw [List.take_take,Nat.min_eq_left (by omega)] at this;rw [hl,Nat.mul_one,this,List.map_take]
end
section
open Go.RowKit
theorem qA {w:World} {base:Nat} {v:Value} {xs:List Int} (h:aF w base v xs):∃ A cap,v=.slice A xs.length cap/\∀ w',Below w.heap.size w w'->∀ j y,xs[j]?=some y->∃ ad,A=some ad/\w'.cell? (ad.add j)=some (.int .i64 y):=by
 have hadd:∀ b i:Nat,(⟨b,0,none⟩:Addr).add i=⟨b,i,none⟩:=fun b i=>by unfold Addr.add;split <;> simp_all
 obtain ⟨a,cap,rfl,hm,hv⟩:=h.seen;refine ⟨a,cap,rfl,fun w' hb j y hy=>?_⟩;obtain ⟨g,x,e1,e2,e3,e4⟩:=hv j (List.getElem?_eq_some_iff.1 hy).1;obtain rfl:=Option.some.inj (e3.out.symm.trans hy);exact ⟨_,e1,by rw [hadd];exact (hb.cell (p:=⟨g,j,none⟩) e2).trans e4⟩
theorem pc (xs:List Int) (v:Value) (w:World) (base:Nat) (hown:aF w base v xs) (hl:xs.length<=1000000000) :
  Calls Tryz.prog 146 #[v] w fun e w'=>∃ v',e=.returned v'/\aF w' w.heap.size v' xs/\Below w.heap.size w w':=by
 rcases hown.forms with ⟨rfl,rfl⟩ | ⟨g,cap,rfl,hg⟩
 ·have he:∀ W:World,(binOp .eql 29 (.slice none 0 0) (.slice none 0 0)).run Tryz.prog W=.ok (.bool true) W:=fun _=>rfl
  go_enter Tryz.func146,Tryz.ntmps146
  go_wp2;go_ret;exact ⟨_,rfl,aF.nil _ _,DE _ _⟩
 obtain ⟨A,cap',e,hf⟩:=qA hown
 injection e with e1 e2 e3
 subst e1 e3;clear e2;have hf:=DB hf
 have he:∀ W:World,(binOp .eql 29 (.slice (some ⟨g,0,none⟩) xs.length cap) (.slice none 0 0)).run Tryz.prog W=.ok (.bool false) W:=fun _=>rfl
 go_enter Tryz.func146,Tryz.ntmps146
 go_wp2_with (at_builtin;refine qS (W:=w) w.heap.size xs [] _ (some ⟨g,0,none⟩) _ _ (by rfl) (by rfl) (.tmp 5) (.tmp 6) (by rfl) (by rfl) (by rfl) (hf.out _ (by repeat (first | exact DE _ _ | refine aQ ?_ _ | refine aR ?_ (by assumption) | refine Below.drew ?_ | refine DD ?_ (by first | exact DF _ | exact Nat.le_add_right _ _ | (simp <;> omega)) _ | refine aN ?_ _))) (aF.zD _ _ (DF _)) (by repeat (first | exact DE _ _ | refine aQ ?_ _ | refine aR ?_ (by assumption) | refine Below.drew ?_ | refine DD ?_ (by first | exact DF _ | exact Nat.le_add_right _ _ | (simp <;> omega)) _ | refine aN ?_ _)) (by simp) (by simp;omega) ?_;rintro v1 w1 hown1 hb1)
 go_ret;exact ⟨_,rfl,hown1,hb1⟩
namespace Gr
variable {w0 w w':World} {r:Option Nat}
theorem set {g:Nat} (h:w0.grownBy w (some g)) (o:Nat) (v:Value):w0.grownBy (w.setCell ⟨g,o,none⟩ v) (some g):=by
 refine ⟨h.os,h.tape,h.output,by simpa [World.setCell] using h.size,fun i hi hne=>?_⟩;exact (Below.heap_setCell _ _ _ _ (by rintro rfl;exact hne rfl)).trans (h.block i hi hne)
theorem rj (h:w0.grownBy w r) {p:Addr} (hp:w0.heap.size<=p.block) (v:Value):w0.grownBy (w.setCell p v) r:=by
 refine ⟨h.os,h.tape,h.output,by simpa [World.setCell] using h.size,fun i hi hne=>?_⟩;exact (Below.heap_setCell _ _ _ _ (by omega)).trans (h.block i hi hne)
theorem frozen (hg:w.grownBy w' r) {a:Addr} (hl:a.block<w.heap.size) (hne:some a.block≠r):w'.frozen? a=w.frozen? a:=
 World.frozen?_of_block (hg.block _ hl hne)
theorem drew (h:w0.grownBy w r):w0.grownBy w.drew r:=qE h 1
theorem below {B:Nat} (h:w0.grownBy w r) (k:Below B w w') (hB:w.heap.size<=B):w0.grownBy w' r:=dw h (bw (k.mono hB) r)
theorem alloc (h:w0.grownBy w r) (o:Obj):w0.grownBy (w.alloc o) r:=dw h (World.grownBy_alloc w o r)
theorem iM {g b o:Nat} {v:Value} (hg:w.grownBy w' (some g)) (h:w.cell? ⟨b,o,none⟩=some v) (hn:b≠g):w'.cell? ⟨b,o,none⟩=some v:=
 hg.cell h (by simpa using hn)
theorem uB {g b o:Nat} (hg:w.grownBy w' (some g)) (hs:b<w.heap.size) (h:w.frozen? ⟨b,o,none⟩=false) (hn:b≠g):w'.frozen? ⟨b,o,none⟩=false:=
 (frozen hg hs (by simpa using hn)).trans h
theorem lZ {n:Nat} (hg:w.grownBy w' r) (h:n<w.heap.size):n<w'.heap.size:=Nat.lt_of_lt_of_le h hg.size
theorem bp {W:World} {o o':Obj} {p:Addr} {v:Value} (h:(W.alloc o).cell? p=some v) (hp:p.block=W.heap.size->False):(W.alloc o').cell? p=some v:=by
 have hb:p.block<W.heap.size:=by
  have h1:=World.block_lt_of_cell? (W.alloc o) _ h;rw [DC] at h1
  rcases Nat.lt_or_ge p.block W.heap.size with h2 | h2
  ·exact h2
  exact (hp (by omega)).elim
 have e1:=(Below.alloc (DE W.heap.size W) (DF _) o).cell (p:=p) hb;have e2:=(Below.alloc (DE W.heap.size W) (DF _) o').cell (p:=p) hb;rw [e2,←e1,h]
theorem Cb {W:World} {p q:Addr} {u v:Value} (h:W.cell? p=some v) (hp:p.block=q.block->False):(W.setCell q u).cell? p=some v:=
 (World.cell?_of_block (w:=W) (Below.heap_setCell _ _ _ _ hp)).trans h
theorem eN {W:World} {p q q':Addr} {u u' v:Value} (h:W.cell? p=some v) (hp:p.block=q.block->False) (hp':p.block=q'.block->False):((W.setCell q u).setCell q' u').cell? p=some v:=Cb (Cb h hp) hp'
theorem bJ {W:World} {o:Obj} {p:Addr} {v:Value} (h:W.cell? p=some v):(W.alloc o).cell? p=some v:=
 ((Below.alloc (DE W.heap.size W) (DF _) o).cell (World.block_lt_of_cell? W _ h)).trans h
end Gr
structure Zb (w:World) (b:Nat):Prop where
 c0:w.cell? ⟨b,0,none⟩=some (.int .i64 0)
 c1:w.cell? ⟨b,1,none⟩=some (.int .i64 0)
 f0:w.frozen? ⟨b,0,none⟩=false
 f1:w.frozen? ⟨b,1,none⟩=false
 size:b<w.heap.size
theorem Zb.new (Y:World) (T:TypeId):Zb (Y.alloc (.cells #[(0:Int),(0:Int)] T)) Y.heap.size:=
 ⟨by rw [World.cell?_alloc_at _ _ _ _ rfl];rfl,by rw [World.cell?_alloc_at _ _ _ _ rfl];rfl,by simp [go_sem],by simp [go_sem],by rw [DC];omega⟩
theorem Zb.keep {w w':World} {b:Nat} (h:Zb w b) (hb:Below w.heap.size w w'):Zb w' b:=
 ⟨(hb.cell (p:=⟨b,0,none⟩) h.size).trans h.c0,(hb.cell (p:=⟨b,1,none⟩) h.size).trans h.c1,(hb.frozen (p:=⟨b,0,none⟩) h.size).trans h.f0,(hb.frozen (p:=⟨b,1,none⟩) h.size).trans h.f1,Nat.lt_of_lt_of_le h.size hb.size⟩
theorem Zb.ww {w w':World} {b g:Nat} (h:Zb w b) (hg:w.grownBy w' (some g)) (hn:b≠g):Zb w' b:=
 ⟨Gr.iM hg h.c0 hn,Gr.iM hg h.c1 hn,Gr.uB hg h.size h.f0 hn,Gr.uB hg h.size h.f1 hn,Gr.lZ hg h.size⟩
def ry (w:World) (B:Nat) (v:Value) (n:Nat):Prop:=
 ∃ (A:Option Addr) (cap:Nat),v=.slice A n cap/\(n:Int)<=9223372036854775807/\∀ j,j<n->∃ (g o:Nat) (b:Int),A=some ⟨g,o,none⟩/\g<B/\w.cell? ⟨g,o+j,none⟩=some (.int .u8 b)/\0<=b/\b<=255
structure Cur (w:World) (g B:Nat) (v:Value) (n k:Nat):Prop where
 bytes:ry w B v n
 lt:B<=g
 c0:w.cell? ⟨g,0,none⟩=some v
 c1:w.cell? ⟨g,1,none⟩=some (.int .i64 k)
 c2:∃ s:Int,w.cell? ⟨g,2,none⟩=some (.int .u64 s)
 f1:w.frozen? ⟨g,1,none⟩=false
 f2:w.frozen? ⟨g,2,none⟩=false
 size:g<w.heap.size
theorem ry.keep {w w':World} {B g n:Nat} {v:Value} (h:ry w B v n) (hg:w.grownBy w' (some g)) (hB:B<=g):ry w' B v n:=by
 obtain ⟨A,cap,e,hn,hb⟩:=h;refine ⟨A,cap,e,hn,fun j hj=>?_⟩;obtain ⟨gb,ob,b,e,hgb,hc,h1,h2⟩:=hb j hj;exact ⟨gb,ob,b,e,hgb,Gr.iM hg hc (by omega),h1,h2⟩
def fw (w:World) (g B:Nat) (v:Value) (n K:Nat):Prop:=∃ k,k<=K/\Cur w g B v n k
theorem fw.size {w:World} {g B n K:Nat} {v:Value} (h:fw w g B v n K):g<w.heap.size:=h.elim fun _ h=>h.2.size
theorem fw.keep {w w':World} {g B n K:Nat} {v:Value} (h:fw w g B v n K) (hb:Below w.heap.size w w'):fw w' g B v n K:=by
 obtain ⟨k,hk,h⟩:=h;have hg:=bw hb (some (w.heap.size+g+1));obtain ⟨s,hs⟩:=h.c2;have hl:=h.size;have hlt:=h.lt;refine ⟨k,hk,h.bytes.keep hg (by omega),h.lt,Gr.iM hg h.c0 (by omega),Gr.iM hg h.c1 (by omega),⟨s,Gr.iM hg hs (by omega)⟩,Gr.uB hg h.size h.f1 (by omega),Gr.uB hg h.size h.f2 (by omega),Gr.lZ hg h.size⟩
theorem fw.alloc {w:World} {g B n K:Nat} {v:Value} (h:fw w g B v n K) (o:Obj):fw (w.alloc o) g B v n K:=h.keep ((DE _ _).alloc (DF _) o)
theorem fw.mono {w:World} {g B n K K':Nat} {v:Value} (h:fw w g B v n K) (hK:K<=K'):fw w g B v n K':=by
 obtain ⟨k,hk,h⟩:=h;exact ⟨k,by omega,h⟩
structure Ec (w:World) (b:Nat) (m n:Int):Prop where
 c0:w.cell? ⟨b,0,none⟩=some (.int .i64 m)
 c1:w.cell? ⟨b,1,none⟩=some (.int .i64 n)
 f0:w.frozen? ⟨b,0,none⟩=false
 f1:w.frozen? ⟨b,1,none⟩=false
 size:b<w.heap.size
theorem Ec.keepR {w w':World} {b:Nat} {m n:Int} {r:Option Nat} (h:Ec w b m n) (hg:w.grownBy w' r) (hn:some b≠r):Ec w' b m n:=
 ⟨hg.cell h.c0 hn,hg.cell h.c1 hn,(Gr.frozen hg h.size hn).trans h.f0,(Gr.frozen hg h.size hn).trans h.f1,Gr.lZ hg h.size⟩
theorem Ec.ww {w w':World} {b g:Nat} {m n:Int} (h:Ec w b m n) (hg:w.grownBy w' (some g)) (hn:b≠g):Ec w' b m n:=h.keepR hg (by simpa using hn)
theorem Ec.keep {w w':World} {b:Nat} {m n:Int} (h:Ec w b m n) (hb:Below w.heap.size w w'):Ec w' b m n:=h.keepR (bw hb none) (by simp)
theorem Ec.alloc {w:World} {b:Nat} {m n:Int} (h:Ec w b m n) (o:Obj):Ec (w.alloc o) b m n:=h.keep ((DE _ _).alloc (DF _) o)
theorem Ec.drew {w:World} {b:Nat} {m n:Int} (h:Ec w b m n):Ec w.drew b m n:=⟨h.c0,h.c1,h.f0,h.f1,h.size⟩
theorem Ec.new (w:World) (m n:Int) (T:TypeId):Ec (w.alloc (.cells #[m,n] T)) w.heap.size m n:=
 ⟨by rw [World.cell?_alloc_at _ _ _ _ rfl];rfl,by rw [World.cell?_alloc_at _ _ _ _ rfl];rfl,by simp [go_sem],by simp [go_sem],by rw [DC];omega⟩
theorem Ec.store {w:World} {b:Nat} {m n:Int} (h:Ec w b m n) (x y:Int):Ec ((w.setCell ⟨b,0,none⟩ (.int .i64 x)).setCell ⟨b,1,none⟩ (.int .i64 y)) b x y:=by
 obtain ⟨h1,h2,h3,h4,h5⟩:=h;exact ⟨by simp [go_sem, *],by simp [go_sem, *],by simp [go_sem, *],by simp [go_sem, *],by simp [go_sem, *]⟩
theorem cO (w:World) (c:Nat) (x y:Value):w.grownBy ((w.setCell ⟨c,0,none⟩ x).setCell ⟨c,1,none⟩ y) (some c):=Gr.set (Gr.set (fa w (some c)) 0 x) 1 y
theorem Ec.other {w:World} {b c:Nat} {m n:Int} (h:Ec w b m n) (hn:b≠c) (x y:Value):Ec ((w.setCell ⟨c,0,none⟩ x).setCell ⟨c,1,none⟩ y) b m n:=h.ww (cO w c x y) hn
theorem fw.keepR {w w':World} {g B n K c:Nat} {v:Value} (h:fw w g B v n K) (hg:w.grownBy w' (some c)) (hc:g≠c) (hB:B<=c):fw w' g B v n K:=by
 obtain ⟨k,hk,h⟩:=h;obtain ⟨s,hs⟩:=h.c2;exact ⟨k,hk,h.bytes.keep hg hB,h.lt,Gr.iM hg h.c0 hc,Gr.iM hg h.c1 hc,⟨s,Gr.iM hg hs hc⟩,Gr.uB hg h.size h.f1 hc,Gr.uB hg h.size h.f2 hc,Gr.lZ hg h.size⟩
structure St (w W:World) (g B:Nat) (v:Value) (n K:Nat):Prop where
 cur:fw W g B v n K
 gr:w.grownBy W (some g)
 lt:B<=g
theorem St.start {w:World} {g B n K:Nat} {v:Value} (h:fw w g B v n K):St w w g B v n K:=⟨h,fa _ _,h.elim fun _ h=>h.2.lt⟩
theorem St.call {w W W':World} {g B n K K':Nat} {v:Value} (h:St w W g B v n K) (hc:fw W' g B v n K') (hg:W.grownBy W' (some g)):St w W' g B v n K':=⟨hc,dw h.gr hg,h.lt⟩
theorem St.keep {w W W':World} {g B n K:Nat} {v:Value} (h:St w W g B v n K) (hb:Below W.heap.size W W'):St w W' g B v n K:=⟨h.cur.keep hb,dw h.gr (bw hb _),h.lt⟩
theorem St.alloc {w W:World} {g B n K:Nat} {v:Value} (h:St w W g B v n K) (o:Obj):St w (W.alloc o) g B v n K:=h.keep ((DE _ _).alloc (DF _) o)
theorem St.store {w W:World} {g B n K c:Nat} {v:Value} (h:St w W g B v n K) (hc:w.heap.size<=c) (hg:g≠c) (hB:B<=c) (x y:Value):St w ((W.setCell ⟨c,0,none⟩ x).setCell ⟨c,1,none⟩ y) g B v n K:=
 ⟨h.cur.keepR (cO W c x y) hg hB,Gr.rj (Gr.rj h.gr hc _) hc _,h.lt⟩
theorem St.size {w W:World} {g B n K:Nat} {v:Value} (h:St w W g B v n K):g<W.heap.size:=h.cur.size
theorem St.le {w W:World} {g B n K:Nat} {v:Value} (h:St w W g B v n K):w.heap.size<=W.heap.size:=h.gr.size
theorem uK (W:World) (T:TypeId) (l:List Int):∀ (j:Nat) (x:Int),l[j]?=some x->(W.alloc (.cells (l.map (Value.int .i64)).toArray T)).cell? ⟨W.heap.size,j,none⟩=some (.int .i64 x):=fun j x h=>by
 rw [World.cell?_alloc_at _ _ _ _ rfl];simp [h]
end
end Go.Proofs.YtkalaljcbmkbmaaGreat
