/-
  Joined texts: contracts and plain lemmas.
-/
import Derived.Lib.Hide
import Derived.WalkKit
import Derived.Test.YtggekfbfechonaaGreatProg
import Derived.KernelRfl
import Derived.Deep.QuietTactic
import Derived.BigQuiet
import Derived.Deep.RegionHeld3
import Derived.Laws.OwnMore
import Derived.RegionTactic
import Derived.OwnWalk
import Derived.Laws.Bits64b
import Derived.Deep.DeepCutAuto
import Derived.Orders
set_option linter.unusedSimpArgs false
set_option linter.unusedVariables false
set_option maxRecDepth 100000
set_option maxHeartbeats 8000000
namespace Go.Proofs.YtggekfbfechonaaGreat
section
theorem xL {p : Prop} (h : p) : RowKit.Hid p := Lib.hid h
theorem xM (w : World) (o : Obj) : (w.alloc o).heap.size = w.heap.size + 1 := World.size_alloc w o
theorem xN {B : Nat} {a w : World} (h : RowKit.Below B a w) {p : Addr} (hp : B ≤ p.block) (u : Value) : RowKit.Below B a (w.setCell p u) := RowKit.Below.setCell h hp u
theorem xO (B : Nat) (w : World) : RowKit.Below B w w := RowKit.Below.refl B w
theorem xP (n : Nat) : n ≤ n := Nat.le_refl n
theorem d_ {a b c : World} (h : RowKit.Below a.heap.size a b) (k : RowKit.Below b.heap.size b c) : RowKit.Below a.heap.size a c := h.trans (k.mono h.size)
namespace M
def pick (ok:Bool) (x:Int):Int:=if ok then x else 0
theorem dS (x:Int):pick true x=x:=rfl
theorem fc (x:Int):pick false x=0:=rfl
def ins (n lo hi:Int):Bool:=decide (lo≤n∧n≤hi)
theorem lF {n lo hi:Int}:ins n lo hi=true ↔ lo≤n∧n≤hi:=by simp [ins]
theorem fJ {n lo hi:Int} (h:ins n lo hi=true):lo≤n∧n≤hi:=lF.1 h
theorem aL {x y m n:Int} (h1:-m≤x) (h2:x≤m) (h3:-n≤y) (h4:y≤n):-(m*n)≤x*y∧x*y≤m*n:=by
 have a1:0≤(m - x)*(n - y):=Int.mul_nonneg (by omega) (by omega);have a2:0≤(m+x)*(n+y):=Int.mul_nonneg (by omega) (by omega);have a3:0≤(m - x)*(n+y):=Int.mul_nonneg (by omega) (by omega);have a4:0≤(m+x)*(n - y):=Int.mul_nonneg (by omega) (by omega);simp only [Int.sub_mul,Int.mul_sub,Int.add_mul,Int.mul_add] at a1 a2 a3 a4
 constructor <;> omega
theorem lJ {x y m n:Int} (h1:0≤x) (h2:x≤m) (h3:0≤y) (h4:y≤n):0≤x*y∧x*y≤m*n:=
 ⟨Int.mul_nonneg h1 h3,(aL (m:=m) (n:=n) (by omega) h2 (by omega) h4).2⟩
def f8 (n:Int):Prop:=2≤n∧∀ d:Int,2≤d→d*d≤n→¬ n % d=0
open Classical in
noncomputable def prime (n:Int):Bool:=decide (f8 n)
theorem qR {n:Int}:prime n=true ↔ f8 n:=by simp [prime]
theorem qT {n:Int}:prime n=false ↔ ¬ f8 n:=by simp [prime]
theorem xH {k m:Int} (hm:0≤m) (h:k*k<m*m):k<m:=by
 rcases Int.lt_or_le k m with q | q
 ·exact q
 have:m*m≤k*k:=Int.mul_le_mul q q (by omega) (by omega);omega
def qw (n r:Int):Prop:=0≤r∧r*r≤n∧n<(r+1)*(r+1)
theorem qw.uniq {n r s:Int} (h:qw n r) (k:qw n s):r=s:=by
 obtain ⟨a,b,c⟩:=h;obtain ⟨d,e,f⟩:=k
 rcases Int.lt_trichotomy r s with q | q | q
 ·have:(r+1)*(r+1)≤s*s:=Int.mul_le_mul (by omega) (by omega) (by omega) (by omega)
  omega
 ·exact q
 have:(s+1)*(s+1)≤r*r:=Int.mul_le_mul (by omega) (by omega) (by omega) (by omega);omega
theorem pS (n:Nat):∃ r:Nat,r*r≤n∧n<(r+1)*(r+1):=by
 induction n with
 | zero=>exact ⟨0,by omega,by omega⟩
 | succ n ih=>
 obtain ⟨r,h1,h2⟩:=ih
 rcases Nat.lt_or_ge (n+1) ((r+1)*(r+1)) with q | q
 ·exact ⟨r,by omega,q⟩
 refine ⟨r+1,q,?_⟩
 have:(r+1+1)*(r+1+1)=(r+1)*(r+1)+2*r+3:=by simp only [Nat.add_mul,Nat.mul_add];omega
 omega
open Classical in
noncomputable def root (n:Int):Int:=if h:0≤n then ((pS n.toNat).choose:Int) else 0
theorem fy {n:Int} (h:0≤n):qw n (root n):=by
 obtain ⟨a,b⟩:=(pS n.toNat).choose_spec;unfold root;rw [dif_pos h];refine ⟨by omega,?_,?_⟩
 ·have:=Int.ofNat_le.2 a;push_cast at this;omega
 have:=Int.ofNat_lt.2 b;push_cast at this;omega
theorem jA {n r:Int} (h:qw n r):r=root n:=by
 have:0≤r*r:=Int.mul_nonneg h.1 h.1;exact h.uniq (fy (by have:=h.2.1;omega))
def val (a b x:Int):Int:=x*x*x+a*x+b
def af (a b:Int):Int:=4*a*a*a+27*b*b
def bM (a b:Int):Bool:=ins a (-1000) 1000 && ins b (-10000) 10000
def good (a b:Int):Bool:=bM a b && (af a b != 0)
theorem an {a b:Int} (h:bM a b=true):-1000≤a∧a≤1000∧-10000≤b∧b≤10000:=by
 simp only [bM,Bool.and_eq_true,lF] at h;omega
theorem am {a b:Int} (h:good a b=true):bM a b=true:=by
 simp only [good,Bool.and_eq_true] at h;exact h.1
def upto (lo:Int) (k:Nat):List Int:=(List.range k).map fun i:Nat=>lo+(i:Int)
theorem qf (lo:Int) (k:Nat):upto lo (k+1)=upto lo k ++ [lo+(k:Int)]:=by
 simp [upto,List.range_succ]
def sel (p:Int→Bool) (lo:Int) (k:Nat):List Int:=(upto lo k).filter p
theorem vY {p:Int→Bool} {lo:Int} {k:Nat} (h:p (lo+k)=false):sel p lo (k+1)=sel p lo k:=by
 simp [sel,qf,h]
theorem lH {a p:Int} (hp:1≤p):0≤a % p∧a % p<p:=⟨Int.emod_nonneg _ (by omega),Int.emod_lt_of_pos _ (by omega)⟩
def rhs (a b p x:Int):Int:=val a b x % p
def gcd (a b:Int):Int:=Int.gcd a b
theorem jX (a b:Int):Int.gcd b (a.tmod b)=Int.gcd a b:=by
 rw [Int.gcd_comm a b];simp only [Int.gcd,Int.natAbs_tmod];exact (Nat.gcd_rec b.natAbs a.natAbs ▸ Nat.gcd_comm _ _)
end M
end
section
open Go.RowKit
theorem jo {a b:Int} (h:a=b):Ending.returned (.int .i64 a)=.returned (.int .i64 b):=by rw [h]
theorem dj {a b:Bool} (h:a=b):Ending.returned (.bool a)=.returned (.bool b):=by rw [h]
theorem dq (n lo hi:Int) (w:World) :
  Calls Tryz.prog 78 #[.int .i64 n,.int .i64 lo,.int .i64 hi] w fun e w'=>e=.returned (.bool (M.ins n lo hi))∧w=w':=by
 unfold M.ins
 by_cases h1:lo≤n <;> by_cases h2:n≤hi <;>
 (go_enter Tryz.func78,Tryz.ntmps78
  go_wp2
  go_ret;exact ⟨by simp [h1,h2],rfl⟩)
theorem dQ (n lo hi:Int) (w:World) :
  Calls Tryz.prog 56 #[.int .i64 n,.int .i64 lo,.int .i64 hi] w fun e w'=>e=.returned (.bool (M.ins n lo hi))∧w=w':=by
 unfold M.ins
 by_cases h1:lo≤n <;> by_cases h2:n≤hi <;>
 (go_enter Tryz.func56,Tryz.ntmps56
  go_wp2
  go_ret;exact ⟨by simp [h1,h2],rfl⟩)
theorem jV (n:Int) (w:World) (h1:0≤n) (h2:n≤4000000000000000000) :
  Calls Tryz.prog 150 #[.int .i64 n] w fun e w'=>e=.returned (.int .i64 (M.root n))∧w=w':=by
 go_enter Tryz.func150,Tryz.ntmps150
 go_wp2
 go_loop [3,4] (fun l h=>∃ a b:Int,0≤a∧a<b∧b≤2000000001∧l=.int .i64 a∧h=.int .i64 b∧a*a≤n∧n<b*b) (fun l h=>(intOf h - intOf l).toNat)
 case atStart=>exact ⟨0,2000000001,by omega,by omega,by omega,rfl,rfl,by simp;omega,by simp;omega⟩
 case round=>
 obtain ⟨a,b,ha,hab,hb,rfl,rfl,ha2,hb2⟩:=hrel
 by_cases c1:1<b - a
 ·have hm1:a<(a+b) / 2:=by omega
  have hm2:(a+b) / 2<b:=by omega
  have yl:=M.lJ (x:=(a+b) / 2) (y:=(a+b) / 2) (m:=2000000001) (n:=2000000001) (by omega) (by omega) (by omega) (by omega)
  by_cases c2:(a+b) / 2*((a+b) / 2)≤n
  ·go_wp2
   go_round
   case rel=>exact ⟨(a+b) / 2,b,by omega,by omega,by omega,rfl,rfl,c2,hb2⟩
   case measure=>simp [intOf];omega
  go_wp2
  go_round
  case rel=>exact ⟨a,(a+b) / 2,by omega,by omega,by omega,rfl,rfl,ha2,by omega⟩
  case measure=>simp [intOf];omega
 go_wp2;go_ret;exact ⟨jo (M.jA ⟨by omega,ha2,by rw [show (a:Int)+1=b from by omega];exact hb2⟩),rfl⟩
theorem jW (a b:Int) (w:World) (h1:-9000000000000000000≤a) (h2:a≤9000000000000000000) (h3:-9000000000000000000≤b) (h4:b≤9000000000000000000) :
  Calls Tryz.prog 114 #[.int .i64 a,.int .i64 b] w fun e w'=>e=.returned (.int .i64 (M.gcd a b))∧∃ m,w'=w.drewN m:=by
 go_enter Tryz.func114,Tryz.ntmps114
 go_wp2
 go_loopw [0,1] (fun va vb wr=>∃ x y:Int,va=.int .i64 x∧vb=.int .i64 y∧-9000000000000000000≤x∧x≤9000000000000000000∧-9000000000000000000≤y∧y≤9000000000000000000∧M.gcd x y=M.gcd a b∧∃ m,wr=w.drewN m) (fun _ vb _=>(intOf vb).natAbs)
 case atStart=>exact ⟨a,b,rfl,rfl,h1,h2,h3,h4,rfl,0,rfl⟩
 case round=>
 obtain ⟨x,y,rfl,rfl,x1,x2,y1,y2,hg,m,rfl⟩:=hrel;have Hg:=xL hg;clear hg
 by_cases hy:y=0
 ·subst hy
  by_cases hx:0≤x
  ·go_wp2
   all_goals (go_ret;exact ⟨jo (by rw [←Hg.out];simp only [M.gcd,Int.gcd_zero_right];omega),_,rfl⟩)
  go_wp2
  all_goals (go_ret;exact ⟨jo (by rw [←Hg.out];simp only [M.gcd,Int.gcd_zero_right];omega),_,rfl⟩)
 have ht:=Int.natAbs_tmod x y;have hm:x.natAbs % y.natAbs<y.natAbs:=Nat.mod_lt _ (by omega);have ht:=xL (show (x.tmod y).natAbs<y.natAbs by omega)
 have ht1:-9000000000000000000≤x.tmod y:=by omega
 have ht2:x.tmod y≤9000000000000000000:=by omega
 by_cases hp:0≤x∧1≤y
 ·obtain ⟨p1,p2⟩:=hp
  have e1:=xL (Int.tmod_eq_emod_of_nonneg (b:=y) p1);have hb:=M.lH (a:=x) p2;go_wp2
  go_quiet (fail)
  go_wp2
  go_roundw
  case rel=>exact ⟨y,x % y,rfl,rfl,y1,y2,by omega,by omega,by rw [←Hg.out,←e1.out];unfold M.gcd;rw [M.jX],_,World.drewN_drewN _ _ _⟩
  case measure=>simp [intOf];omega
 go_wp2
 go_quiet (fail)
 go_wp2
 go_roundw
 case rel=>exact ⟨y,x.tmod y,rfl,rfl,y1,y2,ht1,ht2,by rw [←Hg.out];unfold M.gcd;rw [M.jX],_,World.drewN_drewN _ _ _⟩
 case measure=>have:=ht.out;simp [intOf];omega
theorem dJ (a b:Int) (w:World) (h1:0≤a) (h2:a≤9000000000000000000) (h3:0≤b) (h4:b≤9000000000000000000) :
  Calls Tryz.prog 130 #[.int .i64 a,.int .i64 b] w fun e w'=>e=.returned (.int .i64 (M.gcd a b))∧w=w':=by
 go_enter Tryz.func130,Tryz.ntmps130
 go_wp2
 go_loop [0,1] (fun va vb=>∃ x y:Int,va=.int .i64 x∧vb=.int .i64 y∧0≤x∧x≤9000000000000000000∧0≤y∧y≤9000000000000000000∧M.gcd x y=M.gcd a b) (fun _ vb=>(intOf vb).toNat)
 case atStart=>exact ⟨a,b,rfl,rfl,h1,h2,h3,h4,rfl⟩
 case round=>
 obtain ⟨x,y,rfl,rfl,x1,x2,y1,y2,hg⟩:=hrel;have Hg:=xL hg;clear hg
 by_cases hy:0<y
 ·have hb:=M.lH (a:=x) (p:=y) (by omega)
  have e1:=xL (Int.tmod_eq_emod_of_nonneg (b:=y) x1);go_wp2
  go_round
  case rel=>exact ⟨y,x % y,rfl,rfl,y1,y2,by omega,by omega,by rw [←Hg.out,←e1.out];unfold M.gcd;rw [M.jX]⟩
  case measure=>simp [intOf];omega
 obtain rfl:y=0:=by omega
 go_wp2;go_ret;exact ⟨jo (by rw [←Hg.out];simp only [M.gcd,Int.gcd_zero_right];omega),rfl⟩
theorem eN (a b:Int) (w:World) :
  Calls Tryz.prog 119 #[.int .i64 a,.int .i64 b] w fun e w'=>e=.returned (.int .i64 (max a b))∧w=w':=by
 by_cases h:b<a
 ·go_enter Tryz.func119,Tryz.ntmps119
  go_wp2;go_ret;exact ⟨jo (by omega),rfl⟩
 go_enter Tryz.func119,Tryz.ntmps119
 go_wp2;go_ret;exact ⟨jo (by omega),rfl⟩
theorem dG (a:Int) (w:World) (h1:-9223372036854775807≤a) (h2:a≤9223372036854775807) :
  Calls Tryz.prog 131 #[.int .i64 a] w fun e w'=>e=.returned (.int .i64 (a.natAbs:Int))∧w=w':=by
 go_enter Tryz.func131,Tryz.ntmps131
 go_wp2_with (go_at_call 119;refine (eN _ _ _).mono ?_;rintro e w' ⟨rfl,rfl⟩)
 go_ret;exact ⟨jo (by omega),rfl⟩
theorem dX {W w1:World} (hb:Below W.heap.size W w1):(∀ b o,b<W.heap.size→w1.cell? ⟨b,o,none⟩=W.cell? ⟨b,o,none⟩)∧(∀ b o,b<W.heap.size→w1.frozen? ⟨b,o,none⟩=W.frozen? ⟨b,o,none⟩)∧W.heap.size≤w1.heap.size:=
 ⟨fun b o h=>hb.cell (p:=⟨b,o,none⟩) h,fun b o h=>hb.frozen (p:=⟨b,o,none⟩) h,hb.size⟩
theorem aP (w:World):w.drew.heap=w.heap:=rfl
theorem aI (w:World) (a:Addr) (v:Value):(w.setCell a v).heap.size=w.heap.size:=by simp [World.setCell]
theorem aS {w W:World} (h:Below w.heap.size w W) (o:Obj):Below w.heap.size w (W.alloc o):=h.alloc h.size o
theorem aW {w W w':World} (h:Below w.heap.size w W) (hb:Below W.heap.size W w'):Below w.heap.size w w':=d_ h hb
theorem aO {w W:World} (h:Below w.heap.size w W) (n:Nat):Below w.heap.size w (W.drewN n):=by
 induction n with
 | zero=>exact h
 | succ n ih=>exact ih.drew
theorem nl (a b:Int) (w:World) (h:M.bM a b=true) :
  Calls Tryz.prog 126 #[.agg #[.int .i64 a,.int .i64 b]] w fun e w'=>e=.returned (.int .i64 (M.af a b))∧Below w.heap.size w w':=by
 obtain ⟨h1,h1',h2,h2'⟩:=M.an h;have b1:=M.aL (x:=4*a) (y:=a) (m:=4000) (n:=1000) (by omega) (by omega) (by omega) (by omega);have b2:=M.aL (x:=4*a*a) (y:=a) (m:=4000000) (n:=1000) (by omega) (by omega) (by omega) (by omega);have b3:=M.aL (x:=27*b) (y:=b) (m:=270000) (n:=10000) (by omega) (by omega) (by omega) (by omega);go_enter Tryz.func126,Tryz.ntmps126
 go_wp2;go_ret;exact ⟨rfl,(by repeat (first | exact xO _ _ | refine aS ?_ _ | refine aW ?_ (by assumption) | refine Below.drew ?_ | refine xN ?_ (by first | exact xP _ | exact Nat.le_add_right _ _ | (simp <;> omega)) _ | refine aO ?_ _))⟩
theorem rZ (a b:Int) (w:World) (h:M.bM a b=true) :
  Calls Tryz.prog 129 #[.agg #[.int .i64 a,.int .i64 b]] w fun e w'=>e=.returned (.int .i64 (M.af a b))∧Below w.heap.size w w':=by
 obtain ⟨h1,h1',h2,h2'⟩:=M.an h;have b1:=M.aL (x:=4*a) (y:=a) (m:=4000) (n:=1000) (by omega) (by omega) (by omega) (by omega);have b2:=M.aL (x:=4*a*a) (y:=a) (m:=4000000) (n:=1000) (by omega) (by omega) (by omega) (by omega);have b3:=M.aL (x:=27*b) (y:=b) (m:=270000) (n:=10000) (by omega) (by omega) (by omega) (by omega);go_enter Tryz.func129,Tryz.ntmps129
 go_wp2;go_ret;exact ⟨rfl,(by repeat (first | exact xO _ _ | refine aS ?_ _ | refine aW ?_ (by assumption) | refine Below.drew ?_ | refine xN ?_ (by first | exact xP _ | exact Nat.le_add_right _ _ | (simp <;> omega)) _ | refine aO ?_ _))⟩
theorem qG (a b:Int) (w:World) :
  Calls Tryz.prog 73 #[.agg #[.int .i64 a,.int .i64 b]] w fun e w'=>e=.returned (.bool (M.good a b))∧Below w.heap.size w w':=by
 cases h1:M.ins a (-1000) 1000
 ·go_enter Tryz.func73,Tryz.ntmps73
  go_wp2_with (go_at_call 56;refine (dQ _ _ _ _).mono ?_;rintro e w' ⟨rfl,rfl⟩)
  go_ret;exact ⟨dj (by simp [M.good,M.bM,h1]),(by repeat (first | exact xO _ _ | refine aS ?_ _ | refine aW ?_ (by assumption) | refine Below.drew ?_ | refine xN ?_ (by first | exact xP _ | exact Nat.le_add_right _ _ | (simp <;> omega)) _ | refine aO ?_ _))⟩
 cases h2:M.ins b (-10000) 10000
 ·go_enter Tryz.func73,Tryz.ntmps73
  go_wp2_with (go_at_call 56;refine (dQ _ _ _ _).mono ?_;rintro e w' ⟨rfl,rfl⟩)
  go_ret;exact ⟨dj (by simp [M.good,M.bM,h2]),(by repeat (first | exact xO _ _ | refine aS ?_ _ | refine aW ?_ (by assumption) | refine Below.drew ?_ | refine xN ?_ (by first | exact xP _ | exact Nat.le_add_right _ _ | (simp <;> omega)) _ | refine aO ?_ _))⟩
 go_enter Tryz.func73,Tryz.ntmps73
 go_wp2_with (first | (go_at_call 56;refine (dQ _ _ _ _).mono ?_;rintro e w' ⟨rfl,rfl⟩) | (go_at_call 126;refine (nl _ _ _ (by simp [M.bM,h1,h2])).mono ?_;rintro e w' ⟨rfl,hb⟩;obtain ⟨xS,hf_,yO⟩:=dX hb;(try simp only [xM,aP,World.heap_drewN,aI] at yO)))
 go_ret;exact ⟨dj (by simp [M.good,M.bM,h1,h2]),(by repeat (first | exact xO _ _ | refine aS ?_ _ | refine aW ?_ (by assumption) | refine Below.drew ?_ | refine xN ?_ (by first | exact xP _ | exact Nat.le_add_right _ _ | (simp <;> omega)) _ | refine aO ?_ _))⟩
theorem eI (a b:Int) (w:World) :
  Calls Tryz.prog 77 #[.agg #[.int .i64 a,.int .i64 b]] w fun e w'=>e=.returned (.bool (M.good a b))∧Below w.heap.size w w':=by
 cases h1:M.ins a (-1000) 1000
 ·go_enter Tryz.func77,Tryz.ntmps77
  go_wp2_with (go_at_call 78;refine (dq _ _ _ _).mono ?_;rintro e w' ⟨rfl,rfl⟩)
  go_ret;exact ⟨dj (by simp [M.good,M.bM,h1]),(by repeat (first | exact xO _ _ | refine aS ?_ _ | refine aW ?_ (by assumption) | refine Below.drew ?_ | refine xN ?_ (by first | exact xP _ | exact Nat.le_add_right _ _ | (simp <;> omega)) _ | refine aO ?_ _))⟩
 cases h2:M.ins b (-10000) 10000
 ·go_enter Tryz.func77,Tryz.ntmps77
  go_wp2_with (go_at_call 78;refine (dq _ _ _ _).mono ?_;rintro e w' ⟨rfl,rfl⟩)
  go_ret;exact ⟨dj (by simp [M.good,M.bM,h2]),(by repeat (first | exact xO _ _ | refine aS ?_ _ | refine aW ?_ (by assumption) | refine Below.drew ?_ | refine xN ?_ (by first | exact xP _ | exact Nat.le_add_right _ _ | (simp <;> omega)) _ | refine aO ?_ _))⟩
 go_enter Tryz.func77,Tryz.ntmps77
 go_wp2_with (first | (go_at_call 78;refine (dq _ _ _ _).mono ?_;rintro e w' ⟨rfl,rfl⟩) | (go_at_call 129;refine (rZ _ _ _ (by simp [M.bM,h1,h2])).mono ?_;rintro e w' ⟨rfl,hb⟩;obtain ⟨xS,hf_,yO⟩:=dX hb;(try simp only [xM,aP,World.heap_drewN,aI] at yO)))
 go_ret;exact ⟨dj (by simp [M.good,M.bM,h1,h2]),(by repeat (first | exact xO _ _ | refine aS ?_ _ | refine aW ?_ (by assumption) | refine Below.drew ?_ | refine xN ?_ (by first | exact xP _ | exact Nat.le_add_right _ _ | (simp <;> omega)) _ | refine aO ?_ _))⟩
def cv (a b:Int):Value:=.agg #[.int .i64 a,.int .i64 b]
theorem iz {a b:Int} (h:b≠0):0<M.gcd a b:=by
 unfold M.gcd;have:0<Int.gcd a b:=Int.gcd_pos_of_ne_zero_right _ h;omega
def br (a b:Int):Int:=if b<0 then -a.tdiv (M.gcd a b) else a.tdiv (M.gcd a b)
def bW (a b:Int):Int:=if b<0 then -b.tdiv (M.gcd a b) else b.tdiv (M.gcd a b)
theorem d7 {a b:Int} (h:b<0):br a b=-a.tdiv (M.gcd a b):=if_pos h
theorem cw {a b:Int} (h:0≤b):br a b=a.tdiv (M.gcd a b):=if_neg (by omega)
theorem d6 {a b:Int} (h:b<0):bW a b=-b.tdiv (M.gcd a b):=if_pos h
theorem cr {a b:Int} (h:0≤b):bW a b=b.tdiv (M.gcd a b):=if_neg (by omega)
theorem dc {a d m:Int} (h1:-m≤a) (h2:a≤m) (hd:d≠0):-m≤a.tdiv d∧a.tdiv d≤m:=by
 have:(a.tdiv d).natAbs≤a.natAbs:=by rw [Int.natAbs_tdiv];exact Nat.div_le_self _ _
 omega
theorem ns {a b:Int} (h:b≠0):M.gcd a b≤b.natAbs:=by
 unfold M.gcd;have:=Nat.le_of_dvd (by omega) (Nat.gcd_dvd_right a.natAbs b.natAbs);simp only [Int.gcd];omega
theorem gf (a b:Int) (w:World) (h1:-4000000000000000000≤a) (h2:a≤4000000000000000000) (h3:-4000000000000000000≤b) (h4:b≤4000000000000000000) (h0:b≠0) :
  Calls Tryz.prog 149 #[.int .i64 a,.int .i64 b] w fun e w'=>e=.returned (.tuple #[.int .i64 (br a b),.int .i64 (bW a b)])∧Below w.heap.size w w':=by
 have hg:=iz (a:=a) h0;have hl:=ns (a:=a) h0
 have hgg:M.gcd a.natAbs b.natAbs=M.gcd a b:=by simp [M.gcd,Int.gcd]
 have t1:=dc (d:=M.gcd a b) h1 h2 (by omega);have t2:=dc (d:=M.gcd a b) h3 h4 (by omega)
 by_cases hb:b<0
 ·have e1:=xL (d7 (a:=a) hb)
  have e2:=xL (d6 (a:=a) hb);go_enter Tryz.func149,Tryz.ntmps149
  go_wp2_with (first | (go_at_call 131;refine (dG _ _ (by omega) (by omega)).mono ?_;rintro e w' ⟨rfl,rfl⟩) | (go_at_call 130;refine (dJ _ _ _ (by omega) (by omega) (by omega) (by omega)).mono ?_;rintro e w' ⟨rfl,rfl⟩))
  go_quiet (fail)
  go_wp2;go_ret2;exact ⟨by rw [e1.out,e2.out];rfl,(by repeat (first | exact xO _ _ | refine aS ?_ _ | refine aW ?_ (by assumption) | refine Below.drew ?_ | refine xN ?_ (by first | exact xP _ | exact Nat.le_add_right _ _ | (simp <;> omega)) _ | refine aO ?_ _))⟩
 have e1:=xL (cw (a:=a) (b:=b) (by omega));have e2:=xL (cr (a:=a) (b:=b) (by omega));go_enter Tryz.func149,Tryz.ntmps149
 go_wp2_with (first | (go_at_call 131;refine (dG _ _ (by omega) (by omega)).mono ?_;rintro e w' ⟨rfl,rfl⟩) | (go_at_call 130;refine (dJ _ _ _ (by omega) (by omega) (by omega) (by omega)).mono ?_;rintro e w' ⟨rfl,rfl⟩))
 go_quiet (fail)
 go_wp2;go_ret2;exact ⟨by rw [e1.out,e2.out];rfl,(by repeat (first | exact xO _ _ | refine aS ?_ _ | refine aW ?_ (by assumption) | refine Below.drew ?_ | refine xN ?_ (by first | exact xP _ | exact Nat.le_add_right _ _ | (simp <;> omega)) _ | refine aO ?_ _))⟩
theorem aE {W w':World} (hb:Below W.heap.size W w') {p:Addr} {v:Value} (h:W.cell? p=some v):w'.cell? p=some v:=
 (hb.cell (World.block_lt_of_cell? W _ h)).trans h
theorem bJ {W w':World} (hb:Below W.heap.size W w') {p:Addr} (h:p.block<W.heap.size) (hf:W.frozen? p=false):w'.frozen? p=false:=
 (hb.frozen h).trans hf
theorem jZ:(Tryz.prog.info? 3).map (fun i=>(i.zero,i.size,i.bytes))=some (some (.int .i64 0),1,8):=by kernel_rfl
def aF (w:World) (base:Nat) (v:Value) (xs:List Int):Prop:=w.ownsRow base 3 1 v xs.length (xs.map (Value.int .i64))
theorem aF.nil (w:World) (base:Nat):aF w base (.slice none 0 0) []:=World.ownsRow_nil w base _ 1
theorem aF.push {w:World} {base:Nat} {v':Value} {xs:List Int} {n:Nat} {x:Int} {ys:List Int} (hn:n=xs.length) (h:w.ownsRow base 3 1 v' (n+1) (xs.map (Value.int .i64) ++ [.int .i64 x])) (he:ys=xs ++ [x]):aF w base v' ys:=by
 subst hn he
 simpa [aF] using h
theorem aF.below {w w':World} {base:Nat} {v:Value} {xs:List Int} (h:aF w base v xs) (hb:Below w.heap.size w w'):aF w' base v xs:=by
 obtain ⟨h1,h2⟩:=h;refine ⟨h1,?_⟩
 rcases h2 with h2 | ⟨g,cap,cur,hv,hg,hh,r⟩
 ·exact Or.inl h2
 exact Or.inr ⟨g,cap,cur,hv,hg,by rw [hb.block g (Array.getElem?_eq_some_iff.1 hh).1];exact hh,r⟩
theorem aF.base {w:World} {base base':Nat} {v:Value} {xs:List Int} (h:aF w base v xs) (hb:base'≤base):aF w base' v xs:=by
 obtain ⟨h1,h2⟩:=h;refine ⟨h1,?_⟩
 rcases h2 with h2 | ⟨g,cap,cur,hv,hg,hh,r⟩
 ·exact Or.inl h2
 exact Or.inr ⟨g,cap,cur,hv,Nat.le_trans hb hg,hh,r⟩
theorem lN (x:Int):∀ u ∈ [Value.int .i64 x],u.oneCell'=true:=by
 intro u hu;simp only [List.mem_singleton] at hu;subst hu;rfl
theorem aF.view {w:World} {base:Nat} {v:Value} {xs:List Int} (h:aF w base v xs):∃ (a:Option Addr) (cap:Nat),v=.slice a xs.length cap∧(xs.length:Int)≤9223372036854775807∧
  ∀ k,k<xs.length→∃ g x,a=some ⟨g,0,none⟩∧base≤g∧Hid (xs[k]?=some x)∧w.cell? ⟨g,k,none⟩=some (.int .i64 x):=by
 obtain ⟨h1,h2⟩:=h
 rcases h2 with ⟨rfl,hn⟩ | ⟨g,cap,cur,rfl,hg,hh,hc,hm,hs,ht⟩
 ·refine ⟨none,0,by rw [hn],by omega,fun k hk=>by omega⟩
 refine ⟨some ⟨g,0,none⟩,cap,rfl,by unfold maxLen at hm;omega,fun k hk=>⟨g,xs[k],rfl,hg,List.getElem?_eq_getElem hk,?_⟩⟩;rw [cell_of_row w g k cur _ (0,0) hh]
 have e:(xs.map (Value.int .i64))[k]?=some (.int .i64 xs[k]):=by
  rw [List.getElem?_map,List.getElem?_eq_getElem hk];rfl
 rw [←ht,List.getElem?_take] at e
 split at e
 ·simpa using e
 cases e
theorem cj {ops:Array Oper} {rest:List Oper} {o:Oper} {a:Act} {Q:Exit→Act→World→Prop} {w W:World} (base:Nat) (y:Int) (xs:List Int) (v:Value) (hgd:o.guard=none) (s x:Operand)
  (ho:o.op=.call { callee:=.builtin .append,args:=#[s,x],argTypes:=#[60,60] }) (hs:a.eval s=v) (hx:a.eval x=.slice (some ⟨w.heap.size,0,none⟩) 1 1)
  (hown:aF w base v xs) (hW:Below base W w) (hB:base≤w.heap.size) (hl:xs.length≤10000000000)
  (h:∀ v' w',aF w' base v' (xs ++ [y])→Below base W w'→wpList Tryz.prog ops Q rest (a.put o.dst v') w') :
  wpList Tryz.prog ops Q (o :: rest) a (w.alloc (.cells #[.int .i64 y] 3)):=by
 obtain ⟨i0,hi,hz0,hz1,hz2⟩:=info_parts jZ
 refine wpList_append_own _ hgd s x 60 ho base 3 i0 (.int .i64 0) 1 8 Tryz.underlying60 hi hz0 hz1 hz2 rfl (by decide) v xs.length (xs.map (Value.int .i64)) hs (hown.alloc _) ⟨w.heap.size,0,none⟩ 1 1 [.int .i64 y] hx rfl (fun j u hu=>by
  have hadd:(⟨w.heap.size,0,none⟩:Addr).add j=⟨w.heap.size,j,none⟩:=by unfold Addr.add;split <;> simp_all
  rw [hadd,World.cell?_alloc_at _ _ _ _ rfl]
  simpa using hu) (lN _) ?_ ?_ ?_ ?_
 ·unfold maxLen;omega
 ·omega
 ·simp;omega
 intro v' w' h1 h2 _;exact h v' w' (aF.push rfl h1 rfl) ((hW.alloc hB _).grown h2 (by simp;omega) fun k hk=>(hown.lt k hk).1)
def gS (w:World) (hi:Nat) (v:Value) (xs:List Int):Prop:=
 ∃ (a:Option Addr) (cap:Nat),v=.slice a xs.length cap∧(xs.length:Int)≤9223372036854775807∧
  ∀ k,k<xs.length→∃ g x,a=some ⟨g,0,none⟩∧g<hi∧Hid (xs[k]?=some x)∧w.cell? ⟨g,k,none⟩=some (.int .i64 x)
theorem gS.below {w w':World} {hi:Nat} {v:Value} {xs:List Int} (h:gS w hi v xs) (hb:Below hi w w'):gS w' hi v xs:=by
 obtain ⟨a,cap,h1,h2,h3⟩:=h;refine ⟨a,cap,h1,h2,fun k hk=>?_⟩;obtain ⟨g,x,e1,e2,e3,e4⟩:=h3 k hk;exact ⟨g,x,e1,e2,e3,(hb.cell (p:=⟨g,k,none⟩) e2).trans e4⟩
theorem gS.mono {w:World} {hi hi':Nat} {v:Value} {xs:List Int} (h:gS w hi v xs) (hh:hi≤hi'):gS w hi' v xs:=by
 obtain ⟨a,cap,h1,h2,h3⟩:=h;refine ⟨a,cap,h1,h2,fun k hk=>?_⟩;obtain ⟨g,x,e1,e2,e3,e4⟩:=h3 k hk;exact ⟨g,x,e1,by omega,e3,e4⟩
theorem aF.seen {w:World} {base:Nat} {v:Value} {xs:List Int} (h:aF w base v xs):gS w w.heap.size v xs:=by
 obtain ⟨a,cap,h1,h2,h3⟩:=h.view;refine ⟨a,cap,h1,h2,fun k hk=>?_⟩;obtain ⟨g,x,e1,e2,e3,e4⟩:=h3 k hk;exact ⟨g,x,e1,World.block_lt_of_cell? w _ e4,e3,e4⟩
theorem gS.len {w:World} {hi:Nat} {v:Value} {xs:List Int} (h:gS w hi v xs):(xs.length:Int)≤9223372036854775807:=by
 obtain ⟨a,cap,h1,h2,h3⟩:=h;exact h2
theorem ce {a b c:World} {r:Option Nat} (h:a.grownBy b r) (k:b.grownBy c r):a.grownBy c r:=
 ⟨k.os.trans h.os,k.tape.trans h.tape,k.output.trans h.output,Nat.le_trans h.size k.size,fun i hi hne=>(k.block i (Nat.lt_of_lt_of_le hi h.size) hne).trans (h.block i hi hne)⟩
theorem dE (a:World) (r:Option Nat):a.grownBy a r:=⟨rfl,rfl,rfl,xP _,fun _ _ _=>rfl⟩
theorem fW {a b:World} {r:Option Nat} (h:a.grownBy b r) (n:Nat):a.grownBy (b.drewN n) r:=⟨h.os,h.tape,h.output,h.size,h.block⟩
theorem cQ {a b:World} {r:Option Nat} {base:Nat} (h:a.grownBy b r) (hb:base≤a.heap.size) (hr:∀ k,r=some k→base≤k):Below base a b:=
 ⟨h.os,h.tape,h.output,h.size,fun i hi=>h.block i (by omega) (fun e=>by have:=hr i e.symm;omega)⟩
theorem cM {a b:World} (h:Below a.heap.size a b) (r:Option Nat):a.grownBy b r:=⟨h.os,h.tape,h.output,h.size,fun i hi _=>h.block i hi⟩
theorem aF.set {w:World} {base g cap n j:Nat} {xs:List Int} (hn:n=xs.length) (h:aF w base (.slice (some ⟨g,0,none⟩) n cap) xs) (x:Int) {ys:List Int} (he:ys=xs.set j x) :
  aF (w.setCell ⟨g,j,none⟩ (.int .i64 x)) base (.slice (some ⟨g,0,none⟩) n cap) ys∧w.grownBy (w.setCell ⟨g,j,none⟩ (.int .i64 x)) (some g):=by
 subst he hn;have:=World.ownsRow.stored (g:=g) (cap:=cap) h j (.int .i64 x);refine ⟨?_,this.2⟩;unfold aF;rw [List.map_set,List.length_set];exact this.1
namespace Gr
variable {w0 w w':World} {r:Option Nat}
theorem set {g:Nat} (h:w0.grownBy w (some g)) (o:Nat) (v:Value):w0.grownBy (w.setCell ⟨g,o,none⟩ v) (some g):=by
 refine ⟨h.os,h.tape,h.output,by simpa [World.setCell] using h.size,fun i hi hne=>?_⟩;exact (Below.heap_setCell _ _ _ _ (by rintro rfl;exact hne rfl)).trans (h.block i hi hne)
theorem iR (h:w0.grownBy w r) {p:Addr} (hp:w0.heap.size≤p.block) (v:Value):w0.grownBy (w.setCell p v) r:=by
 refine ⟨h.os,h.tape,h.output,by simpa [World.setCell] using h.size,fun i hi hne=>?_⟩;exact (Below.heap_setCell _ _ _ _ (by omega)).trans (h.block i hi hne)
theorem frozen (hg:w.grownBy w' r) {a:Addr} (hl:a.block<w.heap.size) (hne:some a.block≠r):w'.frozen? a=w.frozen? a:=
 World.frozen?_of_block (hg.block _ hl hne)
theorem drew (h:w0.grownBy w r):w0.grownBy w.drew r:=fW h 1
theorem below {B:Nat} (h:w0.grownBy w r) (k:Below B w w') (hB:w.heap.size≤B):w0.grownBy w' r:=ce h (cM (k.mono hB) r)
theorem alloc (h:w0.grownBy w r) (o:Obj):w0.grownBy (w.alloc o) r:=ce h (World.grownBy_alloc w o r)
theorem eU {g b o:Nat} {v:Value} (hg:w.grownBy w' (some g)) (h:w.cell? ⟨b,o,none⟩=some v) (hn:b≠g):w'.cell? ⟨b,o,none⟩=some v:=
 hg.cell h (by simpa using hn)
theorem qC {g b o:Nat} (hg:w.grownBy w' (some g)) (hs:b<w.heap.size) (h:w.frozen? ⟨b,o,none⟩=false) (hn:b≠g):w'.frozen? ⟨b,o,none⟩=false:=
 (frozen hg hs (by simpa using hn)).trans h
theorem ic {n:Nat} (hg:w.grownBy w' r) (h:n<w.heap.size):n<w'.heap.size:=Nat.lt_of_lt_of_le h hg.size
theorem bV {W:World} {o o':Obj} {p:Addr} {v:Value} (h:(W.alloc o).cell? p=some v) (hp:p.block=W.heap.size→False):(W.alloc o').cell? p=some v:=by
 have hb:p.block<W.heap.size:=by
  have h1:=World.block_lt_of_cell? (W.alloc o) _ h;rw [xM] at h1
  rcases Nat.lt_or_ge p.block W.heap.size with h2 | h2
  ·exact h2
  exact (hp (by omega)).elim
 have e1:=(Below.alloc (xO W.heap.size W) (xP _) o).cell (p:=p) hb;have e2:=(Below.alloc (xO W.heap.size W) (xP _) o').cell (p:=p) hb;rw [e2,←e1,h]
theorem wO {W:World} {p q:Addr} {u v:Value} (h:W.cell? p=some v) (hp:p.block=q.block→False):(W.setCell q u).cell? p=some v:=
 (World.cell?_of_block (w:=W) (Below.heap_setCell _ _ _ _ hp)).trans h
theorem dD {W:World} {p q q':Addr} {u u' v:Value} (h:W.cell? p=some v) (hp:p.block=q.block→False) (hp':p.block=q'.block→False):((W.setCell q u).setCell q' u').cell? p=some v:=wO (wO h hp) hp'
theorem bK {W:World} {o:Obj} {p:Addr} {v:Value} (h:W.cell? p=some v):(W.alloc o).cell? p=some v:=
 ((Below.alloc (xO W.heap.size W) (xP _) o).cell (World.block_lt_of_cell? W _ h)).trans h
end Gr
structure Zb (w:World) (b:Nat):Prop where
 c0:w.cell? ⟨b,0,none⟩=some (.int .i64 0)
 c1:w.cell? ⟨b,1,none⟩=some (.int .i64 0)
 f0:w.frozen? ⟨b,0,none⟩=false
 f1:w.frozen? ⟨b,1,none⟩=false
 size:b<w.heap.size
theorem Zb.new (Y:World) (T:TypeId):Zb (Y.alloc (.cells #[.int .i64 0,.int .i64 0] T)) Y.heap.size:=
 ⟨by rw [World.cell?_alloc_at _ _ _ _ rfl];rfl,by rw [World.cell?_alloc_at _ _ _ _ rfl];rfl,by simp [go_sem],by simp [go_sem],by rw [xM];omega⟩
theorem Zb.keep {w w':World} {b:Nat} (h:Zb w b) (hb:Below w.heap.size w w'):Zb w' b:=
 ⟨(hb.cell (p:=⟨b,0,none⟩) h.size).trans h.c0,(hb.cell (p:=⟨b,1,none⟩) h.size).trans h.c1,(hb.frozen (p:=⟨b,0,none⟩) h.size).trans h.f0,(hb.frozen (p:=⟨b,1,none⟩) h.size).trans h.f1,Nat.lt_of_lt_of_le h.size hb.size⟩
theorem Zb.aV {w w':World} {b g:Nat} (h:Zb w b) (hg:w.grownBy w' (some g)) (hn:b≠g):Zb w' b:=
 ⟨Gr.eU hg h.c0 hn,Gr.eU hg h.c1 hn,Gr.qC hg h.size h.f0 hn,Gr.qC hg h.size h.f1 hn,Gr.ic hg h.size⟩
def cW (w:World) (B:Nat) (v:Value) (n:Nat):Prop:=
 ∃ (A:Option Addr) (cap:Nat),v=.slice A n cap∧(n:Int)≤9223372036854775807∧∀ j,j<n→∃ (g o:Nat) (b:Int),A=some ⟨g,o,none⟩∧g<B∧w.cell? ⟨g,o+j,none⟩=some (.int .u8 b)∧0≤b∧b≤255
structure Jb (w:World) (g B:Nat) (v:Value) (n k:Nat):Prop where
 bytes:cW w B v n
 lt:B≤g
 c0:w.cell? ⟨g,0,none⟩=some v
 c1:w.cell? ⟨g,1,none⟩=some (.int .i64 k)
 c2:∃ s:Int,w.cell? ⟨g,2,none⟩=some (.int .u64 s)
 f1:w.frozen? ⟨g,1,none⟩=false
 f2:w.frozen? ⟨g,2,none⟩=false
 size:g<w.heap.size
theorem cW.keep {w w':World} {B g n:Nat} {v:Value} (h:cW w B v n) (hg:w.grownBy w' (some g)) (hB:B≤g):cW w' B v n:=by
 obtain ⟨A,cap,e,hn,hb⟩:=h;refine ⟨A,cap,e,hn,fun j hj=>?_⟩;obtain ⟨gb,ob,b,e,hgb,hc,h1,h2⟩:=hb j hj;exact ⟨gb,ob,b,e,hgb,Gr.eU hg hc (by omega),h1,h2⟩
def fR (w:World) (g B:Nat) (v:Value) (n k m:Nat) (e:Ending) (w':World):Prop:=
 ∃ x:Int,e=.returned (.int .i64 x)∧(0≤x∧x≤m)∧Jb w' g B v n (k+1)∧w.grownBy w' (some g)
theorem fR.mk' {w w':World} {g B n k m:Nat} {v:Value} {x:Int} (h:Jb w g B v n k) (hx:0≤x∧x≤m) (hg:w.grownBy w' (some g)) (c0:w'.cell? ⟨g,0,none⟩=some v) (c1:w'.cell? ⟨g,1,none⟩=some (.int .i64 (k+1)))
  (c2:∃ s:Int,w'.cell? ⟨g,2,none⟩=some (.int .u64 s)) (f1:w'.frozen? ⟨g,1,none⟩=false) (f2:w'.frozen? ⟨g,2,none⟩=false):fR w g B v n k m (.returned (.int .i64 x)) w':=
 ⟨x,rfl,hx,⟨h.bytes.keep hg h.lt,h.lt,c0,by rw [c1];rfl,c2,f1,f2,Gr.ic hg h.size⟩,hg⟩
theorem Nr (X:Int):0≤wrap64 (bits BinOp.and IntKind.u64 X 255)∧wrap64 (bits BinOp.and IntKind.u64 X 255)≤((255:Nat):Int):=by
 have e:bits BinOp.and IntKind.u64 X 255=(((BitVec.ofInt 64 X).toNat &&& 255:Nat):Int):=by
  show IntKind.u64.wrap ((BitVec.ofInt 64 X &&& BitVec.ofInt 64 (255:Int)).toNat:Int)=_
  have h2:(BitVec.ofInt 64 (255:Int)).toNat=255:=by decide
  rw [BitVec.toNat_and,h2,IntKind.wrap_u64];have:(BitVec.ofInt 64 X).toNat &&& 255≤255:=Nat.and_le_right;omega
 have h:(BitVec.ofInt 64 X).toNat &&& 255≤255:=Nat.and_le_right;rw [e,IntWalk.wrap64_in _ (by omega)];omega
theorem vH (g B:Nat) (v:Value) (n k:Nat) (w:World) (h:Jb w g B v n k) (hk:k≤1000000000) :
  Calls Tryz.prog 159 #[.pointer (some ⟨g,0,none⟩)] w (fR w g B v n k 255):=by
 have hH:=xL h;obtain ⟨⟨A,cap,rfl,hn,hb⟩,h1,h2,h3,⟨s,h4⟩,h5,h6,h7⟩:=h
 by_cases hlt:k<n
 ·obtain ⟨gb,ob,b,rfl,hgb,hcb,b1,b2⟩:=hb k hlt
  clear hb
  have ne:gb≠g:=by omega
  have ne':g≠gb:=by omega
  go_enter Tryz.func159,Tryz.ntmps159
  go_wp2
  go_quiet (fail)
  go_wp2
  go_quiet (fail)
  go_wp2
  go_quiet (fail)
  go_wp2;go_ret;exact fR.mk' hH.out ⟨b1,b2⟩ (by repeat (first | exact World.grownBy.refl _ _ | refine Gr.alloc ?_ _ | refine Gr.drew ?_ | refine fW ?_ _ | refine Gr.below ?_ (by assumption) (xP _) | refine ce ?_ (by assumption) | refine Gr.set ?_ _ _ | refine Gr.iR ?_ (by first | exact xP _ | exact Nat.le_add_right _ _ | (simp <;> omega)) _)) (by simp [go_sem, *]) (by simp [go_sem, *]) ⟨_,by simp [go_sem, *];rfl⟩ (by simp [go_sem, *]) (by simp [go_sem, *])
 clear hb
 have hle:¬ k+1≤n:=by omega
 go_enter Tryz.func159,Tryz.ntmps159
 go_wp2
 go_quiet (fail)
 go_wp2
 go_quiet (fail)
 go_wp2;go_ret;exact fR.mk' hH.out (Nr _) (by repeat (first | exact World.grownBy.refl _ _ | refine Gr.alloc ?_ _ | refine Gr.drew ?_ | refine fW ?_ _ | refine Gr.below ?_ (by assumption) (xP _) | refine ce ?_ (by assumption) | refine Gr.set ?_ _ _ | refine Gr.iR ?_ (by first | exact xP _ | exact Nat.le_add_right _ _ | (simp <;> omega)) _)) (by simp [go_sem, *]) (by simp [go_sem, *]) ⟨_,by simp [go_sem, *];rfl⟩ (by simp [go_sem, *]) (by simp [go_sem, *])
def cX (w:World) (g B:Nat) (v:Value) (n K:Nat):Prop:=∃ k,k≤K∧Jb w g B v n k
def lr (w:World) (g B:Nat) (v:Value) (n K:Nat) (lo hi:Int) (e:Ending) (w':World):Prop:=
 ∃ x:Int,e=.returned (.int .i64 x)∧(lo≤x∧x≤hi)∧cX w' g B v n K∧w.grownBy w' (some g)
theorem cX.size {w:World} {g B n K:Nat} {v:Value} (h:cX w g B v n K):g<w.heap.size:=h.elim fun _ h=>h.2.size
theorem cX.keep {w w':World} {g B n K:Nat} {v:Value} (h:cX w g B v n K) (hb:Below w.heap.size w w'):cX w' g B v n K:=by
 obtain ⟨k,hk,h⟩:=h;have hg:=cM hb (some (w.heap.size+g+1));obtain ⟨s,hs⟩:=h.c2;have hl:=h.size;have hlt:=h.lt;refine ⟨k,hk,h.bytes.keep hg (by omega),h.lt,Gr.eU hg h.c0 (by omega),Gr.eU hg h.c1 (by omega),⟨s,Gr.eU hg hs (by omega)⟩,Gr.qC hg h.size h.f1 (by omega),Gr.qC hg h.size h.f2 (by omega),Gr.ic hg h.size⟩
theorem cX.alloc {w:World} {g B n K:Nat} {v:Value} (h:cX w g B v n K) (o:Obj):cX (w.alloc o) g B v n K:=h.keep ((xO _ _).alloc (xP _) o)
theorem cX.mono {w:World} {g B n K K':Nat} {v:Value} (h:cX w g B v n K) (hK:K≤K'):cX w g B v n K':=by
 obtain ⟨k,hk,h⟩:=h;exact ⟨k,by omega,h⟩
theorem lK (g B:Nat) (v:Value) (n K:Nat) (w:World) (h:cX w g B v n K) (hk:K≤1000000000) :
  Calls Tryz.prog 159 #[.pointer (some ⟨g,0,none⟩)] w (lr w g B v n (K+1) 0 255):=by
 obtain ⟨k,hk',h⟩:=h;refine (vH g B v n k w h (by omega)).mono ?_;rintro e w' ⟨x,rfl,hx,hc,hg⟩;exact ⟨x,rfl,hx,⟨k+1,by omega,hc⟩,hg⟩
theorem cJ (g B:Nat) (v:Value) (n K:Nat) (m:Int) (w:World) (h:cX w g B v n K) (hk:K≤900000000) (h1:1≤m) (h2:m≤60000) :
  Calls Tryz.prog 108 #[.pointer (some ⟨g,0,none⟩),.int .i64 m] w (lr w g B v n (K+2) 0 (m - 1)):=by
 by_cases c1:m≤1
 ·go_enter Tryz.func108,Tryz.ntmps108
  go_wp2;go_ret;exact ⟨0,rfl,⟨by omega,by omega⟩,h.mono (by omega),dE _ _⟩
 by_cases c2:200<m
 ·go_enter Tryz.func108,Tryz.ntmps108
  go_wp2_with fail
  refine (lK g B v n K _ h (by omega)).mono ?_;rintro e w1 ⟨x,rfl,⟨x1,x2⟩,hc1,hg1⟩
  go_wp2_with fail
  refine (lK g B v n (K+1) _ hc1 (by omega)).mono ?_;rintro e w2 ⟨y,rfl,⟨y1,y2⟩,hc2,hg2⟩;go_wp2;go_ret;have hm:=M.lH (a:=x*256+y) (p:=m) (by omega);exact ⟨_,rfl,⟨by omega,by omega⟩,hc2,ce hg1 hg2⟩
 go_enter Tryz.func108,Tryz.ntmps108
 go_wp2_with fail
 refine (lK g B v n K _ h (by omega)).mono ?_;rintro e w1 ⟨x,rfl,⟨x1,x2⟩,hc1,hg1⟩;go_wp2;go_ret;have hm:=M.lH (a:=x) (p:=m) (by omega);exact ⟨_,rfl,⟨by omega,by omega⟩,hc1.mono (by omega),hg1⟩
def tJ (w:World) (g B:Nat) (v:Value) (n K:Nat) (e:Ending) (w':World):Prop:=
 ∃ b:Bool,e=.returned (.bool b)∧cX w' g B v n K∧w.grownBy w' (some g)
theorem jf (g B:Nat) (v:Value) (n K:Nat) (m:Int) (w:World) (h:cX w g B v n K) (hk:K≤900000000) (h1:1≤m) (h2:m≤60000) :
  Calls Tryz.prog 109 #[.pointer (some ⟨g,0,none⟩),.int .i64 m] w (tJ w g B v n (K+2)):=by
 go_enter Tryz.func109,Tryz.ntmps109
 go_wp2_with fail
 refine (cJ g B v n K m _ h hk h1 h2).mono ?_;rintro e w1 ⟨x,rfl,⟨x1,x2⟩,hc1,hg1⟩;go_wp2;go_ret;exact ⟨_,rfl,hc1,hg1⟩
structure An (w:World) (b:Nat) (m n:Int):Prop where
 c0:w.cell? ⟨b,0,none⟩=some (.int .i64 m)
 c1:w.cell? ⟨b,1,none⟩=some (.int .i64 n)
 f0:w.frozen? ⟨b,0,none⟩=false
 f1:w.frozen? ⟨b,1,none⟩=false
 size:b<w.heap.size
theorem An.keepR {w w':World} {b:Nat} {m n:Int} {r:Option Nat} (h:An w b m n) (hg:w.grownBy w' r) (hn:some b≠r):An w' b m n:=
 ⟨hg.cell h.c0 hn,hg.cell h.c1 hn,(Gr.frozen hg h.size hn).trans h.f0,(Gr.frozen hg h.size hn).trans h.f1,Gr.ic hg h.size⟩
theorem An.aV {w w':World} {b g:Nat} {m n:Int} (h:An w b m n) (hg:w.grownBy w' (some g)) (hn:b≠g):An w' b m n:=h.keepR hg (by simpa using hn)
theorem An.keep {w w':World} {b:Nat} {m n:Int} (h:An w b m n) (hb:Below w.heap.size w w'):An w' b m n:=h.keepR (cM hb none) (by simp)
theorem An.alloc {w:World} {b:Nat} {m n:Int} (h:An w b m n) (o:Obj):An (w.alloc o) b m n:=h.keep ((xO _ _).alloc (xP _) o)
theorem An.drew {w:World} {b:Nat} {m n:Int} (h:An w b m n):An w.drew b m n:=⟨h.c0,h.c1,h.f0,h.f1,h.size⟩
theorem An.new (w:World) (m n:Int) (T:TypeId):An (w.alloc (.cells #[.int .i64 m,.int .i64 n] T)) w.heap.size m n:=
 ⟨by rw [World.cell?_alloc_at _ _ _ _ rfl];rfl,by rw [World.cell?_alloc_at _ _ _ _ rfl];rfl,by simp [go_sem],by simp [go_sem],by rw [xM];omega⟩
theorem An.store {w:World} {b:Nat} {m n:Int} (h:An w b m n) (x y:Int):An ((w.setCell ⟨b,0,none⟩ (.int .i64 x)).setCell ⟨b,1,none⟩ (.int .i64 y)) b x y:=by
 obtain ⟨h1,h2,h3,h4,h5⟩:=h;exact ⟨by simp [go_sem, *],by simp [go_sem, *],by simp [go_sem, *],by simp [go_sem, *],by simp [go_sem, *]⟩
theorem cV (w:World) (c:Nat) (x y:Value):w.grownBy ((w.setCell ⟨c,0,none⟩ x).setCell ⟨c,1,none⟩ y) (some c):=Gr.set (Gr.set (dE w (some c)) 0 x) 1 y
theorem An.other {w:World} {b c:Nat} {m n:Int} (h:An w b m n) (hn:b≠c) (x y:Value):An ((w.setCell ⟨c,0,none⟩ x).setCell ⟨c,1,none⟩ y) b m n:=h.aV (cV w c x y) hn
theorem cX.keepR {w w':World} {g B n K c:Nat} {v:Value} (h:cX w g B v n K) (hg:w.grownBy w' (some c)) (hc:g≠c) (hB:B≤c):cX w' g B v n K:=by
 obtain ⟨k,hk,h⟩:=h;obtain ⟨s,hs⟩:=h.c2;exact ⟨k,hk,h.bytes.keep hg hB,h.lt,Gr.eU hg h.c0 hc,Gr.eU hg h.c1 hc,⟨s,Gr.eU hg hs hc⟩,Gr.qC hg h.size h.f1 hc,Gr.qC hg h.size h.f2 hc,Gr.ic hg h.size⟩
structure St (w W:World) (g B:Nat) (v:Value) (n K:Nat):Prop where
 cur:cX W g B v n K
 gr:w.grownBy W (some g)
 lt:B≤g
theorem St.start {w:World} {g B n K:Nat} {v:Value} (h:cX w g B v n K):St w w g B v n K:=⟨h,dE _ _,h.elim fun _ h=>h.2.lt⟩
theorem St.call {w W W':World} {g B n K K':Nat} {v:Value} (h:St w W g B v n K) (hc:cX W' g B v n K') (hg:W.grownBy W' (some g)):St w W' g B v n K':=⟨hc,ce h.gr hg,h.lt⟩
theorem St.keep {w W W':World} {g B n K:Nat} {v:Value} (h:St w W g B v n K) (hb:Below W.heap.size W W'):St w W' g B v n K:=⟨h.cur.keep hb,ce h.gr (cM hb _),h.lt⟩
theorem St.alloc {w W:World} {g B n K:Nat} {v:Value} (h:St w W g B v n K) (o:Obj):St w (W.alloc o) g B v n K:=h.keep ((xO _ _).alloc (xP _) o)
theorem St.store {w W:World} {g B n K c:Nat} {v:Value} (h:St w W g B v n K) (hc:w.heap.size≤c) (hg:g≠c) (hB:B≤c) (x y:Value):St w ((W.setCell ⟨c,0,none⟩ x).setCell ⟨c,1,none⟩ y) g B v n K:=
 ⟨h.cur.keepR (cV W c x y) hg hB,Gr.iR (Gr.iR h.gr hc _) hc _,h.lt⟩
theorem St.size {w W:World} {g B n K:Nat} {v:Value} (h:St w W g B v n K):g<W.heap.size:=h.cur.size
theorem St.le {w W:World} {g B n K:Nat} {v:Value} (h:St w W g B v n K):w.heap.size≤W.heap.size:=h.gr.size
theorem be (W:World) (T:TypeId) (l:List Int):∀ (j:Nat) (x:Int),l[j]?=some x→(W.alloc (.cells (l.map (Value.int .i64)).toArray T)).cell? ⟨W.heap.size,j,none⟩=some (.int .i64 x):=fun j x h=>by
 rw [World.cell?_alloc_at _ _ _ _ rfl];simp [h]
def pj (w:World) (g B:Nat) (v:Value) (n K:Nat) (l:List Int) (e:Ending) (w':World):Prop:=
 ∃ x:Int,e=.returned (.int .i64 x)∧x ∈ l∧cX w' g B v n K∧w.grownBy w' (some g)
theorem cS (g B:Nat) (v:Value) (n K:Nat) (l:List Int) (b m:Nat) (w:World) (h:cX w g B v n K) (hk:K≤900000000) (hm:l.length=m) (h1:1≤m) (h2:m≤60000) (hne:b≠g)
  (hc:∀ (j:Nat) (x:Int),l[j]?=some x→w.cell? ⟨b,j,none⟩=some (.int .i64 x)) :
  Calls Tryz.prog 100 #[.pointer (some ⟨g,0,none⟩),.slice (some ⟨b,0,none⟩) m m] w (pj w g B v n (K+2) l):=by
 have Hc:=xL hc;have Hm:=xL hm;clear hc hm;go_enter Tryz.func100,Tryz.ntmps100
 go_wp2_with fail
 refine (cJ g B v n K m _ h hk (by omega) (by omega)).mono ?_;rintro e w1 ⟨y,rfl,⟨y1,y2⟩,hc1,hg1⟩
 obtain ⟨j,rfl⟩:∃ j:Nat,y=j:=⟨y.toNat,by omega⟩
 have hj:j<m:=by omega
 obtain ⟨x,hx⟩:∃ x,Hid (l[j]?=some x):=⟨_,xL (List.getElem?_eq_getElem (by have:=Hm.out;omega))⟩
 have q0:=Gr.eU hg1 (Hc.out j x hx.out) hne;go_wp2;go_ret;exact ⟨x,rfl,List.mem_of_getElem? hx.out,hc1,hg1⟩
def jy (w:World) (g B:Nat) (v:Value) (n K:Nat) (e:Ending) (w':World):Prop:=
 ∃ a b:Int,e=.returned (.agg #[.int .i64 a,.int .i64 b])∧cX w' g B v n K∧w.grownBy w' (some g)
theorem tV (g B:Nat) (v:Value) (n K:Nat) (w:World) (h:cX w g B v n K) (hk:K≤700000000) :
  Calls Tryz.prog 125 #[.pointer (some ⟨g,0,none⟩)] w (jy w g B v n (K+40)):=by
 have st:=(St.start h).alloc (.cells #[.int .i64 0,.int .i64 0] 25);have zr:=An.new w 0 0 25
 have Cd:w.heap.size≠g:=by have:=h.size;omega
 have hl:=h.size;have hB:=st.lt;clear h;go_enter Tryz.func125,Tryz.ntmps125
 go_wp2_with fail
 refine (cJ g B v n _ 41 _ st.cur (by omega) (by omega) (by omega)).mono ?_;rintro e w_x1 ⟨x1,rfl,⟨x1_lo,x1_hi⟩,xS,p_⟩;replace st:=st.call xS p_;have sz_x1:=p_.size;replace zr:=zr.aV p_ Cd;clear xS p_
 go_wp2_with fail
 refine (cJ g B v n _ 2001 _ st.cur (by omega) (by omega) (by omega)).mono ?_;rintro e Oa ⟨x2,rfl,⟨x2_lo,x2_hi⟩,xS,p_⟩;replace st:=st.call xS p_;have sz_x2:=p_.size;replace zr:=zr.aV p_ Cd;clear xS p_
 go_wp2_with fail
 have zA:=st;replace st:=st.alloc (.cells #[.int .i64 (-16),.int .i64 (-1),.int .i64 0,.int .i64 1,.int .i64 (-2),.int .i64 (-7),.int .i64 (-25),.int .i64 4,.int .i64 (x1 - 20),.int .i64 (x2 - 1000)] 3);replace zr:=zr.alloc (.cells #[.int .i64 (-16),.int .i64 (-1),.int .i64 0,.int .i64 1,.int .i64 (-2),.int .i64 (-7),.int .i64 (-25),.int .i64 4,.int .i64 (x1 - 20),.int .i64 (x2 - 1000)] 3);refine (cS g B v n _ [-16,-1,0,1,-2,-7,-25,4,x1 - 20,x2 - 1000] (Oa).heap.size 10 _ st.cur (by omega) rfl (by omega) (by omega) (by have:=zA.size;omega) (be _ _ _)).mono ?_;rintro e w_a ⟨a,rfl,-,xS,p_⟩;replace st:=st.call xS p_;have sz_a:=p_.size;replace zr:=zr.aV p_ Cd;clear zA xS p_
 go_wp2_with fail
 refine (cJ g B v n _ 41 _ st.cur (by omega) (by omega) (by omega)).mono ?_;rintro e Ob ⟨x3,rfl,⟨JT,JS⟩,xS,p_⟩;replace st:=st.call xS p_;have JG:=p_.size;replace zr:=zr.aV p_ Cd;clear xS p_
 go_wp2_with fail
 refine (cJ g B v n _ 20001 _ st.cur (by omega) (by omega) (by omega)).mono ?_;rintro e Oc ⟨x4,rfl,⟨x4_lo,x4_hi⟩,xS,p_⟩;replace st:=st.call xS p_;have sz_x4:=p_.size;replace zr:=zr.aV p_ Cd;clear xS p_
 go_wp2_with fail
 have zA:=st;replace st:=st.alloc (.cells #[.int .i64 16,.int .i64 0,.int .i64 0,.int .i64 1,.int .i64 (-1),.int .i64 10,.int .i64 36,.int .i64 (x3 - 20),.int .i64 (x4 - 10000)] 3);replace zr:=zr.alloc (.cells #[.int .i64 16,.int .i64 0,.int .i64 0,.int .i64 1,.int .i64 (-1),.int .i64 10,.int .i64 36,.int .i64 (x3 - 20),.int .i64 (x4 - 10000)] 3);refine (cS g B v n _ [16,0,0,1,-1,10,36,x3 - 20,x4 - 10000] (Oc).heap.size 9 _ st.cur (by omega) rfl (by omega) (by omega) (by have:=zA.size;omega) (be _ _ _)).mono ?_;rintro e J_ ⟨b,rfl,-,xS,p_⟩;replace st:=st.call xS p_;have sz_b:=p_.size;replace zr:=zr.aV p_ Cd;clear zA xS p_;have se:=st.size;have sl:=st.le;have sr:=zr.size;replace st:=st.alloc (.cells #[.int .i64 a,.int .i64 b] 25);replace zr:=zr.alloc (.cells #[.int .i64 a,.int .i64 b] 25);have ex:=An.new J_ a b 25
 have FD:J_.heap.size≠g:=by omega
 have Jv:w.heap.size≠J_.heap.size:=by omega
 have nxr:=Jv.symm
 go_wp2_with fail
 generalize hE:J_.heap.size=E at *
 have Nd:w.heap.size≤E:=by omega
 have Ma:B≤E:=by omega
 clear hE;refine (jf g B v n _ 8 _ st.cur (by omega) (by omega) (by omega)).mono ?_;rintro e OY ⟨t1,rfl,xS,p_⟩;replace st:=st.call xS p_;have JD:=p_.size;replace zr:=zr.aV p_ Cd;replace ex:=ex.aV p_ FD;clear xS p_;cases t1
 case false=>
  go_wp2_with fail
  refine (jf g B v n _ 16 _ st.cur (by omega) (by omega) (by omega)).mono ?_;rintro e HW ⟨t2,rfl,xS,p_⟩;replace st:=st.call xS p_;have JE:=p_.size;replace zr:=zr.aV p_ Cd;replace ex:=ex.aV p_ FD;clear xS p_;cases t2
  case false=>
   have yY:=ex.c0;have yZ:=ex.c1;have ya:=ex.f0;have yc:=ex.f1;have yd:=ex.size
   go_wp2_with fail
   have HG:=fun w=>eI a b w
   cases hg:M.good a b <;> simp only [hg] at HG <;> have HG:=xL HG <;> clear hg
   all_goals
    refine (HG.out _).mono ?_;rintro e w9 ⟨rfl,xi⟩;replace st:=st.keep xi;replace zr:=zr.keep xi;clear yY yZ ya yc yd;replace ex:=ex.keep xi;clear xi;have yY:=ex.c0;have yZ:=ex.c1;have ya:=ex.f0;have yc:=ex.f1;have yd:=ex.size;have EB:=zr.c0;have EC:=zr.c1;have ED:=zr.f0;have EE:=zr.f1;have EF:=zr.size;go_wp2
   ·exact bodyPost_ret (v:=.agg #[.int .i64 (-16),.int .i64 16]) (by simp [results,Tryz.results125,go_sem, *]) rfl (⟨-16,16,rfl,(st.store (c:=w.heap.size) (x:=.int .i64 (-16)) (y:=.int .i64 16) (xP _) (by omega) (by omega)).cur.mono (by omega),(st.store (c:=w.heap.size) (x:=.int .i64 (-16)) (y:=.int .i64 16) (xP _) (by omega) (by omega)).gr⟩)
   exact bodyPost_ret (v:=.agg #[.int .i64 a,.int .i64 b]) (by simp [results,Tryz.results125,go_sem, *]) rfl (⟨a,b,rfl,(st.store (c:=w.heap.size) (x:=.int .i64 a) (y:=.int .i64 b) (xP _) (by omega) (by omega)).cur.mono (by omega),(st.store (c:=w.heap.size) (x:=.int .i64 a) (y:=.int .i64 b) (xP _) (by omega) (by omega)).gr⟩)
  case true=>
  go_wp2_with fail
  have zA:=st;replace st:=st.alloc (.cells #[.int .i64 (-1000),.int .i64 1000] 3);replace zr:=zr.alloc (.cells #[.int .i64 (-1000),.int .i64 1000] 3);replace ex:=ex.alloc (.cells #[.int .i64 (-1000),.int .i64 1000] 3);refine (cS g B v n _ [-1000,1000] (HW).heap.size 2 _ st.cur (by omega) rfl (by omega) (by omega) (by have:=zA.size;omega) (be _ _ _)).mono ?_;rintro e HX ⟨y1,rfl,-,xS,p_⟩;replace st:=st.call xS p_;have JH:=p_.size;replace zr:=zr.aV p_ Cd;replace ex:=ex.aV p_ FD;clear zA xS p_
  go_wp2_with fail
  have zA:=st;replace st:=st.alloc (.cells #[.int .i64 (-10000),.int .i64 10000] 3);replace zr:=zr.alloc (.cells #[.int .i64 (-10000),.int .i64 10000] 3);replace ex:=ex.alloc (.cells #[.int .i64 (-10000),.int .i64 10000] 3);refine (cS g B v n _ [-10000,10000] (HX).heap.size 2 _ st.cur (by omega) rfl (by omega) (by omega) (by have:=zA.size;omega) (be _ _ _)).mono ?_;rintro e HY ⟨y2,rfl,-,xS,p_⟩;replace st:=st.call xS p_;have JI:=p_.size;replace zr:=zr.aV p_ Cd;replace ex:=ex.aV p_ FD;clear zA xS p_;have yY:=ex.c0;have yZ:=ex.c1;have ya:=ex.f0;have yc:=ex.f1;have yd:=ex.size;have FY:=ex.store y1 y2;have Fj:=zr.other Jv (.int .i64 y1) (.int .i64 y2);have st2:=st.store (c:=E) Nd (by omega) Ma (.int .i64 y1) (.int .i64 y2)
  go_upto_region 6 with fail
  clear yY yZ ya yc yd;clear ex zr st;have ex:=FY;have zr:=Fj;have st:=st2;clear FY Fj st2;generalize (HY.setCell ⟨E,0,none⟩ (.int .i64 y1)).setCell ⟨E,1,none⟩ (.int .i64 y2)=w8 at *;have yY:=ex.c0;have yZ:=ex.c1;have ya:=ex.f0;have yc:=ex.f1;have yd:=ex.size
  go_wp2_with fail
  have HG:=fun w=>eI y1 y2 w
  cases hg:M.good y1 y2 <;> simp only [hg] at HG <;> have HG:=xL HG <;> clear hg
  all_goals
   refine (HG.out _).mono ?_;rintro e w9 ⟨rfl,xi⟩;replace st:=st.keep xi;replace zr:=zr.keep xi;clear yY yZ ya yc yd;replace ex:=ex.keep xi;clear xi;have yY:=ex.c0;have yZ:=ex.c1;have ya:=ex.f0;have yc:=ex.f1;have yd:=ex.size;have EB:=zr.c0;have EC:=zr.c1;have ED:=zr.f0;have EE:=zr.f1;have EF:=zr.size;go_wp2
  ·exact bodyPost_ret (v:=.agg #[.int .i64 (-16),.int .i64 16]) (by simp [results,Tryz.results125,go_sem, *]) rfl (⟨-16,16,rfl,(st.store (c:=w.heap.size) (x:=.int .i64 (-16)) (y:=.int .i64 16) (xP _) (by omega) (by omega)).cur.mono (by omega),(st.store (c:=w.heap.size) (x:=.int .i64 (-16)) (y:=.int .i64 16) (xP _) (by omega) (by omega)).gr⟩)
  exact bodyPost_ret (v:=.agg #[.int .i64 y1,.int .i64 y2]) (by simp [results,Tryz.results125,go_sem, *]) rfl (⟨y1,y2,rfl,(st.store (c:=w.heap.size) (x:=.int .i64 y1) (y:=.int .i64 y2) (xP _) (by omega) (by omega)).cur.mono (by omega),(st.store (c:=w.heap.size) (x:=.int .i64 y1) (y:=.int .i64 y2) (xP _) (by omega) (by omega)).gr⟩)
 case true=>
 go_wp2_with fail
 refine (cJ g B v n _ 21 _ st.cur (by omega) (by omega) (by omega)).mono ?_;rintro e w_u1 ⟨u1,rfl,⟨u1_lo,u1_hi⟩,xS,p_⟩;replace st:=st.call xS p_;have sz_u1:=p_.size;replace zr:=zr.aV p_ Cd;replace ex:=ex.aV p_ FD;clear xS p_
 go_wp2_with fail
 refine (cJ g B v n _ 21 _ st.cur (by omega) (by omega) (by omega)).mono ?_;rintro e OZ ⟨u2,rfl,⟨u2_lo,u2_hi⟩,xS,p_⟩;replace st:=st.call xS p_;have sz_u2:=p_.size;replace zr:=zr.aV p_ Cd;replace ex:=ex.aV p_ FD;clear xS p_;have yY:=ex.c0;have yZ:=ex.c1;have ya:=ex.f0;have yc:=ex.f1;have yd:=ex.size;have FY:=ex.store (16*(u1 - 10)) (64*(u2 - 10));have Fj:=zr.other Jv (.int .i64 (16*(u1 - 10))) (.int .i64 (64*(u2 - 10)));have st2:=st.store (c:=E) Nd (by omega) Ma (.int .i64 (16*(u1 - 10))) (.int .i64 (64*(u2 - 10)))
 go_upto_region 4 with fail
 clear yY yZ ya yc yd;clear ex zr st;have ex:=FY;have zr:=Fj;have st:=st2;clear FY Fj st2;generalize 64*(u2 - 10)=b2,16*(u1 - 10)=a2,(OZ.setCell ⟨E,0,none⟩ (.int .i64 (16*(u1 - 10)))).setCell ⟨E,1,none⟩ (.int .i64 (64*(u2 - 10)))=w7 at *
 go_wp2_with fail
 refine (jf g B v n _ 16 _ st.cur (by omega) (by omega) (by omega)).mono ?_;rintro e HW ⟨t2,rfl,xS,p_⟩;replace st:=st.call xS p_;have JE:=p_.size;replace zr:=zr.aV p_ Cd;replace ex:=ex.aV p_ FD;clear xS p_;cases t2
 case false=>
  have yY:=ex.c0;have yZ:=ex.c1;have ya:=ex.f0;have yc:=ex.f1;have yd:=ex.size
  go_wp2_with fail
  have HG:=fun w=>eI a2 b2 w
  cases hg:M.good a2 b2 <;> simp only [hg] at HG <;> have HG:=xL HG <;> clear hg
  all_goals
   refine (HG.out _).mono ?_;rintro e w9 ⟨rfl,xi⟩;replace st:=st.keep xi;replace zr:=zr.keep xi;clear yY yZ ya yc yd;replace ex:=ex.keep xi;clear xi;have yY:=ex.c0;have yZ:=ex.c1;have ya:=ex.f0;have yc:=ex.f1;have yd:=ex.size;have EB:=zr.c0;have EC:=zr.c1;have ED:=zr.f0;have EE:=zr.f1;have EF:=zr.size;go_wp2
  ·exact bodyPost_ret (v:=.agg #[.int .i64 (-16),.int .i64 16]) (by simp [results,Tryz.results125,go_sem, *]) rfl (⟨-16,16,rfl,(st.store (c:=w.heap.size) (x:=.int .i64 (-16)) (y:=.int .i64 16) (xP _) (by omega) (by omega)).cur.mono (by omega),(st.store (c:=w.heap.size) (x:=.int .i64 (-16)) (y:=.int .i64 16) (xP _) (by omega) (by omega)).gr⟩)
  exact bodyPost_ret (v:=.agg #[.int .i64 a2,.int .i64 b2]) (by simp [results,Tryz.results125,go_sem, *]) rfl (⟨a2,b2,rfl,(st.store (c:=w.heap.size) (x:=.int .i64 a2) (y:=.int .i64 b2) (xP _) (by omega) (by omega)).cur.mono (by omega),(st.store (c:=w.heap.size) (x:=.int .i64 a2) (y:=.int .i64 b2) (xP _) (by omega) (by omega)).gr⟩)
 case true=>
 go_wp2_with fail
 have zA:=st;replace st:=st.alloc (.cells #[.int .i64 (-1000),.int .i64 1000] 3);replace zr:=zr.alloc (.cells #[.int .i64 (-1000),.int .i64 1000] 3);replace ex:=ex.alloc (.cells #[.int .i64 (-1000),.int .i64 1000] 3);refine (cS g B v n _ [-1000,1000] (HW).heap.size 2 _ st.cur (by omega) rfl (by omega) (by omega) (by have:=zA.size;omega) (be _ _ _)).mono ?_;rintro e HX ⟨y1,rfl,-,xS,p_⟩;replace st:=st.call xS p_;have JH:=p_.size;replace zr:=zr.aV p_ Cd;replace ex:=ex.aV p_ FD;clear zA xS p_
 go_wp2_with fail
 have zA:=st;replace st:=st.alloc (.cells #[.int .i64 (-10000),.int .i64 10000] 3);replace zr:=zr.alloc (.cells #[.int .i64 (-10000),.int .i64 10000] 3);replace ex:=ex.alloc (.cells #[.int .i64 (-10000),.int .i64 10000] 3);refine (cS g B v n _ [-10000,10000] (HX).heap.size 2 _ st.cur (by omega) rfl (by omega) (by omega) (by have:=zA.size;omega) (be _ _ _)).mono ?_;rintro e HY ⟨y2,rfl,-,xS,p_⟩;replace st:=st.call xS p_;have JI:=p_.size;replace zr:=zr.aV p_ Cd;replace ex:=ex.aV p_ FD;clear zA xS p_;have yY:=ex.c0;have yZ:=ex.c1;have ya:=ex.f0;have yc:=ex.f1;have yd:=ex.size;have FY:=ex.store y1 y2;have Fj:=zr.other Jv (.int .i64 y1) (.int .i64 y2);have st2:=st.store (c:=E) Nd (by omega) Ma (.int .i64 y1) (.int .i64 y2)
 go_upto_region 6 with fail
 clear yY yZ ya yc yd;clear ex zr st;have ex:=FY;have zr:=Fj;have st:=st2;clear FY Fj st2;generalize (HY.setCell ⟨E,0,none⟩ (.int .i64 y1)).setCell ⟨E,1,none⟩ (.int .i64 y2)=w8 at *;have yY:=ex.c0;have yZ:=ex.c1;have ya:=ex.f0;have yc:=ex.f1;have yd:=ex.size
 go_wp2_with fail
 have HG:=fun w=>eI y1 y2 w
 cases hg:M.good y1 y2 <;> simp only [hg] at HG <;> have HG:=xL HG <;> clear hg
 all_goals
  refine (HG.out _).mono ?_;rintro e w9 ⟨rfl,xi⟩;replace st:=st.keep xi;replace zr:=zr.keep xi;clear yY yZ ya yc yd;replace ex:=ex.keep xi;clear xi;have yY:=ex.c0;have yZ:=ex.c1;have ya:=ex.f0;have yc:=ex.f1;have yd:=ex.size;have EB:=zr.c0;have EC:=zr.c1;have ED:=zr.f0;have EE:=zr.f1;have EF:=zr.size;go_wp2
 ·exact bodyPost_ret (v:=.agg #[.int .i64 (-16),.int .i64 16]) (by simp [results,Tryz.results125,go_sem, *]) rfl (⟨-16,16,rfl,(st.store (c:=w.heap.size) (x:=.int .i64 (-16)) (y:=.int .i64 16) (xP _) (by omega) (by omega)).cur.mono (by omega),(st.store (c:=w.heap.size) (x:=.int .i64 (-16)) (y:=.int .i64 16) (xP _) (by omega) (by omega)).gr⟩)
 exact bodyPost_ret (v:=.agg #[.int .i64 y1,.int .i64 y2]) (by simp [results,Tryz.results125,go_sem, *]) rfl (⟨y1,y2,rfl,(st.store (c:=w.heap.size) (x:=.int .i64 y1) (y:=.int .i64 y2) (xP _) (by omega) (by omega)).cur.mono (by omega),(st.store (c:=w.heap.size) (x:=.int .i64 y1) (y:=.int .i64 y2) (xP _) (by omega) (by omega)).gr⟩)
end
section
open Go
namespace Rg
variable {P:Program} {Q:Exit→Act→World→Prop} {md:Region.Mode}
def fill (l:Nat→Bool) (vals:Nat→Value):List Oper→Nat→Act→Act
 | [],_,a=>a
 | o :: os,k,a=>fill l vals os (k+1) (if l k then a.put o.dst (vals k) else a)
def sep (o x:Oper):Bool:=match o.dst with | some d=>x.dst != some d | none=>true
def apart:List Oper→Bool
 | []=>true
 | o :: os=>os.all (sep o) && apart os
theorem ay:(∀ (α:Type) (a:α) (l:List α) (n:Nat),(a :: l).take (n+1)=a :: l.take n)∧(∀ (α:Type) (l:List α),l.take 0=[])∧(∀ (α:Type) (a:α) (l:List α) (n:Nat),(a :: l).drop (n+1)=l.drop n)∧(∀ (α:Type) (l:List α),l.drop 0=l)∧(∀ (α:Type) [Decidable True] (a b:α),(if True then a else b)=a)∧(∀ (α:Type) (l:List α) (i:Nat) (a:α),l.toArray.setIfInBounds i a=(l.set i a).toArray)∧(∀ (α:Type) (x a:α) (l:List α),(x :: l).set 0 a=a :: l)∧(∀ (α:Type) (x a:α) (l:List α) (n:Nat),(x :: l).set (n+1) a=x :: l.set n a)∧∀ n:Nat,0+n=n:=
 ⟨fun _ _ _ _=>List.take_succ_cons,fun _ _=>List.take_zero,fun _ _ _ _=>List.drop_succ_cons,fun _ _=>List.drop_zero,fun _ _ _ _=>if_true ..,fun _ _ _ _=>List.setIfInBounds_toArray ..,fun _ _ _ _=>List.set_cons_zero,fun _ _ _ _ _=>List.set_cons_succ,Nat.zero_add⟩
theorem cI {l l':Nat→Bool} {v v':Nat→Value}:∀ (os:List Oper) (k:Nat) (a:Act),(∀ j,k≤j→j<k+os.length→l j=l' j)→(∀ j,k≤j→l j=true→v j=v' j)→fill l v os k a=fill l' v' os k a
 | [],_,_,_,_=>rfl
 | o :: os,k,a,h1,h2=>by
  unfold fill;rw [←h1 k (xP _) (by simp)]
  cases hl:l k
  ·simp only [Bool.false_eq_true,if_false]
   exact cI os (k+1) a (fun j hj hj2=>h1 j (by omega) (by simp;omega)) (fun j hj=>h2 j (by omega))
  simp only [if_true];rw [h2 k (xP _) hl];exact cI os (k+1) _ (fun j hj hj2=>h1 j (by omega) (by simp;omega)) (fun j hj=>h2 j (by omega))
theorem mP {l:Nat→Bool} {v:Nat→Value} {d:Option Tmp} {u:Value}:∀ (os:List Oper) (k:Nat) (a:Act),(∀ x ∈ os,∀ t,d=some t→x.dst≠some t)→(fill l v os k a).put d u=fill l v os k (a.put d u)
 | [],_,_,_=>rfl
 | o :: os,k,a,h=>by
  unfold fill;rw [mP os (k+1) _ (fun x hx=>h x (List.mem_cons_of_mem _ hx))]
  congr 1
  split
  ·exact (Act.put_comm a u (v k) (h o (List.mem_cons_self ..))).symm
  rfl
theorem gi {l:Nat→Bool} {v:Nat→Value} {u:Value}:∀ (os:List Oper) (k i:Nat) (o:Oper) (a:Act),apart os=true→os[i]?=some o→l (k+i)=false→
  (fill l v os k a).put o.dst u=fill (fun j=>if j=k+i then true else l j) (fun j=>if j=k+i then u else v j) os k a
 | [],_,_,_,_,_,h,_=>by simp at h
 | x :: os,k,0,o,a,ha,h,hl=>by
  simp only [List.getElem?_cons_zero,Option.some.injEq] at h;subst h;rw [apart,Bool.and_eq_true] at ha
  have hs:∀ y ∈ os,∀ t,x.dst=some t→y.dst≠some t:=fun y hy t ht=>by
   have:=List.all_eq_true.1 ha.1 y hy;rw [sep,ht] at this
   simpa using this
  unfold fill;rw [Nat.add_zero] at hl ⊢;rw [mP os (k+1) _ hs,if_neg (by simp [hl])]
  have e:(if (if k=k then true else l k)=true then a.put x.dst (if k=k then u else v k) else a)=a.put x.dst u:=by simp
  show _=fill _ _ os (k+1) (if (if k=k then true else l k)=true then a.put x.dst (if k=k then u else v k) else a)
  rw [e];exact cI os (k+1) _ (fun j hj _=>by rw [if_neg (by omega)]) (fun j hj _=>by rw [if_neg (by omega)])
 | x :: os,k,i+1,o,a,ha,h,hl=>by
  rw [apart,Bool.and_eq_true] at ha;rw [show k+(i+1)=k+1+i from by omega] at hl ⊢;unfold fill;rw [gi os (k+1) i o _ ha.2 (by simpa using h) hl]
  congr 1
  rw [if_neg (show ¬ k=k+1+i by omega),if_neg (show ¬ k=k+1+i by omega)]
theorem sa (a:Act) (d:Option Tmp) (v:Value):(a.put d v).tmps.size=a.tmps.size:=by
 cases d <;> simp [Act.put]
theorem t8 {a:Act} {d:Option Tmp} {v:Value} {t:Nat} (h:d≠some t):(a.put d v).tmps[t]?=a.tmps[t]?:=by
 cases d with
 | none=>rfl
 | some d=>simp only [Act.put];rw [Array.getElem?_setIfInBounds_ne (by intro e;exact h (by rw [e]))]
theorem lR {a:Act} {v:Value} {t:Nat} (h:t<a.tmps.size):(a.put (some t) v).tmps[t]?=some v:=by
 simp [Act.put,h]
theorem eJ {l:Nat→Bool} {v:Nat→Value} {t:Nat}:∀ (os:List Oper) (k:Nat) (a:Act),(∀ i o,os[i]?=some o→l (k+i)=true→o.dst≠some t)→(fill l v os k a).tmps[t]?=a.tmps[t]?
 | [],_,_,_=>rfl
 | o :: os,k,a,h=>by
  unfold fill;rw [eJ os (k+1) _ (fun i x hx hl=>h (i+1) x (by simpa using hx) (by rw [show k+(i+1)=k+1+i from by omega];exact hl))]
  split
  ·rename_i hk
   exact t8 (h 0 o rfl hk)
  rfl
theorem ix {l:Nat→Bool} {v:Nat→Value} {t:Nat}:∀ (os:List Oper) (k i:Nat) (o:Oper) (a:Act),apart os=true→os[i]?=some o→l (k+i)=true→o.dst=some t→t<a.tmps.size→(fill l v os k a).tmps[t]?=some (v (k+i))
 | [],_,_,_,_,_,h,_,_,_=>by simp at h
 | x :: os,k,0,o,a,ha,h,hl,hd,ht=>by
  simp only [List.getElem?_cons_zero,Option.some.injEq] at h;subst h;rw [apart,Bool.and_eq_true] at ha;unfold fill;rw [Nat.add_zero] at hl ⊢
  rw [eJ os (k+1) _ (fun i y hy _=>by
   have:=List.all_eq_true.1 ha.1 y (List.mem_of_getElem? hy);rw [sep,hd] at this
   simpa using this),if_pos hl,hd]
  exact lR ht
 | x :: os,k,i+1,o,a,ha,h,hl,hd,ht=>by
  rw [apart,Bool.and_eq_true] at ha;rw [show k+(i+1)=k+1+i from by omega] at hl ⊢;unfold fill;refine ix os (k+1) i o _ ha.2 (by simpa using h) hl hd ?_
  split
  ·rw [sa];exact ht
  exact ht
def left (l:Nat→Bool):Nat→Nat
 | 0=>0
 | n+1=>left l n+if l n then 0 else 1
theorem kI {l l':Nat→Bool}:∀ n:Nat,(∀ j,j<n→l j=l' j)→left l n=left l' n
 | 0,_=>rfl
 | n+1,h=>by unfold left;rw [kI n (fun j hj=>h j (by omega)),h n (by omega)]
theorem gw {l l':Nat→Bool} {i:Nat} (h0:l i=false) (h1:l' i=true) (h2:∀ j,j≠i→l' j=l j):∀ n:Nat,i<n→left l' n+1=left l n
 | 0,h=>by omega
 | n+1,h=>by
  unfold left
  rcases Nat.lt_or_ge i n with q | q
  ·have:=gw h0 h1 h2 n q
   rw [h2 n (by omega)];omega
  obtain rfl:i=n:=by omega
  rw [kI i (l:=l') (l':=l) (fun j hj=>h2 j (by omega)),h0,h1];simp
theorem fv {l:Nat→Bool}:∀ n:Nat,left l n=0→∀ j,j<n→l j=true
 | 0,_,j,hj=>by omega
 | n+1,h,j,hj=>by
  unfold left at h
  cases hn:l n
  ·rw [hn] at h;simp at h
  rcases Nat.lt_or_ge j n with q | q
  ·exact fv n (by omega) j q
  obtain rfl:j=n:=by omega
  exact hn
def rd (md:Region.Mode) (ops:Array Oper) (a0:Act) (vals:Nat→Value) (o:Oper) (t:Nat):Option Value:=
 match o.after.toList.find? (fun e=>Region.binds md e && ((ops[e.on]?).bind (·.dst)) == some t) with
 | some e=>some (vals e.on)
 | none=>a0.tmps[t]?
def gO (md:Region.Mode) (ops:Array Oper) (i:Nat) (o:Oper) (t:Nat):Bool:=
 o.after.toList.any (fun e=>Region.binds md e && ((ops[e.on]?).bind (·.dst)) == some t) ||
 (List.range ops.size).all fun j=>match ops[j]? with
  | some x=>x.dst != some t || j == i || x.after.toList.any (fun e=>Region.binds md e && e.on == i)
  | none=>true
def tp (md:Region.Mode) (ops:Array Oper):Bool:=(List.range ops.size).all fun i=>match ops[i]? with
 | some o=>(o.looksAt ops).all (gO md ops i o)
 | none=>true
def eP (md:Region.Mode) (ops:Array Oper) (n:Nat):Bool:=
 apart ops.toList && tp md ops && ((List.range ops.size).all fun i=>match ops[i]? with
  | some o=>o.after.toList.all (fun e=>!Region.binds md e || decide (e.on<i)) && (match o.dst with | some d=>decide (d<n) | none=>true)
  | none=>true)
section
variable (P) (Q) (md) (ops:Array Oper) (S:World→Prop) (V:Nat→Value→World→Prop) (a0:Act)
def uh (i:Nat) (o:Oper) (a:Act) (w:World):Prop:=
 if Region.wanted o (yielded ops a.tmps)=true then o.wp P a w (fun a' w'=>∃ v,a'=a.put o.dst v∧V i v w'∧S w'∧∀ j u,V j u w→V j u w') Q else V i undef w
def Req (i:Nat) (o:Oper):Prop:=∀ (a:Act) (w:World) (vals:Nat→Value),S w→(∀ e ∈ o.after,Region.binds md e=true→V e.on (vals e.on) w)→(∀ t ∈ o.looksAt ops,a.tmps[t]?=rd md ops a0 vals o t)→uh P Q ops S V i o a w
def nZ:List Oper→Nat→Prop
 | [],_=>True
 | o :: os,k=>Req P Q md ops S V a0 k o∧nZ os (k+1)
theorem nZ.at {os:List Oper} {k:Nat} (h:nZ P Q md ops S V a0 os k):∀ {i:Nat} {o:Oper},os[i]?=some o→Req P Q md ops S V a0 (k+i) o:=by
 induction os generalizing k with
 | nil=>intro i o hi;simp at hi
 | cons x os ih=>
 intro i o hi
 cases i with
 | zero=>
  simp only [List.getElem?_cons_zero,Option.some.injEq] at hi;subst hi;exact h.1
 | succ i=>
 have:=ih h.2 (i:=i) (o:=o) (by simpa using hi);rw [show k+(i+1)=k+1+i from by omega];exact this
def Inv (L:Array Bool) (a:Act) (w:World):Prop:=
 L.size=ops.size∧S w∧(∀ i o,ops[i]?=some o→L.getD i false=true→∀ e ∈ o.after,Region.binds md e=true→L.getD e.on false=true)∧
 ∃ vals:Nat→Value,a=fill (fun j=>L.getD j false) vals ops.toList 0 a0∧∀ i,i<ops.size→L.getD i false=true→V i (vals i) w
end
theorem tF {ops:Array Oper} {S:World→Prop} {V:Nat→Value→World→Prop} {a0:Act} (hok:eP md ops a0.tmps.size=true)
  (hR:nZ P Q md ops S V a0 ops.toList 0) (hF:∀ (vals:Nat→Value) (w:World),S w→(∀ i,i<ops.size→V i (vals i) w)→Q .normal (fill (fun _=>true) vals ops.toList 0 a0) w) :
  ∀ (fuel:Nat) (L:Array Bool) (a:Act) (w:World),left (fun j=>L.getD j false) ops.size≤fuel→Inv md ops S V a0 L a w→wpAny P md ops Q fuel L a w:=by
 rw [eP,Bool.and_eq_true,Bool.and_eq_true] at hok;obtain ⟨⟨hap,hrd⟩,hac⟩:=hok
 have A9:∀ i o,ops[i]?=some o→(∀ e ∈ o.after,Region.binds md e=true→e.on<i)∧∀ d,o.dst=some d→d<a0.tmps.size:=fun i o hi=>by
  have hlt:i<ops.size:=(Array.getElem?_eq_some_iff.1 hi).1;have:=List.all_eq_true.1 hac i (List.mem_range.2 hlt);rw [hi] at this;simp only [Bool.and_eq_true,List.all_eq_true,Bool.or_eq_true,Bool.not_eq_true',decide_eq_true_eq] at this;refine ⟨fun e he hb=>?_,fun d hd=>?_⟩
  ·rcases this.1 e (Array.mem_toList_iff.2 he) with q | q
   ·rw [hb] at q;cases q
   exact q
  have:=this.2;rw [hd] at this
  simpa using this
 have htl:∀ i,ops.toList[i]?=ops[i]?:=fun i=>Array.getElem?_toList
 have hall:∀ L:Array Bool,L.size=ops.size→Region.ready md ops L=[]→∀ i,i<ops.size→L.getD i false=true:=by
  intro L hL hr i
  induction i using Nat.strongRecOn with
  | ind i ih=>
  intro hi
  cases hl:L.getD i false
  ·exfalso
   have hm:i ∈ Region.ready md ops L:=by
    unfold Region.ready;rw [List.mem_filter];refine ⟨List.mem_range.2 hi,?_⟩
    have hg:L.getD i true=false:=by
     rw [Array.getD_eq_getD_getElem?,Array.getElem?_eq_getElem (by omega)] at hl ⊢;exact hl
    rw [hg,Array.getElem?_eq_getElem hi];simp only [Bool.not_false,Bool.true_and,Option.map_some,Option.getD_some];rw [Array.all_eq_true_iff_forall_mem];intro e he
    cases hb:Region.binds md e
    ·rfl
    have hlt:=(A9 i _ (Array.getElem?_eq_getElem hi)).1 e he hb;simp [ih e.on hlt (by omega)]
   rw [hr] at hm;cases hm
  rfl
 have hfin:∀ (L:Array Bool) (a:Act) (w:World),Inv md ops S V a0 L a w→Region.ready md ops L=[]→Q .normal a w:=by
  rintro L a w ⟨hL,hS,-,vals,rfl,hv⟩ hr;have h:=hall L hL hr;rw [cI (l':=fun _=>true) (v':=vals) ops.toList 0 a0 (fun j _ hj=>h j (by simpa using hj)) (fun _ _ _=>rfl)]
  exact hF vals w hS fun i hi=>hv i hi (h i hi)
 intro fuel
 induction fuel with
 | zero=>
  intro L a w hl hI;have hz:=fv _ (Nat.le_zero.1 hl)
  have hr:Region.ready md ops L=[]:=by
   unfold Region.ready;rw [List.filter_eq_nil_iff];intro i hi;have hi:=List.mem_range.1 hi;have h1:=hz i hi
   have hg:L.getD i true=true:=by
    have hsz:=hI.1;simp only [Array.getD_eq_getD_getElem?] at h1 ⊢;rw [Array.getElem?_eq_getElem (by omega)] at h1 ⊢;exact h1
   rw [hg];simp
  exact ⟨hr,hfin L a w hI hr⟩
 | succ fuel ih=>
 intro L a w hl hI;refine ⟨hfin L a w hI,fun i hi=>?_⟩;obtain ⟨hL,hS,hdc,vals,rfl,hv⟩:=hI;obtain ⟨hun,o,ho,C_⟩:=mem_ready.1 hi;have hilt:i<ops.size:=(Array.getElem?_eq_some_iff.1 ho).1
 have hun':L.getD i false=false:=by
  simp only [Array.getD_eq_getD_getElem?] at hun ⊢;rw [Array.getElem?_eq_getElem (by omega)] at hun ⊢;exact hun
 have hq:=nZ.at P Q md ops S V a0 hR (i:=i) (o:=o) (by rw [htl];exact ho);rw [Nat.zero_add] at hq
 have hst:=hq (fill (fun j=>L.getD j false) vals ops.toList 0 a0) w vals hS
  (fun e he hb=>hv e.on (by have:=(A9 i o ho).1 e he hb;omega) (C_ e he hb))
  (fun t ht=>by
   unfold rd
   have hr1:gO md ops i o t=true:=by
    have:=List.all_eq_true.1 hrd i (List.mem_range.2 hilt);rw [ho] at this;exact List.all_eq_true.1 this t ht
   cases hf:o.after.toList.find? (fun e=>Region.binds md e && ((ops[e.on]?).bind (·.dst)) == some t) with
   | some e=>
    have h1:=List.find?_some hf;have h2:=List.mem_of_find?_eq_some hf;rw [Bool.and_eq_true,beq_iff_eq] at h1;obtain ⟨x,hx,hxd⟩:=Option.bind_eq_some_iff.1 h1.2;have h3:=C_ e (Array.mem_toList_iff.1 h2) h1.1;have:=ix (l:=fun j=>L.getD j false) (v:=vals) ops.toList 0 e.on x a0 hap (by rw [htl];exact hx) (by simpa using h3) hxd ((A9 e.on x hx).2 t hxd);rw [Nat.zero_add] at this;exact this
   | none=>
   refine eJ ops.toList 0 a0 fun j x hx hlj hxd=>?_
   rw [Nat.zero_add] at hlj;rw [htl] at hx;have hjlt:j<ops.size:=(Array.getElem?_eq_some_iff.1 hx).1;rw [gO,Bool.or_eq_true] at hr1
   rcases hr1 with q | q
   ·obtain ⟨e,he,hp⟩:=List.any_eq_true.1 q
    have:=List.find?_eq_none.1 hf e he;exact this hp
   have:=List.all_eq_true.1 q j (List.mem_range.2 hjlt);rw [hx] at this;simp only [Bool.or_eq_true,bne_iff_ne,ne_eq,beq_iff_eq,List.any_eq_true,Bool.and_eq_true] at this
   rcases this with (q1 | q1) | ⟨e,he,hb,hon⟩
   ·exact q1 hxd
   ·subst q1
    rw [hun'] at hlj;cases hlj
   have:=hdc j x hx hlj e (Array.mem_toList_iff.1 he) hb;rw [hon,hun'] at this
   cases this)
 have hnext:∀ (v:Value) (w':World),V i v w'→S w'→(∀ j u,V j u w→V j u w')→wpAny P md ops Q fuel (L.setIfInBounds i true) ((fill (fun j=>L.getD j false) vals ops.toList 0 a0).put o.dst v) w':=by
  intro v w' h1 h2 h3
  have e1:∀ j,(L.setIfInBounds i true).getD j false=if j=i then true else L.getD j false:=fun j=>by
   simp only [Array.getD_eq_getD_getElem?]
   by_cases hji:j=i
   ·subst hji
    rw [Array.getElem?_setIfInBounds_self_of_lt (by omega)];simp
   rw [Array.getElem?_setIfInBounds_ne (fun e=>hji e.symm),if_neg hji]
  refine ih _ _ _ ?_ ⟨by simpa using hL,h2,?_,fun j=>if j=i then v else vals j,?_,?_⟩
  ·have:=gw (l:=fun j=>L.getD j false) (l':=fun j=>(L.setIfInBounds i true).getD j false) hun' (by rw [e1,if_pos rfl]) (fun j hj=>by rw [e1,if_neg hj]) ops.size hilt
   omega
  ·intro j x hx hlj e he hb
   rw [e1] at hlj ⊢
   split
   ·rfl
   split at hlj
   ·rename_i hji
    subst hji;rw [ho] at hx;cases hx
    exact C_ e he hb
   exact hdc j x hx hlj e he hb
  ·rw [gi ops.toList 0 i o a0 hap (by rw [htl];exact ho) (by simpa using hun')]
   rw [Nat.zero_add];exact cI _ _ _ (fun j _ _=>(e1 j).symm) (fun _ _ _=>rfl)
  intro j hj hlj;rw [e1] at hlj
  show V j (if j=i then v else vals j) w'
  split
  ·rename_i hji
   rw [hji];exact h1
  rename_i hji
  rw [if_neg hji] at hlj;exact h3 _ _ (hv j hj hlj)
 unfold wpOp;rw [ho];unfold uh at hst
 dsimp only
 split at hst
 ·rename_i hw
  rw [if_pos hw];refine Or.inl (Oper.wp_mono ?_ hst);rintro a' w' ⟨v,rfl,h1,h2,h3⟩;exact hnext v w' h1 h2 h3
 rename_i hw
 rw [if_neg hw]
 exact hnext undef w hst hS fun _ _ h=>h
theorem region {id:Nat} {ops:Array Oper} {a0:Act} {w:World} (S:World→Prop) (V:Nat→Value→World→Prop) (hm:P.follows .mixedOrders=true) (hok:eP .any ops a0.tmps.size=true)
  (hS:S { w with drawn:=w.drawn+1 }) (hR:nZ P Q .any ops S V a0 ops.toList 0)
  (hF:∀ (vals:Nat→Value) (w:World),S w→(∀ i,i<ops.size→V i (vals i) w)→Q .normal (fill (fun _=>true) vals ops.toList 0 a0) w):(Code.region id ops true).wp P Q a0 w:=by
 have rep:∀ j,(Array.replicate ops.size false).getD j false=false:=fun j=>by
  rw [Array.getD_eq_getD_getElem?,Array.getElem?_replicate]
  split <;> rfl
 refine wp_region_any hm (tF hok hR hF _ _ _ _ ?_ ⟨by simp,hS,?_,fun _=>undef,?_,?_⟩)
 ·have:∀ (l:Nat→Bool) n,left l n≤n:=fun l n=>by
   induction n with
   | zero=>exact xP _
   | succ n ih=>unfold left;split <;> omega
  exact this _ _
 ·intro i o hi hl
  rw [rep] at hl;cases hl
 ·have:∀ (v:Nat→Value) (os:List Oper) (k:Nat) (a:Act),fill (fun _=>false) v os k a=a:=fun v os=>by
   induction os with
   | nil=>intro k a;rfl
   | cons x os ih=>intro k a;unfold fill;simp [ih]
  refine (this _ ops.toList 0 a0).symm.trans (cI _ _ _ (fun j _ hj=>(rep j).symm) (fun _ _ _=>rfl))
 intro i hi hl;rw [rep] at hl;cases hl
end Rg
end
section
open Go Go.RowKit
namespace Rg
inductive Val where
 | is (v:Value)
 | lit (xs:List Int)
 | num (p:Int→Prop)
 | such (p:Value→Prop)
 | at (p:Value→World→Prop)
 | new (B:Nat) (T:TypeId) (xs:Array Value)
def wA (v:Value) (xs:List Int) (w:World):Prop:=∃ b,v=.slice (some ⟨b,0,none⟩) xs.length xs.length∧b<w.heap.size∧∀ (j:Nat) (x:Int),xs[j]?=some x→w.cell? ⟨b,j,none⟩=some (.int .i64 x)
def Val.ok:Val→Value→World→Prop
 | .is x,v,_=>v=x
 | .lit xs,v,w=>wA v xs w
 | .num p,v,_=>∃ x,v=.int .i64 x∧p x
 | .such p,v,_=>p v
 | .at p,v,w=>∀ w',Below w.heap.size w w'→p v w'
 | .new B T xs,v,w=>∃ g,B≤g∧v=.pointer (some ⟨g,0,none⟩)∧w.heap[g]?=some (.cells xs T (0,0))
theorem Val.keep {w w':World} (hb:Below w.heap.size w w'):∀ (T:Val) (v:Value),T.ok v w→T.ok v w'
 | .is _,_,h=>h
 | .lit xs,_,⟨b,h1,h2,h3⟩=>⟨b,h1,Nat.lt_of_lt_of_le h2 hb.size,fun j x hx=>(hb.cell (p:=⟨b,j,none⟩) h2).trans (h3 j x hx)⟩
 | .num _,_,h=>h
 | .such _,_,h=>h
 | .at _,_,h=>fun w'' h2=>h w'' (d_ hb h2)
 | .new _ _ _,_,⟨g,hB,e,h⟩=>⟨g,hB,e,(hb.block g (Array.getElem?_eq_some_iff.1 h).1).trans h⟩
def zT (T:List Val) (i:Nat):Val:=T.getD i (.is undef)
variable {P:Program} {Q:Exit→Act→World→Prop}
def pl (ops:Array Oper) (a0:Act) (T:List Val) (o:Oper) (a:Act) (w:World) (t:Nat):Prop:=
 match o.after.toList.find? (fun e=>Region.binds .any e && ((ops[e.on]?).bind (·.dst)) == some t) with
 | some e=>∃ v,a.tmps[t]?=some v∧(zT T e.on).ok v w
 | none=>a.tmps[t]?=a0.tmps[t]?
def Does (P:Program) (ops:Array Oper) (Q:Exit→Act→World→Prop) (V:Val) (o:Oper) (a:Act) (w:World):Prop:=
 if Region.wanted o (yielded ops a.tmps)=true then o.wp P a w (fun a' w'=>∃ v,a'=a.put o.dst v∧V.ok v w'∧Below w.heap.size w w') Q else V.ok undef w
theorem ev {a:Act} {t:Nat} {v:Value} (h:a.tmps[t]?=some v):a.eval (.tmp t)=v:=by
 show a.tmps.getD t undef=v
 rw [Array.getD_eq_getD_getElem?,h];rfl
theorem c_ {a:Act} {t:Nat} {x:Value} {w:World} (h:∃ v,a.tmps[t]?=some v∧(Val.is x).ok v w):a.tmps[t]?=some x:=by
 obtain ⟨v,h1,rfl⟩:=h;exact h1
theorem aG {ops:Array Oper} {o:Oper} {a:Act} {w:World} {x:Value} (hw:Region.wanted o (yielded ops a.tmps)=true) (h:(execOp a.eval o).run P w=.ok (.value x) w):Does P ops Q (.is x) o a w:=by
 unfold Does;rw [if_pos hw];unfold Oper.wp;rw [h];exact ⟨x,rfl,rfl,xO _ _⟩
theorem bs {ops:Array Oper} {o:Oper} {a:Act} {w:World} (hw:Region.wanted o (yielded ops a.tmps)=false):Does P ops Q (.is undef) o a w:=by
 unfold Does;rw [if_neg (by rw [hw];exact Bool.false_ne_true)];exact rfl
theorem yI {ops:Array Oper} {a:Act} {j t:Nat} {b:Bool} (h1:(ops[j]?).bind (·.dst)=some t) (h2:a.tmps[t]?=some (.bool b)):yielded ops a.tmps j=some b:=by
 unfold yielded;rw [h1]
 show (match a.tmps[t]? with | some (.bool b)=>some b | _=>none)=some b
 rw [h2]
theorem ag {o:Oper} {y:Nat→Option Bool} {j:Nat} {b:Bool} (hg:o.guard=some (j,b)) (hy:y j=some b):Region.wanted o y=true:=by
 unfold Region.wanted;rw [hg]
 show (y j == some b)=true
 rw [hy]
 cases b <;> rfl
theorem bF {o:Oper} {y:Nat→Option Bool} {j:Nat} {b:Bool} (hg:o.guard=some (j,!b)) (hy:y j=some b):Region.wanted o y=false:=by
 unfold Region.wanted;rw [hg]
 show (y j == some (!b))=false
 rw [hy]
 cases b <;> rfl
theorem wr {x:Int} (h1:-9223372036854775808≤x) (h2:x≤9223372036854775807):IntKind.i64.wrap x=x:=by rw [IntKind.wrap_i64];omega
theorem ju {ops:Array Oper} {o:Oper} {a:Act} {w:World} {x:Value} {V:Val} {ob:Obj} (hw:Region.wanted o (yielded ops a.tmps)=true) (h:(execOp a.eval o).run P w=.ok (.value x) (w.alloc ob)) (hV:V.ok x (w.alloc ob)):Does P ops Q V o a w:=by
 unfold Does;rw [if_pos hw];unfold Oper.wp;rw [h];exact ⟨x,rfl,hV,(xO _ _).alloc (xP _) ob⟩
theorem ae {ops:Array Oper} {o:Oper} {a:Act} {w:World} {V:Val} {f:FuncId} {args:Array Value} (hw:Region.wanted o (yielded ops a.tmps)=true) (h:(execOp a.eval o).run P w=.ok (.enter f args) w)
  (hc:Calls P f args w fun e w'=>∃ v,e=.returned v∧V.ok v w'∧Below w.heap.size w w'):Does P ops Q V o a w:=by
 unfold Does;rw [if_pos hw];unfold Oper.wp;rw [h];refine Calls.mono hc ?_;rintro e w' ⟨v,rfl,h1,h2⟩;exact ⟨v,rfl,h1,h2⟩
theorem bX {ops:Array Oper} {o:Oper} {a:Act} {w:World} {v:Value} {f:FuncId} {args:Array Value} (hw:Region.wanted o (yielded ops a.tmps)=true) (h:(execOp a.eval o).run P w=.ok (.enter f args) w)
  (hc:Calls P f args w fun e w'=>e=.returned v∧Below w.heap.size w w'):Does P ops Q (.is v) o a w:=
 ae hw h (hc.mono fun _ _ ⟨e,b⟩=>⟨v,e,rfl,b⟩)
theorem ef (a:Act):∀ f,a.eval (.func f)=.func (.func f) #[] #[]:=fun _=>rfl
theorem ec (a:Act):∀ v,a.eval (.const v)=v:=fun _=>rfl
theorem wo {x:Int} (h:-9223372036854775808≤x∧x≤9223372036854775807):IntKind.i64.wrap x=x:=wr h.1 h.2
end Rg
end
end Go.Proofs.YtggekfbfechonaaGreat
