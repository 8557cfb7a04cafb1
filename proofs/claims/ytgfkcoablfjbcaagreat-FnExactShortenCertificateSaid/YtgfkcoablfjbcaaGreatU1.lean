/-
  Joined texts: contracts and plain lemmas.
-/
import Derived.Lib.Hide
import Derived.WalkKit
import Derived.Test.YtgfkcoablfjbcaaGreatProg
import Derived.KernelRfl
import Derived.Deep.QuietTactic
import Derived.BigQuiet
import Derived.Deep.RegionHeld3
import Derived.Laws.OwnMore
import Derived.Maps.AppendAt
import Derived.OwnWalk
import Derived.RegionTactic
import Derived.Deep.DeepCutAuto
import Derived.Deep.RegionWith
import Derived.Outline
import Derived.Lib.SliceRun
import Derived.Shelf.Abstract
import Derived.Laws.Bits64b
set_option linter.unusedSimpArgs false
set_option linter.unusedVariables false
set_option maxRecDepth 100000
set_option maxHeartbeats 8000000
namespace Go.Proofs.YtgfkcoablfjbcaaGreat
section
theorem yI {p : Prop} (h : p) : RowKit.Hid p := Lib.hid h
theorem yJ (w : World) (o : Obj) : (w.alloc o).heap.size = w.heap.size + 1 := World.size_alloc w o
theorem yK {B : Nat} {a w : World} (h : RowKit.Below B a w) {p : Addr} (hp : B ≤ p.block) (u : Value) : RowKit.Below B a (w.setCell p u) := RowKit.Below.setCell h hp u
theorem yL (B : Nat) (w : World) : RowKit.Below B w w := RowKit.Below.refl B w
theorem yM (n : Nat) : n ≤ n := Nat.le_refl n
theorem f_ {a b c : World} (h : RowKit.Below a.heap.size a b) (k : RowKit.Below b.heap.size b c) : RowKit.Below a.heap.size a c := h.trans (k.mono h.size)
namespace M
def Ct (a:Int):Prop:=-9223372036854775808≤a∧a≤9223372036854775807
def pick (ok:Bool) (x:Int):Int:=if ok then x else 0
theorem ek (x:Int):pick true x=x:=rfl
theorem f8 (x:Int):pick false x=0:=rfl
def ins (n lo hi:Int):Bool:=decide (lo≤n∧n≤hi)
theorem qN {n lo hi:Int}:ins n lo hi=true ↔ lo≤n∧n≤hi:=by simp [ins]
theorem fY {n lo hi:Int} (h:ins n lo hi=true):lo≤n∧n≤hi:=qN.1 h
theorem aK {x y m n:Int} (h1:-m≤x) (h2:x≤m) (h3:-n≤y) (h4:y≤n):-(m*n)≤x*y∧x*y≤m*n:=by
 have a1:0≤(m - x)*(n - y):=Int.mul_nonneg (by omega) (by omega);have a2:0≤(m+x)*(n+y):=Int.mul_nonneg (by omega) (by omega);have a3:0≤(m - x)*(n+y):=Int.mul_nonneg (by omega) (by omega);have a4:0≤(m+x)*(n - y):=Int.mul_nonneg (by omega) (by omega);simp only [Int.sub_mul,Int.mul_sub,Int.add_mul,Int.mul_add] at a1 a2 a3 a4
 constructor <;> omega
theorem mP {x y m n:Int} (h1:0≤x) (h2:x≤m) (h3:0≤y) (h4:y≤n):0≤x*y∧x*y≤m*n:=
 ⟨Int.mul_nonneg h1 h3,(aK (m:=m) (n:=n) (by omega) h2 (by omega) h4).2⟩
def gP (n:Int):Prop:=2≤n∧∀ d:Int,2≤d→d*d≤n→¬ n % d=0
open Classical in
noncomputable def prime (n:Int):Bool:=decide (gP n)
theorem rb {n:Int}:prime n=true ↔ gP n:=by simp [prime]
theorem rf {n:Int}:prime n=false ↔ ¬ gP n:=by simp [prime]
theorem yE {k m:Int} (hm:0≤m) (h:k*k<m*m):k<m:=by
 rcases Int.lt_or_le k m with q | q
 ·exact q
 have:m*m≤k*k:=Int.mul_le_mul q q (by omega) (by omega);omega
def sR (n r:Int):Prop:=0≤r∧r*r≤n∧n<(r+1)*(r+1)
theorem sR.uniq {n r s:Int} (h:sR n r) (k:sR n s):r=s:=by
 obtain ⟨a,b,c⟩:=h;obtain ⟨d,e,f⟩:=k
 rcases Int.lt_trichotomy r s with q | q | q
 ·have:(r+1)*(r+1)≤s*s:=Int.mul_le_mul (by omega) (by omega) (by omega) (by omega)
  omega
 ·exact q
 have:(s+1)*(s+1)≤r*r:=Int.mul_le_mul (by omega) (by omega) (by omega) (by omega);omega
theorem qa (n:Nat):∃ r:Nat,r*r≤n∧n<(r+1)*(r+1):=by
 induction n with
 | zero=>exact ⟨0,by omega,by omega⟩
 | succ n ih=>
 obtain ⟨r,h1,h2⟩:=ih
 rcases Nat.lt_or_ge (n+1) ((r+1)*(r+1)) with q | q
 ·exact ⟨r,by omega,q⟩
 refine ⟨r+1,q,?_⟩
 have:(r+1+1)*(r+1+1)=(r+1)*(r+1)+2*r+3:=by simp only [Nat.add_mul,Nat.mul_add];omega
 omega
open Classical in
noncomputable def root (n:Int):Int:=if h:0≤n then ((qa n.toNat).choose:Int) else 0
theorem ij {n:Int} (h:0≤n):sR n (root n):=by
 obtain ⟨a,b⟩:=(qa n.toNat).choose_spec;unfold root;rw [dif_pos h];refine ⟨by omega,?_,?_⟩
 ·have:=Int.ofNat_le.2 a;push_cast at this;omega
 have:=Int.ofNat_lt.2 b;push_cast at this;omega
theorem jV {n r:Int} (h:sR n r):r=root n:=by
 have:0≤r*r:=Int.mul_nonneg h.1 h.1;exact h.uniq (ij (by have:=h.2.1;omega))
def val (a b x:Int):Int:=x*x*x+a*x+b
def bC (a b:Int):Int:=4*a*a*a+27*b*b
def bD (a b:Int):Bool:=ins a (-1000) 1000 && ins b (-10000) 10000
def good (a b:Int):Bool:=bD a b && (bC a b != 0)
theorem am {a b:Int} (h:bD a b=true):-1000≤a∧a≤1000∧-10000≤b∧b≤10000:=by
 simp only [bD,Bool.and_eq_true,qN] at h;omega
theorem bK {a b:Int} (h:good a b=true):bD a b=true:=by
 simp only [good,Bool.and_eq_true] at h;exact h.1
def upto (lo:Int) (k:Nat):List Int:=(List.range k).map fun i:Nat=>lo+(i:Int)
theorem sI (lo:Int) (k:Nat):upto lo (k+1)=upto lo k ++ [lo+(k:Int)]:=by
 simp [upto,List.range_succ]
def sel (p:Int→Bool) (lo:Int) (k:Nat):List Int:=(upto lo k).filter p
theorem xG {p:Int→Bool} {lo:Int} {k:Nat} (h:p (lo+k)=false):sel p lo (k+1)=sel p lo k:=by
 simp [sel,sI,h]
theorem tv {a p:Int} (hp:1≤p):0≤a % p∧a % p<p:=⟨Int.emod_nonneg _ (by omega),Int.emod_lt_of_pos _ (by omega)⟩
def rhs (a b p x:Int):Int:=val a b x % p
def gcd (a b:Int):Int:=Int.gcd a b
theorem kB (a b:Int):Int.gcd b (a.tmod b)=Int.gcd a b:=by
 rw [Int.gcd_comm a b];simp only [Int.gcd,Int.natAbs_tmod];exact (Nat.gcd_rec b.natAbs a.natAbs ▸ Nat.gcd_comm _ _)
end M
namespace Wh
def val:List Int→Int
 | []=>0
 | x :: l=>x+10000*val l
def d_ (n:Nat):List Int:=if h:n=0 then [] else ((n % 10000:Nat):Int) :: d_ (n / 10000)
termination_by n
decreasing_by exact Nat.div_lt_self (Nat.pos_of_ne_zero h) (by decide)
def lim (x:Int):Prop:=0≤x∧x<10000
def bO (l:List Int):Prop:=∀ x ∈ l,lim x
theorem ck:d_ 0=[]:=by rw [d_];rfl
theorem gH {n:Nat} (h:n≠0):d_ n=((n % 10000:Nat):Int) :: d_ (n / 10000):=by rw [d_,dif_neg h]
theorem bP (n:Nat):val (d_ n)=n:=by
 induction n using Nat.strongRecOn with
 | ind n ih=>
 by_cases h:n=0
 ·subst h;rw [ck];rfl
 rw [gH h]
 show ((n % 10000:Nat):Int)+10000*val (d_ (n / 10000))=n
 rw [ih _ (Nat.div_lt_self (Nat.pos_of_ne_zero h) (by decide))];omega
theorem an (n:Nat):bO (d_ n):=by
 induction n using Nat.strongRecOn with
 | ind n ih=>
 by_cases h:n=0
 ·subst h;rw [ck];intro x hx;cases hx
 rw [gH h];intro x hx
 rcases List.mem_cons.1 hx with rfl | hx
 ·unfold lim;omega
 exact ih _ (Nat.div_lt_self (Nat.pos_of_ne_zero h) (by decide)) x hx
theorem gG {n:Nat}:d_ n=[] ↔ n=0:=by
 constructor
 ·intro h
  by_cases h0:n=0
  ·exact h0
  rw [gH h0] at h;cases h
 rintro rfl;exact ck
theorem nP {x v:Nat} (hx:x<10000) (h:x≠0∨v≠0):d_ (x+10000*v)=(x:Int) :: d_ v:=by
 rw [gH (by omega),show (x+10000*v) % 10000=x by omega,show (x+10000*v) / 10000=v by omega]
def trim:List Int→List Int
 | []=>[]
 | x :: l=>match trim l with
  | []=>if x=0 then [] else [x]
  | y :: t=>x :: y :: t
theorem dC:∀ {l:List Int},bO l→0≤val l
 | [],_=>Int.le_refl _
 | x :: l,h=>by
  have h1:=dC (l:=l) fun y hy=>h y (List.mem_cons_of_mem _ hy)
  have h2:=(h x List.mem_cons_self).1
  show 0≤x+10000*val l
  omega
theorem jW:∀ {l:List Int},bO l→trim l=d_ (val l).toNat
 | [],_=>by show []=d_ (0:Int).toNat;rw [show (0:Int).toNat=0 from rfl,ck]
 | x :: l,h=>by
  have hl:bO l:=fun y hy=>h y (List.mem_cons_of_mem _ hy)
  have ih:=jW hl;have hx:=h x List.mem_cons_self;have hv:=dC hl
  obtain ⟨v,hv'⟩:∃ v:Nat,val l=v:=⟨(val l).toNat,by omega⟩
  obtain ⟨y,rfl⟩:∃ y:Nat,x=y:=⟨x.toNat,by have:=hx.1;omega⟩
  rw [hv',Int.toNat_natCast] at ih
  have hy:y<10000:=by have:=hx.2;omega
  show (match trim l with
   | []=>if (y:Int)=0 then [] else [(y:Int)]
   | z :: t=>(y:Int) :: z :: t)=d_ ((y:Int)+10000*val l).toNat
  rw [ih,hv',show ((y:Int)+10000*(v:Int)).toNat=y+10000*v by omega]
  by_cases h0:v=0
  ·subst h0
   rw [ck]
   by_cases hy0:y=0
   ·subst hy0
    rw [Nat.mul_zero,ck];rfl
   rw [nP hy (Or.inl hy0),ck,if_neg (by omega)]
  rw [nP hy (Or.inr h0),gH h0]
theorem ir:∀ l:List Int,trim (l ++ [0])=trim l
 | []=>rfl
 | x :: l=>by
  show (match trim (l ++ [0]) with
   | []=>if x=0 then [] else [x]
   | z :: t=>x :: z :: t)=_
  rw [ir l];rfl
theorem lZ:∀ (l:List Int) {x:Int},x≠0→trim (l ++ [x])=l ++ [x]
 | [],x,h=>by show (if x=0 then [] else [x])=_;rw [if_neg h];rfl
 | y :: l,x,h=>by
  show (match trim (l ++ [x]) with
   | []=>if y=0 then [] else [y]
   | z :: t=>y :: z :: t)=_
  rw [lZ l h]
  cases l <;> rfl
theorem tF (n:Nat):trim (d_ n)=d_ n:=by rw [jW (an n),bP,Int.toNat_natCast]
theorem fW:∀ a b:List Int,val (a ++ b)=val a+10000 ^ a.length*val b
 | [],b=>by show val b=0+10000 ^ 0*val b;rw [Int.pow_zero];omega
 | x :: a,b=>by
  show x+10000*val (a ++ b)=x+10000*val a+10000 ^ (a.length+1)*val b
  rw [fW a b,Int.pow_succ]
  grind
theorem pow_pos (n:Nat):(0:Int)<10000 ^ n:=Int.pow_pos (by decide)
theorem eo:∀ {l:List Int},bO l→val l<10000 ^ l.length
 | [],_=>by show (0:Int)<10000 ^ 0;rw [Int.pow_zero];decide
 | x :: l,h=>by
  have h1:=eo (l:=l) fun y hy=>h y (List.mem_cons_of_mem _ hy)
  have h2:=(h x List.mem_cons_self).2
  show x+10000*val l<10000 ^ (l.length+1)
  rw [Int.pow_succ];omega
theorem cR {a b:List Int} (h:bO a) (h':bO b):bO (a ++ b):=fun x hx=>by
 rcases List.mem_append.1 hx with q | q
 ·exact h x q
 exact h' x q
theorem fE {a:List Int} (h:bO a) (k:Nat):bO (a.take k):=fun x hx=>h x (List.mem_of_mem_take hx)
theorem iW {a:List Int} (h:bO a) (k:Nat):bO (a.drop k):=fun x hx=>h x (List.mem_of_mem_drop hx)
theorem cH {l:List Int} {k:Nat} {x:Int} (hx:l[k]?=some x):val (l.take (k+1))=val (l.take k)+10000 ^ k*x:=by
 have hk:=(List.getElem?_eq_some_iff.1 hx).1;rw [List.take_add_one,hx,fW,List.length_take,Nat.min_eq_left (Nat.le_of_lt hk)]
 show _+_*(x+10000*0)=_
 grind
theorem kd {l:List Int} {k:Nat} {x:Int} (hx:l[k]?=some x):val (l.drop k)=x+10000*val (l.drop (k+1)):=by
 obtain ⟨h1,rfl⟩:=List.getElem?_eq_some_iff.1 hx;rw [List.drop_eq_getElem_cons h1];rfl
theorem dN {n k:Nat} (h:n<10000 ^ k):(d_ n).length≤k:=by
 induction k generalizing n with
 | zero=>rw [Nat.pow_zero] at h;rw [show n=0 by omega,ck];exact yM _
 | succ k ih=>
 by_cases h0:n=0
 ·subst h0;rw [ck];exact Nat.zero_le _
 rw [gH h0,List.length_cons]
 have:n / 10000<10000 ^ k:=by
  rw [Nat.pow_succ] at h;exact Nat.div_lt_of_lt_mul (by rwa [Nat.mul_comm])
 have:=ih this;omega
def nth (l:List Int) (i:Nat):Int:=(l[i]?).getD 0
theorem cw {l:List Int} {i:Nat} {x:Int} (h:l[i]?=some x):nth l i=x:=by unfold nth;rw [h];rfl
theorem cr {l:List Int} {i:Nat} (h:l.length≤i):nth l i=0:=by unfold nth;rw [List.getElem?_eq_none h];rfl
theorem cE (l:List Int) (k:Nat):val (l.take (k+1))=val (l.take k)+10000 ^ k*nth l k:=by
 by_cases h:k<l.length
 ·have hx:l[k]?=some l[k]:=List.getElem?_eq_getElem h
  rw [cH hx,cw hx]
 rw [cr (by omega),List.take_of_length_le (by omega),List.take_of_length_le (by omega)]
 grind
theorem jP {l:List Int} (h:bO l) (i:Nat):lim (nth l i):=by
 unfold nth
 cases hx:l[i]? with
 | none=>exact ⟨Int.le_refl _,by decide⟩
 | some x=>exact h x (List.mem_of_getElem? hx)
end Wh
namespace Wh
structure fH (a b:List Int) (s:Int) (i:Nat) (o:List Int) (c:Int):Prop where
 eq:val o+10000 ^ i*c=val (a.take i)+s*val (b.take i)
 len:o.length=i
 ls:bO o
 c1:s=1→0≤c∧c≤1
 c2:s=-1→-1≤c∧c≤0
theorem fH.start (a b:List Int) (s:Int):fH a b s 0 [] 0 where
 eq:=by simp [val]
 len:=rfl
 ls:=fun x hx=>by cases hx
 c1:=fun _=>by omega
 c2:=fun _=>by omega
theorem oo (o:List Int) (x:Int):val (o ++ [x])=val o+10000 ^ o.length*x:=by
 rw [fW]
 show _+_*(x+10000*0)=_
 grind
theorem fH.step {a b o:List Int} {s c:Int} {i:Nat} (h:fH a b s i o c) {x c':Int} (hx:lim x) (he:x+10000*c'=nth a i+s*nth b i+c) (h1:s=1→0≤c'∧c'≤1) (h2:s=-1→-1≤c'∧c'≤0):fH a b s (i+1) (o ++ [x]) c' where
 eq:=by
  rw [oo,h.len,cE,cE,Int.pow_succ];have:=h.eq
  grind
 len:=by rw [List.length_append,h.len];rfl
 ls:=cR h.ls fun y hy=>by rw [List.mem_singleton] at hy;subst hy;exact hx
 c1:=h1
 c2:=h2
theorem fH.rng {a b o:List Int} {s c:Int} {i:Nat} (h:fH a b s i o c) (hs:s=1∨s=-1) (ha:bO a) (hb:bO b):-10000≤nth a i+s*nth b i+c∧nth a i+s*nth b i+c≤19999∧(s=1→0≤nth a i+s*nth b i+c)∧(s=-1→nth a i+s*nth b i+c≤9999)∧-1≤c∧c≤1:=by
 have h1:=jP ha i;have h2:=jP hb i;unfold lim at h1 h2
 rcases hs with rfl | rfl
 ·have:=h.c1 rfl
  refine ⟨?_,?_,fun _=>?_,fun h=>absurd h (by decide),?_,?_⟩ <;> omega
 have:=h.c2 rfl;refine ⟨?_,?_,fun h=>absurd h (by decide),fun _=>?_,?_,?_⟩ <;> omega
theorem fH.all {a b o:List Int} {s c:Int} {i:Nat} (h:fH a b s i o c) (ha:a.length≤i) (hb:b.length≤i):val o+10000 ^ i*c=val a+s*val b:=by
 have:=h.eq
 rwa [List.take_of_length_le ha,List.take_of_length_le hb] at this
theorem fH.fin {a b o:List Int} {s c:Int} {i:Nat} (h:fH a b s i o c) (hs:s=1∨s=-1) (ha:a.length≤i) (hb:b.length≤i) (h0:0≤val a+s*val b) (h1:val a+s*val b<10000 ^ i):c=0∧val o=val a+s*val b:=by
 have e:=h.all ha hb;have o1:=dC h.ls;have o2:=eo h.ls;rw [h.len] at o2;have hp:=pow_pos i
 have hc:-1≤c∧c≤1:=by
  rcases hs with rfl | rfl
  ·have:=h.c1 rfl;omega
  have:=h.c2 rfl;omega
 have:c=0:=by
  have hc':c=-1∨c=0∨c=1:=by omega
  rcases hc' with rfl | rfl | rfl
  ·rw [show (10000:Int) ^ i*-1=-(10000 ^ i) by grind] at e;omega
  ·rfl
  rw [Int.mul_one] at e;omega
 subst this;refine ⟨rfl,?_⟩;rw [Int.mul_zero] at e;omega
theorem fH.carry {a b o:List Int} {s c:Int} {i:Nat} (h:fH a b s i o c) (hs:s=1∨s=-1) (ha:a.length≤i) (hb:b.length≤i) (h0:0≤val a+s*val b) (hc:c≠0):c=1:=by
 have e:=h.all ha hb;have o2:=eo h.ls;rw [h.len] at o2
 have hc':c=-1∨c=1:=by
  rcases hs with rfl | rfl
  ·have:=h.c1 rfl;omega
  have:=h.c2 rfl;omega
 rcases hc' with rfl | rfl
 ·rw [show (10000:Int) ^ i*-1=-(10000 ^ i) by grind] at e;omega
 rfl
theorem ig {m n:Nat} (h:m≤n):(10000:Int) ^ m≤10000 ^ n:=by
 obtain ⟨k,rfl⟩:=Nat.le.dest h;rw [Int.pow_add];have h1:=pow_pos m;have h2:=pow_pos k;have:=Int.mul_le_mul_of_nonneg_left (show (1:Int)≤10000 ^ k by omega) (Int.le_of_lt h1);omega
theorem sum_lt {a b:List Int} {s:Int} (hs:s=1∨s=-1) (ha:bO a) (hb:bO b) {n:Nat} (h1:a.length≤n) (h2:b.length≤n):val a+s*val b<10000 ^ (n+1):=by
 have a2:=eo ha;have b1:=dC hb;have b2:=eo hb;have p1:=ig h1;have p2:=ig h2;have p:=pow_pos n;rw [Int.pow_succ]
 rcases hs with rfl | rfl <;> omega
structure MInv (o0 o:List Int) (x:Int) (b:List Int) (i k:Nat) (c:Int):Prop where
 len:o.length=o0.length
 eq:val (o.take k)+10000 ^ k*c=val (o0.take k)+10000 ^ i*(x*val (b.take (k - i)))
 rest:o.drop k=o0.drop k
 ls:bO (o.take k)
 c0:0≤c∧c≤9999
theorem MInv.start {o0:List Int} (h:bO o0) (x:Int) (b:List Int) (i:Nat):MInv o0 o0 x b i i 0 where
 len:=rfl
 eq:=by rw [Nat.sub_self];simp [val]
 rest:=rfl
 ls:=fE h i
 c0:=by omega
theorem mO {x y:Int} (hx:lim x) (hy:lim y):0≤x*y∧x*y≤99980001:=by
 have h1:=Int.mul_nonneg hx.1 hy.1;have h2:x*y≤9999*y:=Int.mul_le_mul_of_nonneg_right (by have:=hx.2;omega) hy.1;have:=hy.2;omega
theorem MInv.step {o0 o b:List Int} {x c t:Int} {i k:Nat} (h:MInv o0 o x b i k c) (ho:bO o0) (hx:lim x) (hb:bO b) (hik:i≤k) (ht:o0[k]?=some t) {y:Int} (hy:y=t+c+x*nth b (k - i)):(0≤y∧y≤99999999)∧MInv o0 (o.set k (y % 10000)) x b i (k+1) (y / 10000):=by
 have hk:=(List.getElem?_eq_some_iff.1 ht).1;have htl:lim t:=ho t (List.mem_of_getElem? ht);have hm:=mO hx (jP hb (k - i));have hc:=h.c0;unfold lim at htl
 have hyr:0≤y∧y≤99999999:=by omega
 have htk:(o.set k (y % 10000)).take k=o.take k:=by
  rw [List.take_set,List.set_eq_of_length_le (by rw [List.length_take];omega)]
 have hsk:(o.set k (y % 10000))[k]?=some (y % 10000):=by
  rw [List.getElem?_set_self (by rw [h.len];exact hk)]
 refine ⟨hyr,⟨by rw [List.length_set,h.len],?_,?_,?_,by omega⟩⟩
 ·rw [cH hsk,htk,cH ht,show k+1 - i=(k - i)+1 by omega,cE,Int.pow_succ]
  have e:=h.eq
  have hp:(10000:Int) ^ i*10000 ^ (k - i)=10000 ^ k:=by rw [←Int.pow_add,show i+(k - i)=k by omega]
  have hd:10000*(y / 10000)+y % 10000=y:=Int.mul_ediv_add_emod y 10000;subst hy;rw [←hp] at e ⊢;generalize (10000:Int) ^ i=P at *;generalize (10000:Int) ^ (k - i)=Q at *;generalize nth b (k - i)=n3,val (b.take (k - i))=v3,val (o0.take k)=v2,val (o.take k)=v1,(t+c+x*nth b (k - i)) % 10000=r,(t+c+x*nth b (k - i)) / 10000=q at *
  grind
 ·rw [List.drop_set_of_lt (Nat.lt_succ_self k)]
  have:=congrArg (List.drop 1) h.rest
  rwa [List.drop_drop,List.drop_drop] at this
 rw [List.take_add_one,hsk,htk]
 refine cR h.ls fun z hz=>?_
 simp only [Option.toList_some,List.mem_singleton] at hz;subst hz;unfold lim;omega
theorem MInv.bO {o0 o b:List Int} {x c:Int} {i k:Nat} (h:MInv o0 o x b i k c) (ho:bO o0):bO o:=by
 rw [←List.take_append_drop k o,h.rest];exact cR h.ls (iW ho k)
theorem MInv.fin {o0 o b:List Int} {x c:Int} {i n:Nat} (h:MInv o0 o x b i n c) (hn:o0.length=n) (hb:b.length+i≤n) {v:Int} (hv:val o0+10000 ^ i*(x*val b)=v) (hlt:v<10000 ^ n) (ho:Wh.bO o0):val o=v:=by
 have e:=h.eq;have l1:=h.len;rw [List.take_of_length_le (by omega),List.take_of_length_le (by omega),List.take_of_length_le (by omega),hv] at e;have o1:=dC (h.bO ho);have hp:=pow_pos n;have hc:=h.c0
 by_cases h0:c=0
 ·subst h0;rw [Int.mul_zero] at e;omega
 have:=Int.mul_le_mul_of_nonneg_left (show 1≤c by omega) (Int.le_of_lt hp);omega
theorem uB {a b:List Int} {i:Nat} {x o:Int} (hx:a[i]?=some x) (ho:o=val (a.take i)*val b):o+10000 ^ i*(x*val b)=val (a.take (i+1))*val b:=by
 rw [cH hx,ho]
 grind
theorem qY {a b:List Int} (ha:bO a) (hb:bO b) {n:Nat} (h:a.length+b.length≤n):val a*val b<10000 ^ n:=by
 have a1:=dC ha;have a2:=eo ha;have b1:=dC hb;have b2:=eo hb;have p:=ig h;rw [Int.pow_add] at p;have h1:val a*val b≤val a*10000 ^ b.length:=Int.mul_le_mul_of_nonneg_left (Int.le_of_lt b2) a1;have h2:val a*10000 ^ b.length<10000 ^ a.length*10000 ^ b.length:=Int.mul_lt_mul_of_pos_right a2 (pow_pos _);omega
structure jZ (a q:List Int) (n:Int) (i:Nat) (r:Int):Prop where
 len:q.length=a.length
 eq:val (a.drop i)=n*val (q.drop i)+r
 r0:0≤r∧r<n
 ls:bO (q.drop i)
theorem jZ.start {a q:List Int} {n:Int} (hn:0<n) (hl:q.length=a.length):jZ a q n a.length 0 where
 len:=hl
 eq:=by rw [List.drop_length,←hl,List.drop_length];simp [val]
 r0:=by omega
 ls:=by rw [←hl,List.drop_length];intro x hx;cases hx
theorem jZ.step {a q:List Int} {n r x:Int} {i:Nat} (h:jZ a q n (i+1) r) (ha:bO a) (hx:a[i]?=some x) (hn:n≤1000000000000):(0≤r*10000+x∧r*10000+x≤10000000000000000)∧jZ a (q.set i ((r*10000+x) / n)) n i ((r*10000+x) % n):=by
 have hi:=(List.getElem?_eq_some_iff.1 hx).1;have hxl:lim x:=ha x (List.mem_of_getElem? hx);unfold lim at hxl;have hr:=h.r0;have hq:(q.set i ((r*10000+x) / n))[i]?=some ((r*10000+x) / n):=List.getElem?_set_self (by rw [h.len];exact hi);have hd:(q.set i ((r*10000+x) / n)).drop (i+1)=q.drop (i+1):=List.drop_set_of_lt (Nat.lt_succ_self i)
 have hn0:0<n:=by omega
 have hq0:0≤(r*10000+x) / n:=Int.ediv_nonneg (by omega) (by omega);have hq1:(r*10000+x) / n<10000:=Int.ediv_lt_of_lt_mul hn0 (by omega);refine ⟨by omega,⟨by rw [List.length_set,h.len],?_,⟨Int.emod_nonneg _ (by omega),Int.emod_lt_of_pos _ hn0⟩,?_⟩⟩
 ·rw [kd hx,kd hq,hd,h.eq]
  have:=Int.mul_ediv_add_emod (r*10000+x) n;generalize (r*10000+x) % n=z,(r*10000+x) / n=y at *
  grind
 rw [List.drop_eq_getElem_cons (by rw [List.length_set,h.len];exact hi),hd];intro y hy
 rcases List.mem_cons.1 hy with rfl | hy
 ·rw [List.getElem_set_self];exact ⟨hq0,hq1⟩
 exact h.ls y hy
theorem jZ.fin {a q:List Int} {n r:Int} (h:jZ a q n 0 r):val q=val a / n∧r=val a % n∧bO q:=by
 have e:=h.eq;rw [List.drop_zero,List.drop_zero] at e;have hr:=h.r0;have hl:=h.ls;rw [List.drop_zero] at hl;refine ⟨?_,?_,hl⟩
 ·rw [e,Int.add_comm,Int.add_mul_ediv_left _ _ (by omega),Int.ediv_eq_zero_of_lt hr.1 hr.2,Int.zero_add]
 rw [e,Int.add_comm,Int.add_mul_emod_self_left,Int.emod_eq_of_lt hr.1 hr.2]
end Wh
namespace Wh
def zS (x y:Int):Int:=if x<y then -1 else if y<x then 1 else 0
theorem gA {x y:Int} (h:x<y):zS x y=-1:=if_pos h
theorem mf {x y:Int} (h:y<x):zS x y=1:=by unfold zS;rw [if_neg (by omega),if_pos h]
theorem xH (x:Int):zS x x=0:=by unfold zS;rw [if_neg (by omega),if_neg (by omega)]
theorem ot {a:List Int} (ha:bO a) (i:Nat):val (a.take i)<10000 ^ i:=by
 have h1:=eo (fE ha i);have h2:=ig (m:=(a.take i).length) (n:=i) (by rw [List.length_take];omega);omega
theorem pq {a b:List Int} (ha:bO a) (hb:bO b) {i:Nat} (hlt:nth a i<nth b i):∀ n,i<n→(∀ j,i<j→j<n→nth a j=nth b j)→val (a.take n)<val (b.take n)
 | 0,h,_=>absurd h (Nat.not_lt_zero _)
 | n+1,h,he=>by
  by_cases hn:i=n
  ·subst hn
   have h1:=ot ha i;have h2:=dC (fE hb i);rw [cE,cE];have h3:=Int.mul_le_mul_of_nonneg_left (show nth a i+1≤nth b i by omega) (Int.le_of_lt (pow_pos i));rw [Int.mul_add,Int.mul_one] at h3;omega
  have ih:=pq ha hb hlt n (by omega) fun j h1 h2=>he j h1 (by omega)
  rw [cE,cE,he n (by omega) (by omega)];omega
theorem ua {a b:List Int}:∀ n,(∀ j,j<n→nth a j=nth b j)→val (a.take n)=val (b.take n)
 | 0,_=>by simp [val]
 | n+1,he=>by
  rw [cE,cE,he n (by omega),ua n fun j h=>he j (by omega)]
theorem fG {a:List Int} {n:Nat} (h:a.length≤n):a.take n=a:=List.take_of_length_le h
theorem sr {a b:List Int} (ha:bO a) (hb:bO b) {i n:Nat} (h1:a.length≤n) (h2:b.length≤n) (hi:i<n) (he:∀ j,i<j→j<n→nth a j=nth b j) (hlt:nth a i<nth b i):zS (val a) (val b)=-1:=by
 have:=pq ha hb hlt n hi he;rw [fG h1,fG h2] at this;exact gA this
theorem sp {a b:List Int} (ha:bO a) (hb:bO b) {i n:Nat} (h1:a.length≤n) (h2:b.length≤n) (hi:i<n) (he:∀ j,i<j→j<n→nth a j=nth b j) (hlt:nth b i<nth a i):zS (val a) (val b)=1:=by
 have:=pq hb ha hlt n hi fun j h1 h2=>(he j h1 h2).symm
 rw [fG h1,fG h2] at this;exact mf this
theorem cmp_eq {a b:List Int} {n:Nat} (h1:a.length≤n) (h2:b.length≤n) (he:∀ j,j<n→nth a j=nth b j):zS (val a) (val b)=0:=by
 have:=ua n he;rw [fG h1,fG h2] at this;rw [this,xH]
theorem dx {m n:Nat} (h:m≤n):(d_ m).length≤(d_ n).length:=by
 refine dN ?_;have h1:=eo (an n);rw [bP] at h1;have h2:((10000 ^ (d_ n).length:Nat):Int)=(10000:Int) ^ (d_ n).length:=Int.natCast_pow 10000 _;generalize (10000:Int) ^ (d_ n).length=P at *;generalize 10000 ^ (d_ n).length=Q at *;omega
theorem jy {m n:Nat} (h:(d_ m).length<(d_ n).length):m<n:=by
 by_cases h':n≤m
 ·have:=dx h';omega
 omega
def zo (neg:Bool) (n:Int):Int:=if neg then -n else n
theorem qc {neg:Bool} {n:Int} (h:0≤n):decide (zo neg n<0)=(neg && decide (n≠0)):=by
 cases neg
 ·simp [zo];omega
 simp only [zo,if_true,Bool.true_and,decide_eq_decide];omega
theorem mg {neg:Bool} {n:Int} (h:0≤n):(zo neg n).natAbs=n.toNat:=by
 cases neg
 ·simp only [zo,Bool.false_eq_true,if_false];omega
 simp only [zo,if_true];omega
theorem oX (z:Int):zo (decide (z<0)) z.natAbs=z:=by
 unfold zo
 by_cases h:z<0
 ·rw [if_pos (decide_eq_true h)];omega
 rw [if_neg (by simp [h])];omega
end Wh
end
section
open Go.RowKit
theorem iz {a b:Int} (h:a=b):Ending.returned (.int .i64 a)=.returned (.int .i64 b):=by rw [h]
theorem dB {a b:Bool} (h:a=b):Ending.returned (.bool a)=.returned (.bool b):=by rw [h]
theorem dT (n lo hi:Int) (w:World) :
  Calls Tryz.prog 47 #[.int .i64 n,.int .i64 lo,.int .i64 hi] w fun e w'=>e=.returned (.bool (M.ins n lo hi))∧w=w':=by
 unfold M.ins
 by_cases h1:lo≤n <;> by_cases h2:n≤hi <;>
 (go_enter Tryz.func47,Tryz.ntmps47
  go_wp2
  go_ret;exact ⟨by simp [h1,h2],rfl⟩)
theorem cn (n lo hi:Int) (w:World) :
  Calls Tryz.prog 48 #[.int .i64 n,.int .i64 lo,.int .i64 hi] w fun e w'=>e=.returned (.bool (M.ins n lo hi))∧w=w':=by
 unfold M.ins
 by_cases h1:lo≤n <;> by_cases h2:n≤hi <;>
 (go_enter Tryz.func48,Tryz.ntmps48
  go_wp2
  go_ret;exact ⟨by simp [h1,h2],rfl⟩)
theorem tP (n:Int) (w:World) (h1:0≤n) (h2:n≤4000000000000000000) :
  Calls Tryz.prog 104 #[.int .i64 n] w fun e w'=>e=.returned (.int .i64 (M.root n))∧w=w':=by
 go_enter Tryz.func104,Tryz.ntmps104
 go_wp2
 go_loop [3,4] (fun l h=>∃ a b:Int,0≤a∧a<b∧b≤2000000001∧l=.int .i64 a∧h=.int .i64 b∧a*a≤n∧n<b*b) (fun l h=>(intOf h - intOf l).toNat)
 case atStart=>exact ⟨0,2000000001,by omega,by omega,by omega,rfl,rfl,by simp;omega,by simp;omega⟩
 case round=>
 obtain ⟨a,b,ha,hab,hb,rfl,rfl,ha2,hb2⟩:=hrel
 by_cases c1:1<b - a
 ·have hm1:a<(a+b) / 2:=by omega
  have hm2:(a+b) / 2<b:=by omega
  have zU:=M.mP (x:=(a+b) / 2) (y:=(a+b) / 2) (m:=2000000001) (n:=2000000001) (by omega) (by omega) (by omega) (by omega)
  by_cases c2:(a+b) / 2*((a+b) / 2)≤n
  ·go_wp2
   go_round
   case rel=>exact ⟨(a+b) / 2,b,by omega,by omega,by omega,rfl,rfl,c2,hb2⟩
   case measure=>simp [intOf];omega
  go_wp2
  go_round
  case rel=>exact ⟨a,(a+b) / 2,by omega,by omega,by omega,rfl,rfl,ha2,by omega⟩
  case measure=>simp [intOf];omega
 go_wp2;go_ret;exact ⟨iz (M.jV ⟨by omega,ha2,by rw [show (a:Int)+1=b from by omega];exact hb2⟩),rfl⟩
theorem kA (a b:Int) (w:World) (h1:-9000000000000000000≤a) (h2:a≤9000000000000000000) (h3:-9000000000000000000≤b) (h4:b≤9000000000000000000) :
  Calls Tryz.prog 75 #[.int .i64 a,.int .i64 b] w fun e w'=>e=.returned (.int .i64 (M.gcd a b))∧∃ m,w'=w.drewN m:=by
 go_enter Tryz.func75,Tryz.ntmps75
 go_wp2
 go_loopw [0,1] (fun va vb wr=>∃ x y:Int,va=.int .i64 x∧vb=.int .i64 y∧-9000000000000000000≤x∧x≤9000000000000000000∧-9000000000000000000≤y∧y≤9000000000000000000∧M.gcd x y=M.gcd a b∧∃ m,wr=w.drewN m) (fun _ vb _=>(intOf vb).natAbs)
 case atStart=>exact ⟨a,b,rfl,rfl,h1,h2,h3,h4,rfl,0,rfl⟩
 case round=>
 obtain ⟨x,y,rfl,rfl,x1,x2,y1,y2,hg,m,rfl⟩:=hrel;have Hg:=yI hg;clear hg
 by_cases hy:y=0
 ·subst hy
  by_cases hx:0≤x
  ·go_wp2
   all_goals (go_ret;exact ⟨iz (by rw [←Hg.out];simp only [M.gcd,Int.gcd_zero_right];omega),_,rfl⟩)
  go_wp2
  all_goals (go_ret;exact ⟨iz (by rw [←Hg.out];simp only [M.gcd,Int.gcd_zero_right];omega),_,rfl⟩)
 have ht:=Int.natAbs_tmod x y;have hm:x.natAbs % y.natAbs<y.natAbs:=Nat.mod_lt _ (by omega);have ht:=yI (show (x.tmod y).natAbs<y.natAbs by omega)
 have ht1:-9000000000000000000≤x.tmod y:=by omega
 have ht2:x.tmod y≤9000000000000000000:=by omega
 by_cases hp:0≤x∧1≤y
 ·obtain ⟨p1,p2⟩:=hp
  have e1:=yI (Int.tmod_eq_emod_of_nonneg (b:=y) p1);have hb:=M.tv (a:=x) p2;go_wp2
  go_quiet (fail)
  go_wp2
  go_roundw
  case rel=>exact ⟨y,x % y,rfl,rfl,y1,y2,by omega,by omega,by rw [←Hg.out,←e1.out];unfold M.gcd;rw [M.kB],_,World.drewN_drewN _ _ _⟩
  case measure=>simp [intOf];omega
 go_wp2
 go_quiet (fail)
 go_wp2
 go_roundw
 case rel=>exact ⟨y,x.tmod y,rfl,rfl,y1,y2,ht1,ht2,by rw [←Hg.out];unfold M.gcd;rw [M.kB],_,World.drewN_drewN _ _ _⟩
 case measure=>have:=ht.out;simp [intOf];omega
theorem dM (a b:Int) (w:World) (h1:0≤a) (h2:a≤9000000000000000000) (h3:0≤b) (h4:b≤9000000000000000000) :
  Calls Tryz.prog 83 #[.int .i64 a,.int .i64 b] w fun e w'=>e=.returned (.int .i64 (M.gcd a b))∧w=w':=by
 go_enter Tryz.func83,Tryz.ntmps83
 go_wp2
 go_loop [0,1] (fun va vb=>∃ x y:Int,va=.int .i64 x∧vb=.int .i64 y∧0≤x∧x≤9000000000000000000∧0≤y∧y≤9000000000000000000∧M.gcd x y=M.gcd a b) (fun _ vb=>(intOf vb).toNat)
 case atStart=>exact ⟨a,b,rfl,rfl,h1,h2,h3,h4,rfl⟩
 case round=>
 obtain ⟨x,y,rfl,rfl,x1,x2,y1,y2,hg⟩:=hrel;have Hg:=yI hg;clear hg
 by_cases hy:0<y
 ·have hb:=M.tv (a:=x) (p:=y) (by omega)
  have e1:=yI (Int.tmod_eq_emod_of_nonneg (b:=y) x1);go_wp2
  go_round
  case rel=>exact ⟨y,x % y,rfl,rfl,y1,y2,by omega,by omega,by rw [←Hg.out,←e1.out];unfold M.gcd;rw [M.kB]⟩
  case measure=>simp [intOf];omega
 obtain rfl:y=0:=by omega
 go_wp2;go_ret;exact ⟨iz (by rw [←Hg.out];simp only [M.gcd,Int.gcd_zero_right];omega),rfl⟩
theorem dn (a b:Int) (w:World) :
  Calls Tryz.prog 91 #[.int .i64 a,.int .i64 b] w fun e w'=>e=.returned (.int .i64 (max a b))∧w=w':=by
 by_cases h:b<a
 ·go_enter Tryz.func91,Tryz.ntmps91
  go_wp2;go_ret;exact ⟨iz (by omega),rfl⟩
 go_enter Tryz.func91,Tryz.ntmps91
 go_wp2;go_ret;exact ⟨iz (by omega),rfl⟩
theorem dJ (a:Int) (w:World) (h1:-9223372036854775807≤a) (h2:a≤9223372036854775807) :
  Calls Tryz.prog 84 #[.int .i64 a] w fun e w'=>e=.returned (.int .i64 (a.natAbs:Int))∧w=w':=by
 go_enter Tryz.func84,Tryz.ntmps84
 go_wp2_with (go_at_call 91;refine (dn _ _ _).mono ?_;rintro e w' ⟨rfl,rfl⟩)
 go_ret;exact ⟨iz (by omega),rfl⟩
theorem da {W w1:World} (hb:Below W.heap.size W w1):(∀ b o,b<W.heap.size→w1.cell? ⟨b,o,none⟩=W.cell? ⟨b,o,none⟩)∧(∀ b o,b<W.heap.size→w1.frozen? ⟨b,o,none⟩=W.frozen? ⟨b,o,none⟩)∧W.heap.size≤w1.heap.size:=
 ⟨fun b o h=>hb.cell (p:=⟨b,o,none⟩) h,fun b o h=>hb.frozen (p:=⟨b,o,none⟩) h,hb.size⟩
theorem aO (w:World):w.drew.heap=w.heap:=rfl
theorem aI (w:World) (a:Addr) (v:Value):(w.setCell a v).heap.size=w.heap.size:=by simp [World.setCell]
theorem aQ {w W:World} (h:Below w.heap.size w W) (o:Obj):Below w.heap.size w (W.alloc o):=h.alloc h.size o
theorem aS {w W w':World} (h:Below w.heap.size w W) (hb:Below W.heap.size W w'):Below w.heap.size w w':=f_ h hb
theorem aL {w W:World} (h:Below w.heap.size w W) (n:Nat):Below w.heap.size w (W.drewN n):=by
 induction n with
 | zero=>exact h
 | succ n ih=>exact ih.drew
theorem pG (a b:Int) (w:World) (h:M.bD a b=true) :
  Calls Tryz.prog 73 #[.agg #[.int .i64 a,.int .i64 b]] w fun e w'=>e=.returned (.int .i64 (M.bC a b))∧Below w.heap.size w w':=by
 obtain ⟨h1,h1',h2,h2'⟩:=M.am h;have b1:=M.aK (x:=4*a) (y:=a) (m:=4000) (n:=1000) (by omega) (by omega) (by omega) (by omega);have b2:=M.aK (x:=4*a*a) (y:=a) (m:=4000000) (n:=1000) (by omega) (by omega) (by omega) (by omega);have b3:=M.aK (x:=27*b) (y:=b) (m:=270000) (n:=10000) (by omega) (by omega) (by omega) (by omega);go_enter Tryz.func73,Tryz.ntmps73
 go_wp2;go_ret;exact ⟨rfl,(by repeat (first | exact yL _ _ | refine aQ ?_ _ | refine aS ?_ (by assumption) | refine Below.drew ?_ | refine yK ?_ (by first | exact yM _ | exact Nat.le_add_right _ _ | (simp <;> omega)) _ | refine aL ?_ _))⟩
theorem tM (a b:Int) (w:World) (h:M.bD a b=true) :
  Calls Tryz.prog 65 #[.agg #[.int .i64 a,.int .i64 b]] w fun e w'=>e=.returned (.int .i64 (M.bC a b))∧Below w.heap.size w w':=by
 obtain ⟨h1,h1',h2,h2'⟩:=M.am h;have b1:=M.aK (x:=4*a) (y:=a) (m:=4000) (n:=1000) (by omega) (by omega) (by omega) (by omega);have b2:=M.aK (x:=4*a*a) (y:=a) (m:=4000000) (n:=1000) (by omega) (by omega) (by omega) (by omega);have b3:=M.aK (x:=27*b) (y:=b) (m:=270000) (n:=10000) (by omega) (by omega) (by omega) (by omega);go_enter Tryz.func65,Tryz.ntmps65
 go_wp2;go_ret;exact ⟨rfl,(by repeat (first | exact yL _ _ | refine aQ ?_ _ | refine aS ?_ (by assumption) | refine Below.drew ?_ | refine yK ?_ (by first | exact yM _ | exact Nat.le_add_right _ _ | (simp <;> omega)) _ | refine aL ?_ _))⟩
theorem lI (a b:Int) (w:World) :
  Calls Tryz.prog 54 #[.agg #[.int .i64 a,.int .i64 b]] w fun e w'=>e=.returned (.bool (M.good a b))∧Below w.heap.size w w':=by
 cases h1:M.ins a (-1000) 1000
 ·go_enter Tryz.func54,Tryz.ntmps54
  go_wp2_with (go_at_call 48;refine (cn _ _ _ _).mono ?_;rintro e w' ⟨rfl,rfl⟩)
  go_ret;exact ⟨dB (by simp [M.good,M.bD,h1]),(by repeat (first | exact yL _ _ | refine aQ ?_ _ | refine aS ?_ (by assumption) | refine Below.drew ?_ | refine yK ?_ (by first | exact yM _ | exact Nat.le_add_right _ _ | (simp <;> omega)) _ | refine aL ?_ _))⟩
 cases h2:M.ins b (-10000) 10000
 ·go_enter Tryz.func54,Tryz.ntmps54
  go_wp2_with (go_at_call 48;refine (cn _ _ _ _).mono ?_;rintro e w' ⟨rfl,rfl⟩)
  go_ret;exact ⟨dB (by simp [M.good,M.bD,h2]),(by repeat (first | exact yL _ _ | refine aQ ?_ _ | refine aS ?_ (by assumption) | refine Below.drew ?_ | refine yK ?_ (by first | exact yM _ | exact Nat.le_add_right _ _ | (simp <;> omega)) _ | refine aL ?_ _))⟩
 go_enter Tryz.func54,Tryz.ntmps54
 go_wp2_with (first | (go_at_call 48;refine (cn _ _ _ _).mono ?_;rintro e w' ⟨rfl,rfl⟩) | (go_at_call 73;refine (pG _ _ _ (by simp [M.bD,h1,h2])).mono ?_;rintro e w' ⟨rfl,hb⟩;obtain ⟨hc_,L_,Dv⟩:=da hb;(try simp only [yJ,aO,World.heap_drewN,aI] at Dv)))
 go_ret;exact ⟨dB (by simp [M.good,M.bD,h1,h2]),(by repeat (first | exact yL _ _ | refine aQ ?_ _ | refine aS ?_ (by assumption) | refine Below.drew ?_ | refine yK ?_ (by first | exact yM _ | exact Nat.le_add_right _ _ | (simp <;> omega)) _ | refine aL ?_ _))⟩
theorem nT (a b:Int) (w:World) :
  Calls Tryz.prog 51 #[.agg #[.int .i64 a,.int .i64 b]] w fun e w'=>e=.returned (.bool (M.good a b))∧Below w.heap.size w w':=by
 cases h1:M.ins a (-1000) 1000
 ·go_enter Tryz.func51,Tryz.ntmps51
  go_wp2_with (go_at_call 47;refine (dT _ _ _ _).mono ?_;rintro e w' ⟨rfl,rfl⟩)
  go_ret;exact ⟨dB (by simp [M.good,M.bD,h1]),(by repeat (first | exact yL _ _ | refine aQ ?_ _ | refine aS ?_ (by assumption) | refine Below.drew ?_ | refine yK ?_ (by first | exact yM _ | exact Nat.le_add_right _ _ | (simp <;> omega)) _ | refine aL ?_ _))⟩
 cases h2:M.ins b (-10000) 10000
 ·go_enter Tryz.func51,Tryz.ntmps51
  go_wp2_with (go_at_call 47;refine (dT _ _ _ _).mono ?_;rintro e w' ⟨rfl,rfl⟩)
  go_ret;exact ⟨dB (by simp [M.good,M.bD,h2]),(by repeat (first | exact yL _ _ | refine aQ ?_ _ | refine aS ?_ (by assumption) | refine Below.drew ?_ | refine yK ?_ (by first | exact yM _ | exact Nat.le_add_right _ _ | (simp <;> omega)) _ | refine aL ?_ _))⟩
 go_enter Tryz.func51,Tryz.ntmps51
 go_wp2_with (first | (go_at_call 47;refine (dT _ _ _ _).mono ?_;rintro e w' ⟨rfl,rfl⟩) | (go_at_call 65;refine (tM _ _ _ (by simp [M.bD,h1,h2])).mono ?_;rintro e w' ⟨rfl,hb⟩;obtain ⟨hc_,L_,Dv⟩:=da hb;(try simp only [yJ,aO,World.heap_drewN,aI] at Dv)))
 go_ret;exact ⟨dB (by simp [M.good,M.bD,h1,h2]),(by repeat (first | exact yL _ _ | refine aQ ?_ _ | refine aS ?_ (by assumption) | refine Below.drew ?_ | refine yK ?_ (by first | exact yM _ | exact Nat.le_add_right _ _ | (simp <;> omega)) _ | refine aL ?_ _))⟩
def cv (a b:Int):Value:=.agg #[.int .i64 a,.int .i64 b]
theorem jM {a b:Int} (h:b≠0):0<M.gcd a b:=by
 unfold M.gcd;have:0<Int.gcd a b:=Int.gcd_pos_of_ne_zero_right _ h;omega
def b9 (a b:Int):Int:=if b<0 then -a.tdiv (M.gcd a b) else a.tdiv (M.gcd a b)
def bT (a b:Int):Int:=if b<0 then -b.tdiv (M.gcd a b) else b.tdiv (M.gcd a b)
theorem d9 {a b:Int} (h:b<0):b9 a b=-a.tdiv (M.gcd a b):=if_pos h
theorem dE {a b:Int} (h:0≤b):b9 a b=a.tdiv (M.gcd a b):=if_neg (by omega)
theorem d8 {a b:Int} (h:b<0):bT a b=-b.tdiv (M.gcd a b):=if_pos h
theorem dD {a b:Int} (h:0≤b):bT a b=b.tdiv (M.gcd a b):=if_neg (by omega)
theorem dk {a d m:Int} (h1:-m≤a) (h2:a≤m) (hd:d≠0):-m≤a.tdiv d∧a.tdiv d≤m:=by
 have:(a.tdiv d).natAbs≤a.natAbs:=by rw [Int.natAbs_tdiv];exact Nat.div_le_self _ _
 omega
theorem pJ {a b:Int} (h:b≠0):M.gcd a b≤b.natAbs:=by
 unfold M.gcd;have:=Nat.le_of_dvd (by omega) (Nat.gcd_dvd_right a.natAbs b.natAbs);simp only [Int.gcd];omega
theorem iA (a b:Int) (w:World) (h1:-4000000000000000000≤a) (h2:a≤4000000000000000000) (h3:-4000000000000000000≤b) (h4:b≤4000000000000000000) (h0:b≠0) :
  Calls Tryz.prog 103 #[.int .i64 a,.int .i64 b] w fun e w'=>e=.returned (.tuple #[.int .i64 (b9 a b),.int .i64 (bT a b)])∧Below w.heap.size w w':=by
 have hg:=jM (a:=a) h0;have hl:=pJ (a:=a) h0
 have hgg:M.gcd a.natAbs b.natAbs=M.gcd a b:=by simp [M.gcd,Int.gcd]
 have t1:=dk (d:=M.gcd a b) h1 h2 (by omega);have t2:=dk (d:=M.gcd a b) h3 h4 (by omega)
 by_cases hb:b<0
 ·have e1:=yI (d9 (a:=a) hb)
  have e2:=yI (d8 (a:=a) hb);go_enter Tryz.func103,Tryz.ntmps103
  go_wp2_with (first | (go_at_call 84;refine (dJ _ _ (by omega) (by omega)).mono ?_;rintro e w' ⟨rfl,rfl⟩) | (go_at_call 83;refine (dM _ _ _ (by omega) (by omega) (by omega) (by omega)).mono ?_;rintro e w' ⟨rfl,rfl⟩))
  go_quiet (fail)
  go_wp2;go_ret2;exact ⟨by rw [e1.out,e2.out];rfl,(by repeat (first | exact yL _ _ | refine aQ ?_ _ | refine aS ?_ (by assumption) | refine Below.drew ?_ | refine yK ?_ (by first | exact yM _ | exact Nat.le_add_right _ _ | (simp <;> omega)) _ | refine aL ?_ _))⟩
 have e1:=yI (dE (a:=a) (b:=b) (by omega));have e2:=yI (dD (a:=a) (b:=b) (by omega));go_enter Tryz.func103,Tryz.ntmps103
 go_wp2_with (first | (go_at_call 84;refine (dJ _ _ (by omega) (by omega)).mono ?_;rintro e w' ⟨rfl,rfl⟩) | (go_at_call 83;refine (dM _ _ _ (by omega) (by omega) (by omega) (by omega)).mono ?_;rintro e w' ⟨rfl,rfl⟩))
 go_quiet (fail)
 go_wp2;go_ret2;exact ⟨by rw [e1.out,e2.out];rfl,(by repeat (first | exact yL _ _ | refine aQ ?_ _ | refine aS ?_ (by assumption) | refine Below.drew ?_ | refine yK ?_ (by first | exact yM _ | exact Nat.le_add_right _ _ | (simp <;> omega)) _ | refine aL ?_ _))⟩
theorem aE {W w':World} (hb:Below W.heap.size W w') {p:Addr} {v:Value} (h:W.cell? p=some v):w'.cell? p=some v:=
 (hb.cell (World.block_lt_of_cell? W _ h)).trans h
theorem ay {W w':World} (hb:Below W.heap.size W w') {p:Addr} (h:p.block<W.heap.size) (hf:W.frozen? p=false):w'.frozen? p=false:=
 (hb.frozen h).trans hf
theorem kF:(Tryz.prog.info? 3).map (fun i=>(i.zero,i.size,i.bytes))=some (some (.int .i64 0),1,8):=by kernel_rfl
def aF (w:World) (base:Nat) (v:Value) (xs:List Int):Prop:=w.ownsRow base 3 1 v xs.length (xs.map (Value.int .i64))
theorem aF.nil (w:World) (base:Nat):aF w base (.slice none 0 0) []:=World.ownsRow_nil w base _ 1
theorem aF.push {w:World} {base:Nat} {v':Value} {xs:List Int} {n:Nat} {x:Int} {ys:List Int} (hn:n=xs.length) (h:w.ownsRow base 3 1 v' (n+1) (xs.map (Value.int .i64) ++ [.int .i64 x])) (he:ys=xs ++ [x]):aF w base v' ys:=by
 subst hn he
 simpa [aF] using h
theorem aF.below {w w':World} {base:Nat} {v:Value} {xs:List Int} (h:aF w base v xs) (hb:Below w.heap.size w w'):aF w' base v xs:=by
 obtain ⟨h1,h2⟩:=h;refine ⟨h1,?_⟩
 rcases h2 with h2 | ⟨g,cap,cur,hv,hg,hh,r⟩
 ·exact Or.inl h2
 exact Or.inr ⟨g,cap,cur,hv,hg,by rw [hb.block g (Array.getElem?_eq_some_iff.1 hh).1];exact hh,r⟩
theorem aF.base {w:World} {base base':Nat} {v:Value} {xs:List Int} (h:aF w base v xs) (hb:base'≤base):aF w base' v xs:=by
 obtain ⟨h1,h2⟩:=h;refine ⟨h1,?_⟩
 rcases h2 with h2 | ⟨g,cap,cur,hv,hg,hh,r⟩
 ·exact Or.inl h2
 exact Or.inr ⟨g,cap,cur,hv,Nat.le_trans hb hg,hh,r⟩
theorem mR (x:Int):∀ u ∈ [Value.int .i64 x],u.oneCell'=true:=by
 intro u hu;simp only [List.mem_singleton] at hu;subst hu;rfl
theorem aF.view {w:World} {base:Nat} {v:Value} {xs:List Int} (h:aF w base v xs):∃ (a:Option Addr) (cap:Nat),v=.slice a xs.length cap∧(xs.length:Int)≤9223372036854775807∧
  ∀ k,k<xs.length→∃ g x,a=some ⟨g,0,none⟩∧base≤g∧Hid (xs[k]?=some x)∧w.cell? ⟨g,k,none⟩=some (.int .i64 x):=by
 obtain ⟨h1,h2⟩:=h
 rcases h2 with ⟨rfl,hn⟩ | ⟨g,cap,cur,rfl,hg,hh,hc,hm,hs,ht⟩
 ·refine ⟨none,0,by rw [hn],by omega,fun k hk=>by omega⟩
 refine ⟨some ⟨g,0,none⟩,cap,rfl,by unfold maxLen at hm;omega,fun k hk=>⟨g,xs[k],rfl,hg,List.getElem?_eq_getElem hk,?_⟩⟩;rw [cell_of_row w g k cur _ (0,0) hh]
 have e:(xs.map (Value.int .i64))[k]?=some (.int .i64 xs[k]):=by
  rw [List.getElem?_map,List.getElem?_eq_getElem hk];rfl
 rw [←ht,List.getElem?_take] at e
 split at e
 ·simpa using e
 cases e
theorem iq {xs:List Int} {k:Nat} {x:Int} (h:xs[k]?=some x):xs.take (k+1)=xs.take k ++ [x]:=by
 obtain ⟨hk,e⟩:=List.getElem?_eq_some_iff.1 h;rw [List.take_succ_eq_append_getElem hk,e]
theorem cy {ops:Array Oper} {rest:List Oper} {o:Oper} {a:Act} {Q:Exit→Act→World→Prop} {w W:World} (base:Nat) (y:Int) (xs:List Int) (v:Value) (hgd:o.guard=none) (s x:Operand)
  (ho:o.op=.call { callee:=.builtin .append,args:=#[s,x],argTypes:=#[26,26] }) (hs:a.eval s=v) (hx:a.eval x=.slice (some ⟨w.heap.size,0,none⟩) 1 1)
  (hown:aF w base v xs) (hW:Below base W w) (hB:base≤w.heap.size) (hl:xs.length≤10000000000)
  (h:∀ v' w',aF w' base v' (xs ++ [y])→Below base W w'→wpList Tryz.prog ops Q rest (a.put o.dst v') w') :
  wpList Tryz.prog ops Q (o :: rest) a (w.alloc (.cells #[.int .i64 y] 3)):=by
 obtain ⟨i0,hi,hz0,hz1,hz2⟩:=info_parts kF
 refine wpList_append_own _ hgd s x 26 ho base 3 i0 (.int .i64 0) 1 8 Tryz.underlying26 hi hz0 hz1 hz2 rfl (by decide) v xs.length (xs.map (Value.int .i64)) hs (hown.alloc _) ⟨w.heap.size,0,none⟩ 1 1 [.int .i64 y] hx rfl (fun j u hu=>by
  have hadd:(⟨w.heap.size,0,none⟩:Addr).add j=⟨w.heap.size,j,none⟩:=by unfold Addr.add;split <;> simp_all
  rw [hadd,World.cell?_alloc_at _ _ _ _ rfl]
  simpa using hu) (mR _) ?_ ?_ ?_ ?_
 ·unfold maxLen;omega
 ·omega
 ·simp;omega
 intro v' w' h1 h2 _;exact h v' w' (aF.push rfl h1 rfl) ((hW.alloc hB _).grown h2 (by simp;omega) fun k hk=>(hown.lt k hk).1)
def gv (w:World) (hi:Nat) (v:Value) (xs:List Int):Prop:=
 ∃ (a:Option Addr) (cap:Nat),v=.slice a xs.length cap∧(xs.length:Int)≤9223372036854775807∧
  ∀ k,k<xs.length→∃ g x,a=some ⟨g,0,none⟩∧g<hi∧Hid (xs[k]?=some x)∧w.cell? ⟨g,k,none⟩=some (.int .i64 x)
theorem gv.below {w w':World} {hi:Nat} {v:Value} {xs:List Int} (h:gv w hi v xs) (hb:Below hi w w'):gv w' hi v xs:=by
 obtain ⟨a,cap,h1,h2,h3⟩:=h;refine ⟨a,cap,h1,h2,fun k hk=>?_⟩;obtain ⟨g,x,e1,e2,e3,e4⟩:=h3 k hk;exact ⟨g,x,e1,e2,e3,(hb.cell (p:=⟨g,k,none⟩) e2).trans e4⟩
theorem gv.mono {w:World} {hi hi':Nat} {v:Value} {xs:List Int} (h:gv w hi v xs) (hh:hi≤hi'):gv w hi' v xs:=by
 obtain ⟨a,cap,h1,h2,h3⟩:=h;refine ⟨a,cap,h1,h2,fun k hk=>?_⟩;obtain ⟨g,x,e1,e2,e3,e4⟩:=h3 k hk;exact ⟨g,x,e1,by omega,e3,e4⟩
theorem aF.seen {w:World} {base:Nat} {v:Value} {xs:List Int} (h:aF w base v xs):gv w w.heap.size v xs:=by
 obtain ⟨a,cap,h1,h2,h3⟩:=h.view;refine ⟨a,cap,h1,h2,fun k hk=>?_⟩;obtain ⟨g,x,e1,e2,e3,e4⟩:=h3 k hk;exact ⟨g,x,e1,World.block_lt_of_cell? w _ e4,e3,e4⟩
theorem gv.len {w:World} {hi:Nat} {v:Value} {xs:List Int} (h:gv w hi v xs):(xs.length:Int)≤9223372036854775807:=by
 obtain ⟨a,cap,h1,h2,h3⟩:=h;exact h2
theorem cV {a b c:World} {r:Option Nat} (h:a.grownBy b r) (k:b.grownBy c r):a.grownBy c r:=
 ⟨k.os.trans h.os,k.tape.trans h.tape,k.output.trans h.output,Nat.le_trans h.size k.size,fun i hi hne=>(k.block i (Nat.lt_of_lt_of_le hi h.size) hne).trans (h.block i hi hne)⟩
theorem fB (a:World) (r:Option Nat):a.grownBy a r:=⟨rfl,rfl,rfl,yM _,fun _ _ _=>rfl⟩
theorem nf {a b:World} {r:Option Nat} (h:a.grownBy b r) (n:Nat):a.grownBy (b.drewN n) r:=⟨h.os,h.tape,h.output,h.size,h.block⟩
theorem cM {a b:World} {r:Option Nat} {base:Nat} (h:a.grownBy b r) (hb:base≤a.heap.size) (hr:∀ k,r=some k→base≤k):Below base a b:=
 ⟨h.os,h.tape,h.output,h.size,fun i hi=>h.block i (by omega) (fun e=>by have:=hr i e.symm;omega)⟩
theorem cG {a b:World} (h:Below a.heap.size a b) (r:Option Nat):a.grownBy b r:=⟨h.os,h.tape,h.output,h.size,fun i hi _=>h.block i hi⟩
theorem aF.set {w:World} {base g cap n j:Nat} {xs:List Int} (hn:n=xs.length) (h:aF w base (.slice (some ⟨g,0,none⟩) n cap) xs) (x:Int) {ys:List Int} (he:ys=xs.set j x) :
  aF (w.setCell ⟨g,j,none⟩ (.int .i64 x)) base (.slice (some ⟨g,0,none⟩) n cap) ys∧w.grownBy (w.setCell ⟨g,j,none⟩ (.int .i64 x)) (some g):=by
 subst he hn;have:=World.ownsRow.stored (g:=g) (cap:=cap) h j (.int .i64 x);refine ⟨?_,this.2⟩;unfold aF;rw [List.map_set,List.length_set];exact this.1
theorem aF.form {w:World} {base:Nat} {v:Value} {xs:List Int} (h:aF w base v xs) (hn:0<xs.length):∃ g cap,v=.slice (some ⟨g,0,none⟩) xs.length cap∧base≤g∧g<w.heap.size:=by
 rcases h.2 with ⟨rfl,h2⟩ | ⟨g,cap,cur,rfl,hg,hh,-⟩
 ·omega
 exact ⟨g,cap,rfl,hg,(Array.getElem?_eq_some_iff.1 hh).1⟩
theorem aF.pR (w:World) (base:Nat) (hb:base≤w.heap.size):aF (w.alloc (.cells #[] 3)) base (.slice (some ⟨w.heap.size,0,none⟩) 0 0) []:=
 World.ownsRow_made w #[] 0 hb (by unfold maxLen;omega) rfl
theorem aF.lt {w:World} {base:Nat} {v:Value} {xs:List Int} (h:aF w base v xs):∀ k,v.ownBlock=some k→base≤k∧k<w.heap.size:=World.ownsRow.lt h
theorem aF.alloc {w:World} {base:Nat} {v:Value} {xs:List Int} (h:aF w base v xs) (o:Obj):aF (w.alloc o) base v xs:=World.ownsRow.alloc h o
theorem aF.forms {w:World} {base:Nat} {v:Value} {xs:List Int} (h:aF w base v xs):(v=.slice none 0 0∧xs=[])∨∃ g cap,v=.slice (some ⟨g,0,none⟩) xs.length cap∧base≤g:=by
 rcases h.2 with ⟨e,h2⟩ | ⟨g,cap',cur,e,hg,-⟩
 ·exact Or.inl ⟨e,List.eq_nil_of_length_eq_zero h2⟩
 exact Or.inr ⟨g,cap',e,hg⟩
theorem aF.cap {w:World} {base:Nat} {a:Option Addr} {n cap:Nat} {xs:List Int} (h:aF w base (.slice a n cap) xs):xs.length≤cap∧cap≤9223372036854775807:=by
 rcases h.2 with ⟨e,h2⟩ | ⟨g,cap',cur,e,-,-,h3,h4,-⟩
 ·injection e with e1 e2 e3
  exact ⟨by omega,by omega⟩
 injection e with e1 e2 e3
 unfold maxLen at h4;exact ⟨by omega,by omega⟩
theorem dW {P:Program} (w:World) (base:Nat) (t ty e:TypeId) (i:TypeInfo) (size:Nat) (ht:P.underlying t=some (.slice e)) (hi:P.info? e=some i)
  (v:Value) (n:Nat) (xs:List Value) (hown:w.ownsRow base e size v n xs) (c:Nat):(Builtin.append_ #[t,t] ty #[v,.slice none 0 c]).run P w=.ok v w:=by
 rcases hown.2 with ⟨rfl,rfl⟩ | ⟨g,cap,cur,rfl,_,_,hnc,_⟩
 ·simp [Builtin.append_,run_underlying ht,sizeOf,typeInfo,hi,Builtin.lenOf,Builtin.firstCells]
 simp [Builtin.append_,run_underlying ht,sizeOf,typeInfo,hi,Builtin.lenOf,Builtin.firstCells,hnc,storeCells]
theorem me {w W:World} (base:Nat) (ty:TypeId) (ys xs:List Int) (v:Value) (A:Option Addr) (c:Nat)
  (hr:∀ j y,ys[j]?=some y→∃ ad,A=some ad∧w.cell? (ad.add j)=some (.int .i64 y)) (hown:aF w base v xs) (hW:Below base W w) (hB:base≤w.heap.size) (hl:xs.length+ys.length≤10000000000) :
  ∃ v' w',(Builtin.append_ #[26,26] ty #[v,.slice A ys.length c]).run Tryz.prog w=.ok v' w'∧aF w' base v' (xs ++ ys)∧Below base W w':=by
 obtain ⟨i0,hi,hz0,hz1,hz2⟩:=info_parts kF
 cases A with
 | none=>
  have he:ys=[]:=by
   cases ys with
   | nil=>rfl
   | cons y ys=>obtain ⟨ad,h,-⟩:=hr 0 y rfl;cases h
  subst he;exact ⟨v,w,dW w base _ _ _ i0 1 Tryz.underlying26 hi _ _ _ hown c,by simpa using hown,hW⟩
 | some ad=>
 obtain ⟨v',w',h1,h2,h3,-,-⟩:=run_append_own_at (P:=Tryz.prog) w base 26 ty 3 i0 (.int .i64 0) 1 8 Tryz.underlying26 hi hz0 hz1 hz2 rfl (by decide) v xs.length (xs.map (Value.int .i64)) hown ad ys.length c (ys.map (Value.int .i64))
  (by simp) (fun j u hu=>by
   rw [List.getElem?_map] at hu
   cases hy:ys[j]? with
   | none=>rw [hy] at hu;cases hu
   | some y=>
    rw [hy] at hu;obtain ⟨JZ,h1,h2⟩:=hr j y hy;obtain rfl:=Option.some.inj h1;obtain rfl:=Option.some.inj hu
    exact h2) (fun u hu=>by
   obtain ⟨y,-,rfl⟩:=List.mem_map.1 hu
   rfl) (by unfold maxLen;omega) (by omega) hB
 refine ⟨v',w',h1,?_,hW.grown h3 hB fun k hk=>(hown.lt k hk).1⟩;unfold aF;rw [List.map_append,List.length_append];exact h2
theorem oI {ops:Array Oper} {rest:List Oper} {o:Oper} {a:Act} {Q:Exit→Act→World→Prop} {w W:World} (base:Nat) (ys xs:List Int) (v:Value) (A:Option Addr) (m c:Nat) (hm:ys.length=m) (hgd:o.guard=none) (s x:Operand)
  (ho:o.op=.call { callee:=.builtin .append,args:=#[s,x],argTypes:=#[26,26] }) (hs:a.eval s=v) (hx:a.eval x=.slice A m c)
  (hr:∀ j y,ys[j]?=some y→∃ ad,A=some ad∧w.cell? (ad.add j)=some (.int .i64 y)) (hown:aF w base v xs) (hW:Below base W w) (hB:base≤w.heap.size) (hl:xs.length+ys.length≤10000000000)
  (h:∀ v' w',aF w' base v' (xs ++ ys)→Below base W w'→wpList Tryz.prog ops Q rest (a.put o.dst v') w') :
  wpList Tryz.prog ops Q (o :: rest) a w:=by
 subst hm
 refine wpList_plain hgd fun _ hK=>?_
 obtain ⟨v',w',h1,h2,h3⟩:=me (w:=w) (W:=W) base o.type ys xs v A c hr hown hW hB hl;unfold Oper.wp execOp;simp only [ho,resolve,invoke,builtin,Sem.run_bind,Sem.run_pure,Result.andThen_ok,List.map_toArray,List.map_cons,List.map_nil,hs,hx,h1];exact hK _ _ (h v' w' h2 h3)
namespace Rw
variable {α:Type}
structure Enc (α:Type) where
 t:TypeId
 k:Nat
 cells:α→List Value
 len:∀ x,(cells x).length=k
 one:∀ x,∀ u ∈ cells x,u.oneCell'=true
 pos:0<k
theorem bp (E:Enc α):∀ xs:List α,(xs.flatMap E.cells).length=xs.length*E.k
 | []=>by simp
 | x :: xs=>by rw [List.flatMap_cons,List.length_append,bp E xs,E.len,List.length_cons,Nat.add_mul];omega
theorem flat_get (E:Enc α):∀ (xs:List α) (j i:Nat) (x:α),xs[j]?=some x→i<E.k→(xs.flatMap E.cells)[j*E.k+i]?=(E.cells x)[i]?
 | [],_,_,_,h,_=>by simp at h
 | y :: ys,0,i,x,h,hi=>by
  simp only [List.getElem?_cons_zero,Option.some.injEq] at h;subst h;rw [List.flatMap_cons,Nat.zero_mul,Nat.zero_add,List.getElem?_append_left (by rw [E.len];exact hi)]
 | y :: ys,j+1,i,x,h,hi=>by
  have ih:=flat_get E ys j i x (by simpa using h) hi;rw [List.flatMap_cons,List.getElem?_append_right (by rw [E.len,Nat.add_mul];omega),E.len];rw [←ih]
  congr 1
  rw [Nat.add_mul];omega
theorem iT (E:Enc α) (xs:List α) (n:Nat):(xs.take n).flatMap E.cells=(xs.flatMap E.cells).take (n*E.k):=by
 have e:xs.flatMap E.cells=(xs.take n).flatMap E.cells ++ (xs.drop n).flatMap E.cells:=by rw [←List.flatMap_append,List.take_append_drop]
 rcases Nat.lt_or_ge n xs.length with h | h
 ·have hl:((xs.take n).flatMap E.cells).length=n*E.k:=by rw [bp,List.length_take,Nat.min_eq_left (by omega)]
  rw [e,←hl,List.take_left]
 rw [List.take_of_length_le h,List.take_of_length_le (by rw [bp];exact Nat.mul_le_mul_right _ h)]
theorem lG (E:Enc α) (xs:List α) (n:Nat):(xs.drop n).flatMap E.cells=(xs.flatMap E.cells).drop (n*E.k):=by
 have e:xs.flatMap E.cells=(xs.take n).flatMap E.cells ++ (xs.drop n).flatMap E.cells:=by rw [←List.flatMap_append,List.take_append_drop]
 rcases Nat.lt_or_ge n xs.length with h | h
 ·have hl:((xs.take n).flatMap E.cells).length=n*E.k:=by rw [bp,List.length_take,Nat.min_eq_left (by omega)]
  rw [e,←hl,List.drop_left]
 rw [List.drop_eq_nil_of_le h,List.drop_eq_nil_of_le (by rw [bp];exact Nat.mul_le_mul_right _ h)];rfl
theorem gE (E:Enc α) (xs:List α):∀ u ∈ xs.flatMap E.cells,u.oneCell'=true:=by
 intro u hu;obtain ⟨x,-,h⟩:=List.mem_flatMap.1 hu;exact E.one x u h
def Own (E:Enc α) (w:World) (base:Nat) (v:Value) (xs:List α):Prop:=w.ownsRow base E.t E.k v xs.length (xs.flatMap E.cells)
variable {E:Enc α} {w w':World} {base base':Nat} {v:Value} {xs:List α}
theorem Own.nil (E:Enc α) (w:World) (base:Nat):Own E w base (.slice none 0 0) ([]:List α):=World.ownsRow_nil w base _ _
theorem Own.pR (E:Enc α) (w:World) (base:Nat) (hb:base≤w.heap.size):Own E (w.alloc (.cells #[] E.t)) base (.slice (some ⟨w.heap.size,0,none⟩) 0 0) ([]:List α):=
 World.ownsRow_made w #[] 0 hb (by unfold maxLen;omega) (by simp)
theorem Own.kept {r:Option Nat} (h:Own E w base v xs) (hg:w.grownBy w' r) (hr:∀ g,r=some g→v.ownBlock≠some g):Own E w' base v xs:=by
 refine World.ownsRow.kept h hg ?_
 cases r with
 | none=>
  cases hv:v.ownBlock
  ·exact Or.inl rfl
  exact Or.inr (by simp)
 | some g=>exact Or.inr (hr g rfl)
theorem Own.below (h:Own E w base v xs) (hb:Below w.heap.size w w'):Own E w' base v xs:=h.kept (cG hb none) fun g hg=>by cases hg
theorem Own.down (h:Own E w base v xs) (hb:base'≤base):Own E w base' v xs:=by
 obtain ⟨h1,h2⟩:=h;refine ⟨h1,?_⟩
 rcases h2 with h2 | ⟨g,cap,cur,hv,hg,hh,r⟩
 ·exact Or.inl h2
 exact Or.inr ⟨g,cap,cur,hv,Nat.le_trans hb hg,hh,r⟩
theorem Own.alloc (h:Own E w base v xs) (o:Obj):Own E (w.alloc o) base v xs:=World.ownsRow.alloc h o
theorem Own.lt (h:Own E w base v xs):∀ g,v.ownBlock=some g→base≤g∧g<w.heap.size:=World.ownsRow.lt h
theorem Own.forms (h:Own E w base v xs):(v=.slice none 0 0∧xs=[])∨∃ g cap,v=.slice (some ⟨g,0,none⟩) xs.length cap∧base≤g∧g<w.heap.size∧xs.length≤cap∧cap≤9223372036854775807:=by
 rcases h.2 with ⟨e,h2⟩ | ⟨g,cap',cur,e,hg,hh,h3,h4,-⟩
 ·exact Or.inl ⟨e,List.eq_nil_of_length_eq_zero h2⟩
 exact Or.inr ⟨g,cap',e,hg,(Array.getElem?_eq_some_iff.1 hh).1,h3,by unfold maxLen at h4;omega⟩
def Seen (E:Enc α) (w:World) (hi:Nat) (v:Value) (xs:List α):Prop:=
 ∃ (a:Option Addr) (cap:Nat),v=.slice a xs.length cap∧xs.length≤cap∧cap≤9223372036854775807∧
  ∀ j,j<xs.length→∃ g x,a=some ⟨g,0,none⟩∧g<hi∧Hid (xs[j]?=some x)∧∀ i u,(E.cells x)[i]?=some u→w.cell? ⟨g,j*E.k+i,none⟩=some u
theorem Seen.below {hi:Nat} (h:Seen E w hi v xs) (hb:Below hi w w'):Seen E w' hi v xs:=by
 obtain ⟨a,cap,h1,h2,h2',h3⟩:=h;refine ⟨a,cap,h1,h2,h2',fun k hk=>?_⟩;obtain ⟨g,x,e1,e2,e3,e4⟩:=h3 k hk;exact ⟨g,x,e1,e2,e3,fun i u hu=>(hb.cell (p:=⟨g,k*E.k+i,none⟩) e2).trans (e4 i u hu)⟩
theorem Own.seen (h:Own E w base v xs):Seen E w w.heap.size v xs:=by
 have hf:=h.forms;obtain ⟨h1,h2⟩:=h
 rcases h2 with ⟨rfl,hn⟩ | ⟨g,cap,cur,rfl,hg,hh,hc,hm,hs,ht⟩
 ·exact ⟨none,0,by rw [hn],by omega,by omega,fun k hk=>by omega⟩
 refine ⟨some ⟨g,0,none⟩,cap,rfl,hc,by unfold maxLen at hm;omega,fun j hj=>⟨g,xs[j],rfl,(Array.getElem?_eq_some_iff.1 hh).1,List.getElem?_eq_getElem hj,fun i u hu=>?_⟩⟩;rw [cell_of_row w g _ cur _ (0,0) hh]
 have hi:i<E.k:=by rw [←E.len xs[j]];exact (List.getElem?_eq_some_iff.1 hu).1
 have e:=flat_get E xs j i _ (List.getElem?_eq_getElem hj) hi;rw [hu,←ht,List.getElem?_take] at e
 split at e
 ·simpa using e
 cases e
def From (E:Enc α) (w:World) (A:Option Addr) (ys:List α):Prop:=∀ j u,(ys.flatMap E.cells)[j]?=some u→∃ ad,A=some ad∧w.cell? (ad.add j)=some u
theorem From.nil (E:Enc α) (w:World) (A:Option Addr):From E w A ([]:List α):=fun j u h=>by simp at h
theorem From.lit (E:Enc α) (w:World) (x:α) (H:Nat) (hH:w.heap.size=H):From E (w.alloc (.cells (E.cells x).toArray E.t)) (some ⟨H,0,none⟩) [x]:=by
 intro j u h;subst hH
 have hadd:∀ b i:Nat,(⟨b,0,none⟩:Addr).add i=⟨b,i,none⟩:=fun b i=>by unfold Addr.add;split <;> simp_all
 refine ⟨_,rfl,?_⟩;rw [hadd,World.cell?_alloc_at _ _ _ _ rfl]
 simpa using h
theorem Own.cellAt {g n cap:Nat} (hn:n=xs.length) (h:Own E w base (.slice (some ⟨g,0,none⟩) n cap) xs) (j:Nat) (u:Value) (hu:(xs.flatMap E.cells)[j]?=some u):w.cell? ⟨g,j,none⟩=some u∧w.frozen? ⟨g,j,none⟩=false:=by
 subst hn;have hj:=(List.getElem?_eq_some_iff.1 hu).1;rw [bp] at hj;exact ⟨(World.ownsRow.cellAt h j hj).trans hu,World.ownsRow.frozenAt h j⟩
theorem Own.uY {g n cap:Nat} (hn:n=xs.length) (h:Own E w base (.slice (some ⟨g,0,none⟩) n cap) xs) {hi:Nat} (hhi:g<hi) (hb:Below hi w w') (m:Nat):From E w' (some ⟨g,0,none⟩) (xs.take m):=by
 intro j u hu
 have hadd:∀ b i:Nat,(⟨b,0,none⟩:Addr).add i=⟨b,i,none⟩:=fun b i=>by unfold Addr.add;split <;> simp_all
 rw [iT,List.getElem?_take] at hu
 split at hu
 ·exact ⟨_,rfl,by rw [hadd];exact (hb.cell (p:=⟨g,j,none⟩) hhi).trans (h.cellAt hn j u hu).1⟩
 cases hu
theorem Own.vy {g n cap:Nat} (hn:n=xs.length) (h:Own E w base (.slice (some ⟨g,0,none⟩) n cap) xs) {hi:Nat} (hhi:g<hi) (hb:Below hi w w') (m o:Nat) (ho:o=m*E.k):From E w' (some ⟨g,o,none⟩) (xs.drop m):=by
 intro j u hu;subst ho
 have Dj:∀ b i j:Nat,(⟨b,i,none⟩:Addr).add j=⟨b,i+j,none⟩:=fun b i j=>by unfold Addr.add;split <;> simp_all
 rw [lG,List.getElem?_drop] at hu;exact ⟨_,rfl,by rw [Dj];exact (hb.cell (p:=⟨g,m*E.k+j,none⟩) hhi).trans (h.cellAt hn _ u hu).1⟩
theorem fS (base g cap n:Nat) (t:TypeId) (k:Nat):∀ (l:List Value) (o:Nat) (w:World) (zs:List Value),w.ownsRow base t k (.slice (some ⟨g,0,none⟩) n cap) n zs→
  ∃ ys,(w.setCells g o l).ownsRow base t k (.slice (some ⟨g,0,none⟩) n cap) n ys∧ys.take o=zs.take o∧w.grownBy (w.setCells g o l) (some g)
 | [],o,w,zs,h=>⟨zs,h,rfl,fB _ _⟩
 | u :: l,o,w,zs,h=>by
  have h1:=World.ownsRow.stored h o u;obtain ⟨ys,k1,k2,k3⟩:=fS base g cap n t k l (o+1) _ _ h1.1;refine ⟨ys,k1,?_,cV h1.2 k3⟩;have:=congrArg (List.take o) k2;rw [List.take_take,List.take_take,Nat.min_eq_left (by omega)] at this;rw [this,List.take_set,List.set_eq_of_length_le (by rw [List.length_take];omega)]
theorem vT {t:TypeId} {k g n cap i:Nat} {zs:List Value} (h:w.ownsRow base t k (.slice (some ⟨g,0,none⟩) n cap) n zs) (hi:i≤n):w.ownsRow base t k (.slice (some ⟨g,0,none⟩) i cap) i (zs.take (i*k)):=by
 obtain ⟨h1,h2⟩:=h;have hik:i*k≤n*k:=Nat.mul_le_mul_right _ hi
 rcases h2 with ⟨e,-⟩ | ⟨g',cap',cur,e,hg,hh,hc,hm,hs,ht⟩
 ·cases e
 injection e with e1 e2 e3
 simp only [Option.some.injEq,Addr.mk.injEq,and_true] at e1;subst e1 e3;refine ⟨by rw [List.length_take];omega,Or.inr ⟨g,cap,cur,rfl,hg,hh,by omega,hm,hs,?_⟩⟩;rw [←ht,List.take_take,Nat.min_eq_left hik]
theorem Own.cut {g n cap i:Nat} {ys:List α} (hn:n=xs.length) (h:Own E w base (.slice (some ⟨g,0,none⟩) n cap) xs) (hi:i≤n) (l:List Value) (hy:ys=xs.take i) (o:Nat) (ho:o=i*E.k) :
  Own E (w.setCells g o l) base (.slice (some ⟨g,0,none⟩) i cap) ys∧w.grownBy (w.setCells g o l) (some g):=by
 subst hn hy ho;obtain ⟨rs,k1,k2,k3⟩:=fS base g cap xs.length E.t E.k l (i*E.k) w _ h;refine ⟨?_,k3⟩
 have hl:(xs.take i).length=i:=by rw [List.length_take];omega
 have:=vT k1 hi;rw [k2,←iT] at this;unfold Own;rw [hl];exact this
theorem j7 (E:Enc α):∀ (xs:List α) (j:Nat) (x:α),j<xs.length→∀ t,((xs.set j x).flatMap E.cells)[t]?=if j*E.k≤t∧t<j*E.k+E.k then (E.cells x)[t - j*E.k]? else (xs.flatMap E.cells)[t]?
 | [],j,x,h,_=>by simp at h
 | y :: ys,0,x,h,t=>by
  rw [List.set_cons_zero,List.flatMap_cons,List.flatMap_cons]
  by_cases ht:t<E.k
  ·rw [List.getElem?_append_left (by rw [E.len];exact ht),if_pos ⟨by omega,by omega⟩]
   simp
  rw [List.getElem?_append_right (by rw [E.len];omega),if_neg (by omega),List.getElem?_append_right (by rw [E.len];omega),E.len,E.len]
 | y :: ys,j+1,x,h,t=>by
  have ih:=j7 E ys j x (by simpa using h);rw [List.set_cons_succ,List.flatMap_cons,List.flatMap_cons]
  have e:(j+1)*E.k=j*E.k+E.k:=by rw [Nat.add_mul];omega
  by_cases ht:t<E.k
  ·rw [List.getElem?_append_left (by rw [E.len];exact ht),List.getElem?_append_left (by rw [E.len];exact ht),if_neg (by omega)]
  rw [List.getElem?_append_right (by rw [E.len];omega),List.getElem?_append_right (by rw [E.len];omega),E.len,ih (t - E.k),e]
  by_cases hc:j*E.k≤t - E.k∧t - E.k<j*E.k+E.k
  ·rw [if_pos hc,if_pos (by omega)]
   congr 1
   omega
  rw [if_neg hc,if_neg (by omega)]
structure Fits (P:Program) (E:Enc α) (ts:TypeId):Prop where
 under:P.underlying ts=some (.slice E.t)
 info:∃ i z,P.info? E.t=some i∧i.zero=some z∧i.size=E.k∧i.bytes≤1000∧z.cells.size=E.k
theorem oR {P:Program} {ts:TypeId} (F:Fits P E ts) {W:World} (ty:TypeId) (ys:List α) (A:Option Addr) (c:Nat)
  (hr:From E w A ys) (hown:Own E w base v xs) (hW:Below base W w) (hB:base≤w.heap.size) (hl:xs.length+ys.length≤100000000000) :
  ∃ v' w',(Builtin.append_ #[ts,ts] ty #[v,.slice A ys.length c]).run P w=.ok v' w'∧Own E w' base v' (xs ++ ys)∧Below base W w':=by
 obtain ⟨i,z,hi,hz,hs,hby,hzc⟩:=F.info
 cases A with
 | none=>
  have he:ys=[]:=by
   cases ys with
   | nil=>rfl
   | cons y ys=>
   have hp:=E.pos;have hl:=E.len y;obtain ⟨ad,h,-⟩:=hr 0 ((E.cells y)[0]'(by omega)) (by rw [List.flatMap_cons,List.getElem?_append_left (by omega)];exact List.getElem?_eq_getElem _);cases h
  subst he;exact ⟨v,w,dW w base _ _ _ i E.k F.under hi _ _ _ hown c,by simpa using hown,hW⟩
 | some ad=>
 have hbb:(xs.length+ys.length)*i.bytes≤140737488355328:=Nat.le_trans (Nat.mul_le_mul hl hby) (by omega)
 obtain ⟨v',w',h1,h2,h3,-,-⟩:=run_append_own_at (P:=P) w base ts ty E.t i z E.k i.bytes F.under hi hz hs rfl hzc E.pos v xs.length (xs.flatMap E.cells) hown ad ys.length c (ys.flatMap E.cells)
  (bp E ys) (fun j u hu=>by
   obtain ⟨JZ,h1,h2⟩:=hr j u hu;obtain rfl:=Option.some.inj h1
   exact h2) (gE E ys) (by unfold maxLen;omega) hbb hB
 refine ⟨v',w',h1,?_,hW.grown h3 hB fun k hk=>(Own.lt hown k hk).1⟩;unfold Own;rw [List.flatMap_append,List.length_append];exact h2
theorem push {P:Program} {ts:TypeId} (F:Fits P E ts) {ops:Array Oper} {rest:List Oper} {o:Oper} {a:Act} {Q:Exit→Act→World→Prop} {W:World} (base:Nat) (ys xs:List α) (v:Value) (A:Option Addr) (m c:Nat) (hm:ys.length=m) (hgd:o.guard=none) (s x:Operand)
  (ho:o.op=.call { callee:=.builtin .append,args:=#[s,x],argTypes:=#[ts,ts] }) (hs:a.eval s=v) (hx:a.eval x=.slice A m c)
  (hr:From E w A ys) (hown:Own E w base v xs) (hW:Below base W w) (hB:base≤w.heap.size) (hl:xs.length+ys.length≤100000000000)
  (h:∀ v' w',Own E w' base v' (xs ++ ys)→Below base W w'→wpList P ops Q rest (a.put o.dst v') w') :
  wpList P ops Q (o :: rest) a w:=by
 subst hm
 refine wpList_plain hgd fun _ hK=>?_
 obtain ⟨v',w',h1,h2,h3⟩:=oR F (w:=w) (W:=W) (base:=base) o.type ys A c hr hown hW hB hl;unfold Oper.wp execOp;simp only [ho,resolve,invoke,builtin,Sem.run_bind,Sem.run_pure,Result.andThen_ok,List.map_toArray,List.map_cons,List.map_nil,hs,hx,h1];exact hK _ _ (h v' w' h2 h3)
theorem gM {P:Program} {ts:TypeId} (F:Fits P E ts) {W:World} (ty:TypeId) (ys:List α) (A:Option Addr) (c:Nat)
  (hr:From E w A ys) (hown:Own E w base v xs) (hW:Below base W w) (hB:base≤w.heap.size) (hl:xs.length+ys.length≤100000000000) :
  ∃ v' w',(Builtin.append_ #[ts,ts] ty #[v,.slice A ys.length c]).run P w=.ok v' w'∧Own E w' base v' (xs ++ ys)∧Below base W w'∧w.grownBy w' v.ownBlock:=by
 obtain ⟨i,z,hi,hz,hs,hby,hzc⟩:=F.info
 cases A with
 | none=>
  have he:ys=[]:=by
   cases ys with
   | nil=>rfl
   | cons y ys=>
   have hp:=E.pos;have hl:=E.len y;obtain ⟨ad,h,-⟩:=hr 0 ((E.cells y)[0]'(by omega)) (by rw [List.flatMap_cons,List.getElem?_append_left (by omega)];exact List.getElem?_eq_getElem _);cases h
  subst he;exact ⟨v,w,dW w base _ _ _ i E.k F.under hi _ _ _ hown c,by simpa using hown,hW,World.grownBy.refl _ _⟩
 | some ad=>
 have hbb:(xs.length+ys.length)*i.bytes≤140737488355328:=Nat.le_trans (Nat.mul_le_mul hl hby) (by omega)
 obtain ⟨v',w',h1,h2,h3,-,-⟩:=run_append_own_at (P:=P) w base ts ty E.t i z E.k i.bytes F.under hi hz hs rfl hzc E.pos v xs.length (xs.flatMap E.cells) hown ad ys.length c (ys.flatMap E.cells)
  (bp E ys) (fun j u hu=>by
   obtain ⟨JZ,h1,h2⟩:=hr j u hu;obtain rfl:=Option.some.inj h1
   exact h2) (gE E ys) (by unfold maxLen;omega) hbb hB
 refine ⟨v',w',h1,?_,hW.grown h3 hB fun k hk=>(Own.lt hown k hk).1,h3⟩;unfold Own;rw [List.flatMap_append,List.length_append];exact h2
end Rw
end
section
namespace M
theorem lV {q d:Int} (hq:gP q) (h2:2≤d) (hd:q % d=0):d=q:=by
 have hdvd:d ∣ q:=Int.dvd_of_emod_eq_zero hd;obtain ⟨c,hc⟩:=hdvd;have hq2:=hq.1
 have hc1:1≤c:=by
  rcases Int.lt_or_le c 1 with h | h
  ·have:d*c≤0:=Int.mul_nonpos_of_nonneg_of_nonpos (by omega) (by omega)
   omega
  exact h
 rcases Int.lt_or_le c 2 with h | h
 ·have:c=1:=by omega
  rw [this] at hc;omega
 exfalso
 rcases Int.lt_or_le c d with h' | h'
 ·refine hq.2 c h ?_ ?_
  ·rw [hc];exact Int.mul_le_mul_of_nonneg_right (by omega) (by omega)
  rw [hc];exact Int.mul_emod_left d c
 refine hq.2 d h2 ?_ hd;rw [hc];exact Int.mul_le_mul_of_nonneg_left h' (by omega)
theorem rZ {q x:Int} (hq:gP q) (h:¬ x % q=0):Int.gcd q x=1:=by
 have hg:(Int.gcd q x:Int) ∣ q:=Int.gcd_dvd_left ..;have hg2:(Int.gcd q x:Int) ∣ x:=Int.gcd_dvd_right ..;have hq2:=hq.1;have hpos:0<Int.gcd q x:=Int.gcd_pos_of_ne_zero_left _ (by omega)
 rcases Nat.lt_or_ge (Int.gcd q x) 2 with k | k
 ·omega
 exfalso
 have:=lV hq (d:=(Int.gcd q x:Int)) (by omega) (Int.emod_eq_zero_of_dvd hg);rw [this] at hg2;exact h (Int.emod_eq_zero_of_dvd hg2)
theorem rc {q x y:Int} (hq:gP q) (h:x*y % q=0) (hx:¬ x % q=0):y % q=0:=by
 have h1:=Int.dvd_gcd_mul_iff_dvd_mul.2 (Int.dvd_of_emod_eq_zero h);rw [rZ hq hx] at h1;exact Int.emod_eq_zero_of_dvd (by simpa using h1)
noncomputable def rW (n p:Int):Bool:=prime p && (n % p == 0)
noncomputable def oH (n:Int):List Int:=sel (rW n) 0 (n.natAbs+1)
theorem oV {f:Int→Bool} {k m:Nat} (h:∀ x:Int,(k:Int)≤x→x<m→f x=false) (hkm:k≤m):sel f 0 m=sel f 0 k:=by
 induction m with
 | zero=>
      obtain rfl:k=0:=by omega
      rfl
 | succ m ih=>
 rcases Nat.lt_or_ge k (m+1) with q | q
 ·rw [xG (by rw [Int.zero_add];exact h m (by omega) (by omega)),ih (fun x h1 h2=>h x h1 (by omega)) (by omega)]
 obtain rfl:k=m+1:=by omega
 rfl
structure qn (N n p:Int) (l:List Int):Prop where
 n1:1≤n
 p2:2≤p
 nN:n≤N
 pn:n=1∨p≤n
 pN:p≤N+1
 dvd:N % n=0
 low:∀ d:Int,2≤d→d<p→¬ n % d=0
 big:∀ q:Int,gP q→p≤q→N % q=0→n % q=0
 out:l=sel (rW N) 0 p.toNat
theorem qn.start {N:Int} (h:1≤N):qn N N 2 [] where
 n1:=h
 p2:=by omega
 nN:=by omega
 pn:=by omega
 pN:=by omega
 dvd:=Int.emod_self
 low:=fun d h1 h2=>by omega
 big:=fun q _ _ h=>h
 out:=by
  have:sel (rW N) 0 2=sel (rW N) 0 0:=oV (fun x h1 h2=>by
   unfold rW;rw [rf.2 (fun h=>by have:=h.1;omega)]
   rfl) (by omega)
  exact this.symm
theorem qn.prime {N n p:Int} {l:List Int} (h:qn N n p l) (hn:1<n) (hp:n<p*p):gP n:=by
 refine ⟨by omega,fun d h2 hd=>h.low d h2 ?_⟩;exact yE (by have:=h.p2;omega) (by omega)
theorem wh {a b c:Int} (h:c % b=0) (k:b % a=0):c % a=0:=
 Int.emod_eq_zero_of_dvd (Int.dvd_trans (Int.dvd_of_emod_eq_zero k) (Int.dvd_of_emod_eq_zero h))
structure G9 (n p n':Int):Prop where
 n1:1≤n'
 nn:n'≤n
 dvd:n % n'=0
 big:∀ q:Int,gP q→p<q→n % q=0→n' % q=0
theorem G9.start {n p:Int} (h:1≤n):G9 n p n:=⟨h,by omega,Int.emod_self,fun _ _ _ h=>h⟩
theorem lF {n p:Int} (hp:1≤p) (h:n % p=0):n / p*p=n:=Int.ediv_mul_cancel (Int.dvd_of_emod_eq_zero h)
theorem wg {n p:Int} (hp:2≤p) (hn:1≤n):n / p<n:=by
 have:=Int.ediv_lt_of_lt_mul (a:=n) (b:=n) (c:=p) (by omega) (by
  have:=Int.mul_le_mul_of_nonneg_left hp (show 0≤n by omega)
  omega)
 exact this
theorem G9.step {n p n':Int} (h:G9 n p n') (hp:gP p) (hd:n' % p=0):G9 n p (n' / p):=by
 have hp2:=hp.1;have he:=lF (by omega) hd;have h1:=h.n1
 have hpos:1≤n' / p:=by
  rcases Int.lt_or_le (n' / p) 1 with k | k
  ·have:n' / p*p≤0:=Int.mul_nonpos_of_nonpos_of_nonneg (by omega) (by omega)
   omega
  exact k
 have hlt:=wg hp2 h1;refine ⟨hpos,by have:=h.nn;omega,wh h.dvd ?_,fun q hq hpq hnq=>?_⟩
 ·exact Int.emod_eq_zero_of_dvd ⟨p,he.symm⟩
 have:=h.big q hq hpq hnq;refine rc hq (x:=p) ?_ ?_
 ·rw [Int.mul_comm,he];exact this
 intro hz;have:=lV hp hq.1 hz;omega
theorem qn.done {N n p:Int} {l:List Int} (h:qn N n p l) (hn:n≤1):l=oH N:=by
 have h1:=h.n1
 have hn:n=1:=by omega
 have hN:=h.nN;rw [h.out];unfold oH
 have e:((N.natAbs:Nat):Int)=N:=by omega
 refine (oV (fun x h2 h3=>?_) (by have:=h.pN;omega)).symm;unfold rW
 cases hp:M.prime x
 ·rfl
 cases hd:(N % x == 0)
 ·rfl
 have hx:=rb.1 hp;have:=h.big x hx (by have:=h.p2;omega) (by simpa using hd);rw [hn] at this;have:=hx.1;have:(1:Int) % x=1:=Int.emod_eq_of_lt (by omega) (by omega);omega
theorem ug {a p:Int} (hp:2≤p) (ha:a≠0) (h:a % p=0):(a / p).natAbs<a.natAbs∧a / p≠0:=by
 have he:=lF (n:=a) (by omega) h
 have e2:a.natAbs=(a / p).natAbs*p.natAbs:=by rw [←Int.natAbs_mul,he]
 have hp':2≤p.natAbs:=by omega
 have hne:a / p≠0:=by
  intro hz;rw [hz] at he;omega
 have:(a / p).natAbs*2≤(a / p).natAbs*p.natAbs:=Nat.mul_le_mul_left _ hp';exact ⟨by omega,hne⟩
end M
namespace M
def lW (u4 u6:Int):Nat→Int→Int→Int × Int
 | 0,a,b=>(a,b)
 | f+1,a,b=>if a % u4=0∧b % u6=0∧(a≠0∨b≠0) then lW u4 u6 f (a / u4) (b / u6) else (a,b)
theorem uT {u4 u6:Int} {f:Nat} {a b:Int} (hf:a.natAbs+b.natAbs≤f) (h:a % u4=0) (h':b % u6=0) (hn:a≠0∨b≠0):lW u4 u6 f a b=lW u4 u6 (f - 1) (a / u4) (b / u6):=by
 cases f with
 | zero=>omega
 | succ f=>simp [lW,h,h',hn]
theorem gw {a p:Int} (hp:2≤p) (h:a % p=0):(a / p).natAbs≤a.natAbs∧(a≠0→(a / p).natAbs<a.natAbs∧a / p≠0):=by
 by_cases ha:a=0
 ·subst ha;simp
 have:=ug hp ha h;exact ⟨by omega,fun _=>this⟩
theorem ru {u4 u6 a b:Int} (h4:2≤u4) (h6:2≤u6) (h:a % u4=0) (h':b % u6=0) (hn:a≠0∨b≠0) :
  (a / u4).natAbs+(b / u6).natAbs<a.natAbs+b.natAbs∧(a / u4≠0∨b / u6≠0):=by
 have h1:=gw h4 h;have h2:=gw h6 h'
 rcases hn with k | k
 ·have:=h1.2 k
  exact ⟨by omega,Or.inl this.2⟩
 have:=h2.2 k;exact ⟨by omega,Or.inr this.2⟩
def xJ (u4 u6:Int) (x:Int × Int):Int × Int:=lW u4 u6 (x.1.natAbs+x.2.natAbs) x.1 x.2
structure sS (u4 u6:Int) (p:Int × Int) (x y:Int):Prop where
 ne:x≠0∨y≠0
 bx:x.natAbs≤p.1.natAbs
 bY:y.natAbs≤p.2.natAbs
 st:∃ f,x.natAbs+y.natAbs≤f∧lW u4 u6 f x y=xJ u4 u6 p
theorem sS.start {u4 u6 x y:Int} {p:Int × Int} (hp:(x,y)=p) (h:x≠0∨y≠0):sS u4 u6 p x y:=by
 subst hp;exact ⟨h,yM _,yM _,_,yM _,rfl⟩
theorem sS.step {u4 u6 x y:Int} {p:Int × Int} (h4:2≤u4) (h6:2≤u6) (h:sS u4 u6 p x y) (hx:x % u4=0) (hy:y % u6=0):sS u4 u6 p (x / u4) (y / u6):=by
 obtain ⟨f,hf,hs⟩:=h.st;have hsum:=ru h4 h6 hx hy h.ne;have h1:=(gw h4 hx).1;have h2:=(gw h6 hy).1;refine ⟨hsum.2,Nat.le_trans h1 h.bx,Nat.le_trans h2 h.bY,f - 1,by omega,?_⟩;rw [←uT hf hx hy h.ne];exact hs
end M
namespace M
def fC (p:Int):Nat→Int
 | 0=>1
 | k+1=>fC p k*p
end M
namespace M
def cN (xs:List Int) (n:Int):Nat:=(xs.takeWhile (decide <| ·<n)).length
def put (xs:List Int) (n:Int):List Int:=if xs[cN xs n]?=some n then xs else xs.take (cN xs n) ++ [n] ++ xs.drop (cN xs n)
end M
end
section
open Go.RowKit
theorem gK {w:World} {b1 b2 n1 n2 s1 s2:Nat} {t1 t2:TypeId} {v1 v2:Value} {x1 x2:List Value} (h1:w.ownsRow b1 t1 s1 v1 n1 x1) (h2:w.ownsRow b2 t2 s2 v2 n2 x2) (ht:t1≠t2):∀ g,v2.ownBlock=some g→v1.ownBlock≠some g:=by
 intro g hg hg'
 rcases h1.2 with ⟨rfl,-⟩ | ⟨g1,c1,Cx,rfl,-,Av,-⟩
 ·cases hg'
 rcases h2.2 with ⟨rfl,-⟩ | ⟨g2,c2,cur2,rfl,-,Ao,-⟩
 ·cases hg
 simp only [Value.ownBlock,Option.some.injEq] at hg hg';subst hg hg';rw [Av] at Ao
 injection Ao with Ao
 injection Ao with _ ht' _
 exact ht ht'
namespace Rw
variable {α:Type} {E:Enc α} {w w':World} {base:Nat} {v:Value} {xs:List α}
theorem Own.M8 (E:Enc α) (x:α) (w:World) (base:Nat) (hb:base≤w.heap.size):Own E (w.alloc (.cells (E.cells x).toArray E.t)) base (.slice (some ⟨w.heap.size,0,none⟩) 1 1) [x]:=
 ⟨by simp [E.len],.inr ⟨w.heap.size,1,(E.cells x).toArray,rfl,hb,heap_alloc_new w _,yM 1,by unfold maxLen;omega,by simp [E.len],by simp [E.len,List.take_of_length_le]⟩⟩
theorem ro {P:Program} {ts:TypeId} (F:Fits P E ts) (ty:TypeId) (ys:List α) (ad:Addr) (c:Nat)
  (hr:From E w (some ad) ys) (hown:Own E w base v xs) (hB:base≤w.heap.size) (hl:xs.length+ys.length≤100000000000) :
  ∃ v' w',(Builtin.append_ #[ts,ts] ty #[v,.slice (some ad) ys.length c]).run P w=.ok v' w'∧Own E w' base v' (xs ++ ys)∧w.grownBy w' v.ownBlock∧(v'.ownBlock=v.ownBlock∨v'.ownBlock=some w.heap.size):=by
 obtain ⟨i,z,hi,hz,hs,hby,hzc⟩:=F.info;have hbb:(xs.length+ys.length)*i.bytes≤140737488355328:=Nat.le_trans (Nat.mul_le_mul hl hby) (by omega)
 obtain ⟨v',w',h1,h2,h3,-,h5⟩:=run_append_own_at (P:=P) w base ts ty E.t i z E.k i.bytes F.under hi hz hs rfl hzc E.pos v xs.length (xs.flatMap E.cells) hown ad ys.length c (ys.flatMap E.cells)
  (bp E ys) (fun j u hu=>by
   obtain ⟨JZ,h1,h2⟩:=hr j u hu;obtain rfl:=Option.some.inj h1
   exact h2) (gE E ys) (by unfold maxLen;omega) hbb hB
 refine ⟨v',w',h1,?_,h3,h5⟩;unfold Own;rw [List.flatMap_append,List.length_append];exact h2
theorem xu {P:Program} {ts:TypeId} (F:Fits P E ts) {ops:Array Oper} {rest:List Oper} {o:Oper} {a:Act} {Q:Exit→Act→World→Prop} (base:Nat) (ys xs:List α) (v:Value) (ad:Addr) (m c:Nat) (hm:ys.length=m) (hgd:o.guard=none) (s x:Operand)
  (ho:o.op=.call { callee:=.builtin .append,args:=#[s,x],argTypes:=#[ts,ts] }) (hs:a.eval s=v) (hx:a.eval x=.slice (some ad) m c)
  (hr:From E w (some ad) ys) (hown:Own E w base v xs) (hB:base≤w.heap.size) (hl:xs.length+ys.length≤100000000000)
  (h:∀ v' w',Own E w' base v' (xs ++ ys)→w.grownBy w' v.ownBlock→(v'.ownBlock=v.ownBlock∨v'.ownBlock=some w.heap.size)→wpList P ops Q rest (a.put o.dst v') w') :
  wpList P ops Q (o :: rest) a w:=by
 subst hm
 refine wpList_plain hgd fun _ hK=>?_
 obtain ⟨v',w',h1,h2,h3,h4⟩:=ro F (w:=w) (base:=base) o.type ys ad c hr hown hB hl;unfold Oper.wp execOp;simp only [ho,resolve,invoke,builtin,Sem.run_bind,Sem.run_pure,Result.andThen_ok,List.map_toArray,List.map_cons,List.map_nil,hs,hx,h1];exact hK _ _ (h v' w' h2 h3 h4)
end Rw
theorem aF.cellAt {w:World} {base g n cap:Nat} {xs:List Int} (hn:n=xs.length) (h:aF w base (.slice (some ⟨g,0,none⟩) n cap) xs) {i:Nat} {t:Int} (ht:xs[i]?=some t):w.cell? ⟨g,i,none⟩=some (.int .i64 t):=by
 have hi:=(List.getElem?_eq_some_iff.1 ht).1;subst hn;have:=World.ownsRow.cellAt (g:=g) (cap:=cap) (n:=xs.length) h i (by omega);rw [this,List.getElem?_map,ht];rfl
end
section
open Go.RowKit Go.Shelf
theorem aF.setCells (base g cap n:Nat):∀ (l:List Int) (o:Nat) (w:World) (xs:List Int),n=xs.length→aF w base (.slice (some ⟨g,0,none⟩) n cap) xs→
  ∃ ys,aF (w.setCells g o (l.map (Value.int .i64))) base (.slice (some ⟨g,0,none⟩) n cap) ys∧ys.take o=xs.take o∧ys.length=xs.length∧w.grownBy (w.setCells g o (l.map (Value.int .i64))) (some g)
 | [],o,w,xs,_,h=>⟨xs,h,rfl,rfl,fB _ _⟩
 | x :: l,o,w,xs,hn,h=>by
  have h1:=aF.set (j:=o) hn h x rfl;obtain ⟨ys,k1,k2,k3,k4⟩:=aF.setCells base g cap n l (o+1) _ (xs.set o x) (by rw [List.length_set];exact hn) h1.1;refine ⟨ys,k1,?_,by rw [k3,List.length_set],cV h1.2 k4⟩;have:=congrArg (List.take o) k2;rw [List.take_take,List.take_take,Nat.min_eq_left (by omega)] at this;rw [this,List.take_set,List.set_eq_of_length_le (by rw [List.length_take];omega)]
theorem aF.cut {w:World} {base g cap n:Nat} {xs:List Int} (hn:n=xs.length) (h:aF w base (.slice (some ⟨g,0,none⟩) n cap) xs) {i:Nat} (hi:i≤n) {ys:List Int} (hy:ys=xs.take i):aF w base (.slice (some ⟨g,0,none⟩) i cap) ys:=by
 subst hy hn;obtain ⟨h1,h2⟩:=h
 have hl:(xs.take i).length=i:=by rw [List.length_take];omega
 rcases h2 with ⟨e,-⟩ | ⟨g',cap',cur,e,hg,hh,hc,hm,hs,ht⟩
 ·cases e
 injection e with e1 e2 e3
 simp only [Option.some.injEq,Addr.mk.injEq,and_true] at e1;subst e1 e3;refine ⟨by simp,Or.inr ⟨g,cap,cur,by rw [hl],hg,hh,by omega,hm,hs,?_⟩⟩;have:=congrArg (List.take i) ht;rw [List.take_take,Nat.min_eq_left (by omega)] at this;rw [hl,Nat.mul_one,this,List.map_take]
end
section
open Go.RowKit
theorem nc {w:World} {base:Nat} {v:Value} {xs:List Int} (h:aF w base v xs):∃ A cap,v=.slice A xs.length cap∧∀ w',Below w.heap.size w w'→∀ j y,xs[j]?=some y→∃ ad,A=some ad∧w'.cell? (ad.add j)=some (.int .i64 y):=by
 have hadd:∀ b i:Nat,(⟨b,0,none⟩:Addr).add i=⟨b,i,none⟩:=fun b i=>by unfold Addr.add;split <;> simp_all
 obtain ⟨a,cap,rfl,hm,hv⟩:=h.seen;refine ⟨a,cap,rfl,fun w' hb j y hy=>?_⟩;obtain ⟨g,x,e1,e2,e3,e4⟩:=hv j (List.getElem?_eq_some_iff.1 hy).1;obtain rfl:=Option.some.inj (e3.out.symm.trans hy);exact ⟨_,e1,by rw [hadd];exact (hb.cell (p:=⟨g,j,none⟩) e2).trans e4⟩
theorem nL (xs:List Int) (v:Value) (w:World) (base:Nat) (hown:aF w base v xs) (hl:xs.length≤1000000000) :
  Calls Tryz.prog 139 #[v] w fun e w'=>∃ v',e=.returned v'∧aF w' w.heap.size v' xs∧Below w.heap.size w w':=by
 rcases hown.forms with ⟨rfl,rfl⟩ | ⟨g,cap,rfl,hg⟩
 ·have he:∀ W:World,(binOp .eql 26 (.slice none 0 0) (.slice none 0 0)).run Tryz.prog W=.ok (.bool true) W:=fun _=>rfl
  go_enter Tryz.func139,Tryz.ntmps139
  go_wp2;go_ret;exact ⟨_,rfl,aF.nil _ _,yL _ _⟩
 obtain ⟨A,cap',e,hf⟩:=nc hown
 injection e with e1 e2 e3
 subst e1 e3;clear e2;have hf:=yI hf
 have he:∀ W:World,(binOp .eql 26 (.slice (some ⟨g,0,none⟩) xs.length cap) (.slice none 0 0)).run Tryz.prog W=.ok (.bool false) W:=fun _=>rfl
 go_enter Tryz.func139,Tryz.ntmps139
 go_wp2_with (at_builtin;refine oI (W:=w) w.heap.size xs [] _ (some ⟨g,0,none⟩) _ _ (by rfl) (by rfl) (.tmp 5) (.tmp 6) (by rfl) (by rfl) (by rfl) (hf.out _ (by repeat (first | exact yL _ _ | refine aQ ?_ _ | refine aS ?_ (by assumption) | refine Below.drew ?_ | refine yK ?_ (by first | exact yM _ | exact Nat.le_add_right _ _ | (simp <;> omega)) _ | refine aL ?_ _))) (aF.pR _ _ (yM _)) (by repeat (first | exact yL _ _ | refine aQ ?_ _ | refine aS ?_ (by assumption) | refine Below.drew ?_ | refine yK ?_ (by first | exact yM _ | exact Nat.le_add_right _ _ | (simp <;> omega)) _ | refine aL ?_ _)) (by simp) (by simp;omega) ?_;rintro v1 w1 hown1 hb1)
 go_ret;exact ⟨_,rfl,hown1,hb1⟩
namespace Gr
variable {w0 w w':World} {r:Option Nat}
theorem set {g:Nat} (h:w0.grownBy w (some g)) (o:Nat) (v:Value):w0.grownBy (w.setCell ⟨g,o,none⟩ v) (some g):=by
 refine ⟨h.os,h.tape,h.output,by simpa [World.setCell] using h.size,fun i hi hne=>?_⟩;exact (Below.heap_setCell _ _ _ _ (by rintro rfl;exact hne rfl)).trans (h.block i hi hne)
theorem uO (h:w0.grownBy w r) {p:Addr} (hp:w0.heap.size≤p.block) (v:Value):w0.grownBy (w.setCell p v) r:=by
 refine ⟨h.os,h.tape,h.output,by simpa [World.setCell] using h.size,fun i hi hne=>?_⟩;exact (Below.heap_setCell _ _ _ _ (by omega)).trans (h.block i hi hne)
theorem frozen (hg:w.grownBy w' r) {a:Addr} (hl:a.block<w.heap.size) (hne:some a.block≠r):w'.frozen? a=w.frozen? a:=
 World.frozen?_of_block (hg.block _ hl hne)
theorem drew (h:w0.grownBy w r):w0.grownBy w.drew r:=nf h 1
theorem below {B:Nat} (h:w0.grownBy w r) (k:Below B w w') (hB:w.heap.size≤B):w0.grownBy w' r:=cV h (cG (k.mono hB) r)
theorem alloc (h:w0.grownBy w r) (o:Obj):w0.grownBy (w.alloc o) r:=cV h (World.grownBy_alloc w o r)
theorem gy {g b o:Nat} {v:Value} (hg:w.grownBy w' (some g)) (h:w.cell? ⟨b,o,none⟩=some v) (hn:b≠g):w'.cell? ⟨b,o,none⟩=some v:=
 hg.cell h (by simpa using hn)
theorem rD {g b o:Nat} (hg:w.grownBy w' (some g)) (hs:b<w.heap.size) (h:w.frozen? ⟨b,o,none⟩=false) (hn:b≠g):w'.frozen? ⟨b,o,none⟩=false:=
 (frozen hg hs (by simpa using hn)).trans h
theorem kV {n:Nat} (hg:w.grownBy w' r) (h:n<w.heap.size):n<w'.heap.size:=Nat.lt_of_lt_of_le h hg.size
theorem bR {W:World} {o o':Obj} {p:Addr} {v:Value} (h:(W.alloc o).cell? p=some v) (hp:p.block=W.heap.size→False):(W.alloc o').cell? p=some v:=by
 have hb:p.block<W.heap.size:=by
  have h1:=World.block_lt_of_cell? (W.alloc o) _ h;rw [yJ] at h1
  rcases Nat.lt_or_ge p.block W.heap.size with h2 | h2
  ·exact h2
  exact (hp (by omega)).elim
 have e1:=(Below.alloc (yL W.heap.size W) (yM _) o).cell (p:=p) hb;have e2:=(Below.alloc (yL W.heap.size W) (yM _) o').cell (p:=p) hb;rw [e2,←e1,h]
theorem xi {W:World} {p q:Addr} {u v:Value} (h:W.cell? p=some v) (hp:p.block=q.block→False):(W.setCell q u).cell? p=some v:=
 (World.cell?_of_block (w:=W) (Below.heap_setCell _ _ _ _ hp)).trans h
theorem dH {W:World} {p q q':Addr} {u u' v:Value} (h:W.cell? p=some v) (hp:p.block=q.block→False) (hp':p.block=q'.block→False):((W.setCell q u).setCell q' u').cell? p=some v:=xi (xi h hp) hp'
theorem bB {W:World} {o:Obj} {p:Addr} {v:Value} (h:W.cell? p=some v):(W.alloc o).cell? p=some v:=
 ((Below.alloc (yL W.heap.size W) (yM _) o).cell (World.block_lt_of_cell? W _ h)).trans h
end Gr
structure Zb (w:World) (b:Nat):Prop where
 c0:w.cell? ⟨b,0,none⟩=some (.int .i64 0)
 c1:w.cell? ⟨b,1,none⟩=some (.int .i64 0)
 f0:w.frozen? ⟨b,0,none⟩=false
 f1:w.frozen? ⟨b,1,none⟩=false
 size:b<w.heap.size
theorem Zb.new (Y:World) (T:TypeId):Zb (Y.alloc (.cells #[.int .i64 0,.int .i64 0] T)) Y.heap.size:=
 ⟨by rw [World.cell?_alloc_at _ _ _ _ rfl];rfl,by rw [World.cell?_alloc_at _ _ _ _ rfl];rfl,by simp [go_sem],by simp [go_sem],by rw [yJ];omega⟩
theorem Zb.keep {w w':World} {b:Nat} (h:Zb w b) (hb:Below w.heap.size w w'):Zb w' b:=
 ⟨(hb.cell (p:=⟨b,0,none⟩) h.size).trans h.c0,(hb.cell (p:=⟨b,1,none⟩) h.size).trans h.c1,(hb.frozen (p:=⟨b,0,none⟩) h.size).trans h.f0,(hb.frozen (p:=⟨b,1,none⟩) h.size).trans h.f1,Nat.lt_of_lt_of_le h.size hb.size⟩
theorem Zb.wC {w w':World} {b g:Nat} (h:Zb w b) (hg:w.grownBy w' (some g)) (hn:b≠g):Zb w' b:=
 ⟨Gr.gy hg h.c0 hn,Gr.gy hg h.c1 hn,Gr.rD hg h.size h.f0 hn,Gr.rD hg h.size h.f1 hn,Gr.kV hg h.size⟩
def pt (w:World) (B:Nat) (v:Value) (n:Nat):Prop:=
 ∃ (A:Option Addr) (cap:Nat),v=.slice A n cap∧(n:Int)≤9223372036854775807∧∀ j,j<n→∃ (g o:Nat) (b:Int),A=some ⟨g,o,none⟩∧g<B∧w.cell? ⟨g,o+j,none⟩=some (.int .u8 b)∧0≤b∧b≤255
structure Cur (w:World) (g B:Nat) (v:Value) (n k:Nat):Prop where
 bytes:pt w B v n
 lt:B≤g
 c0:w.cell? ⟨g,0,none⟩=some v
 c1:w.cell? ⟨g,1,none⟩=some (.int .i64 k)
 c2:∃ s:Int,w.cell? ⟨g,2,none⟩=some (.int .u64 s)
 f1:w.frozen? ⟨g,1,none⟩=false
 f2:w.frozen? ⟨g,2,none⟩=false
 size:g<w.heap.size
theorem pt.keep {w w':World} {B g n:Nat} {v:Value} (h:pt w B v n) (hg:w.grownBy w' (some g)) (hB:B≤g):pt w' B v n:=by
 obtain ⟨A,cap,e,hn,hb⟩:=h;refine ⟨A,cap,e,hn,fun j hj=>?_⟩;obtain ⟨gb,ob,b,e,hgb,hc,h1,h2⟩:=hb j hj;exact ⟨gb,ob,b,e,hgb,Gr.gy hg hc (by omega),h1,h2⟩
def fi (w:World) (g B:Nat) (v:Value) (n K:Nat):Prop:=∃ k,k≤K∧Cur w g B v n k
theorem fi.size {w:World} {g B n K:Nat} {v:Value} (h:fi w g B v n K):g<w.heap.size:=h.elim fun _ h=>h.2.size
theorem fi.keep {w w':World} {g B n K:Nat} {v:Value} (h:fi w g B v n K) (hb:Below w.heap.size w w'):fi w' g B v n K:=by
 obtain ⟨k,hk,h⟩:=h;have hg:=cG hb (some (w.heap.size+g+1));obtain ⟨s,hs⟩:=h.c2;have hl:=h.size;have hlt:=h.lt;refine ⟨k,hk,h.bytes.keep hg (by omega),h.lt,Gr.gy hg h.c0 (by omega),Gr.gy hg h.c1 (by omega),⟨s,Gr.gy hg hs (by omega)⟩,Gr.rD hg h.size h.f1 (by omega),Gr.rD hg h.size h.f2 (by omega),Gr.kV hg h.size⟩
theorem fi.alloc {w:World} {g B n K:Nat} {v:Value} (h:fi w g B v n K) (o:Obj):fi (w.alloc o) g B v n K:=h.keep ((yL _ _).alloc (yM _) o)
theorem fi.mono {w:World} {g B n K K':Nat} {v:Value} (h:fi w g B v n K) (hK:K≤K'):fi w g B v n K':=by
 obtain ⟨k,hk,h⟩:=h;exact ⟨k,by omega,h⟩
structure Aq (w:World) (b:Nat) (m n:Int):Prop where
 c0:w.cell? ⟨b,0,none⟩=some (.int .i64 m)
 c1:w.cell? ⟨b,1,none⟩=some (.int .i64 n)
 f0:w.frozen? ⟨b,0,none⟩=false
 f1:w.frozen? ⟨b,1,none⟩=false
 size:b<w.heap.size
theorem Aq.keepR {w w':World} {b:Nat} {m n:Int} {r:Option Nat} (h:Aq w b m n) (hg:w.grownBy w' r) (hn:some b≠r):Aq w' b m n:=
 ⟨hg.cell h.c0 hn,hg.cell h.c1 hn,(Gr.frozen hg h.size hn).trans h.f0,(Gr.frozen hg h.size hn).trans h.f1,Gr.kV hg h.size⟩
theorem Aq.wC {w w':World} {b g:Nat} {m n:Int} (h:Aq w b m n) (hg:w.grownBy w' (some g)) (hn:b≠g):Aq w' b m n:=h.keepR hg (by simpa using hn)
theorem Aq.keep {w w':World} {b:Nat} {m n:Int} (h:Aq w b m n) (hb:Below w.heap.size w w'):Aq w' b m n:=h.keepR (cG hb none) (by simp)
theorem Aq.alloc {w:World} {b:Nat} {m n:Int} (h:Aq w b m n) (o:Obj):Aq (w.alloc o) b m n:=h.keep ((yL _ _).alloc (yM _) o)
theorem Aq.drew {w:World} {b:Nat} {m n:Int} (h:Aq w b m n):Aq w.drew b m n:=⟨h.c0,h.c1,h.f0,h.f1,h.size⟩
theorem Aq.new (w:World) (m n:Int) (T:TypeId):Aq (w.alloc (.cells #[.int .i64 m,.int .i64 n] T)) w.heap.size m n:=
 ⟨by rw [World.cell?_alloc_at _ _ _ _ rfl];rfl,by rw [World.cell?_alloc_at _ _ _ _ rfl];rfl,by simp [go_sem],by simp [go_sem],by rw [yJ];omega⟩
theorem Aq.store {w:World} {b:Nat} {m n:Int} (h:Aq w b m n) (x y:Int):Aq ((w.setCell ⟨b,0,none⟩ (.int .i64 x)).setCell ⟨b,1,none⟩ (.int .i64 y)) b x y:=by
 obtain ⟨h1,h2,h3,h4,h5⟩:=h;exact ⟨by simp [go_sem, *],by simp [go_sem, *],by simp [go_sem, *],by simp [go_sem, *],by simp [go_sem, *]⟩
theorem cS (w:World) (c:Nat) (x y:Value):w.grownBy ((w.setCell ⟨c,0,none⟩ x).setCell ⟨c,1,none⟩ y) (some c):=Gr.set (Gr.set (fB w (some c)) 0 x) 1 y
theorem Aq.other {w:World} {b c:Nat} {m n:Int} (h:Aq w b m n) (hn:b≠c) (x y:Value):Aq ((w.setCell ⟨c,0,none⟩ x).setCell ⟨c,1,none⟩ y) b m n:=h.wC (cS w c x y) hn
theorem fi.keepR {w w':World} {g B n K c:Nat} {v:Value} (h:fi w g B v n K) (hg:w.grownBy w' (some c)) (hc:g≠c) (hB:B≤c):fi w' g B v n K:=by
 obtain ⟨k,hk,h⟩:=h;obtain ⟨s,hs⟩:=h.c2;exact ⟨k,hk,h.bytes.keep hg hB,h.lt,Gr.gy hg h.c0 hc,Gr.gy hg h.c1 hc,⟨s,Gr.gy hg hs hc⟩,Gr.rD hg h.size h.f1 hc,Gr.rD hg h.size h.f2 hc,Gr.kV hg h.size⟩
structure St (w W:World) (g B:Nat) (v:Value) (n K:Nat):Prop where
 cur:fi W g B v n K
 gr:w.grownBy W (some g)
 lt:B≤g
theorem St.start {w:World} {g B n K:Nat} {v:Value} (h:fi w g B v n K):St w w g B v n K:=⟨h,fB _ _,h.elim fun _ h=>h.2.lt⟩
theorem St.call {w W W':World} {g B n K K':Nat} {v:Value} (h:St w W g B v n K) (hc:fi W' g B v n K') (hg:W.grownBy W' (some g)):St w W' g B v n K':=⟨hc,cV h.gr hg,h.lt⟩
theorem St.keep {w W W':World} {g B n K:Nat} {v:Value} (h:St w W g B v n K) (hb:Below W.heap.size W W'):St w W' g B v n K:=⟨h.cur.keep hb,cV h.gr (cG hb _),h.lt⟩
theorem St.alloc {w W:World} {g B n K:Nat} {v:Value} (h:St w W g B v n K) (o:Obj):St w (W.alloc o) g B v n K:=h.keep ((yL _ _).alloc (yM _) o)
theorem St.store {w W:World} {g B n K c:Nat} {v:Value} (h:St w W g B v n K) (hc:w.heap.size≤c) (hg:g≠c) (hB:B≤c) (x y:Value):St w ((W.setCell ⟨c,0,none⟩ x).setCell ⟨c,1,none⟩ y) g B v n K:=
 ⟨h.cur.keepR (cS W c x y) hg hB,Gr.uO (Gr.uO h.gr hc _) hc _,h.lt⟩
theorem St.size {w W:World} {g B n K:Nat} {v:Value} (h:St w W g B v n K):g<W.heap.size:=h.cur.size
theorem St.le {w W:World} {g B n K:Nat} {v:Value} (h:St w W g B v n K):w.heap.size≤W.heap.size:=h.gr.size
def ah (W:World) (base:Nat) (sl:Value) (z:Int):Prop:=aF W base sl (Wh.d_ z.natAbs)
theorem ah.below {w w':World} {base:Nat} {v:Value} {z:Int} (h:ah w base v z) (hb:Below w.heap.size w w'):ah w' base v z:=aF.below h hb
theorem ah.base {w:World} {base base':Nat} {v:Value} {z:Int} (h:ah w base v z) (hb:base'≤base):ah w base' v z:=aF.base h hb
namespace Wh
theorem oh {l:List Int} {k:Nat} (hk:k<l.length) (h0:l[k]?=some 0):trim (l.take (k+1))=trim (l.take k):=by
 rw [List.take_add_one,h0];exact ir _
theorem lh {l:List Int} {k:Nat} {x:Int} (hx:l[k]?=some x) (h0:x≠0):trim (l.take (k+1))=l.take (k+1):=by
 rw [List.take_add_one,hx];exact lZ _ h0
theorem wZ {n:Nat}:decide (0<(d_ n).length)=decide ((n:Int)≠0):=by
 rw [decide_eq_decide]
 constructor
 ·intro h h0
  rw [gG.2 (by omega:n=0)] at h;exact absurd h (by decide)
 intro h
 cases hd:d_ n with
 | nil=>exact absurd (gG.1 hd) (by omega)
 | cons x l=>exact Nat.succ_pos _
end Wh
structure ai (w:World) (b:Nat) (u v:Value):Prop where
 c0:w.cell? ⟨b,0,none⟩=some u
 c1:w.cell? ⟨b,1,none⟩=some v
 f0:w.frozen? ⟨b,0,none⟩=false
 f1:w.frozen? ⟨b,1,none⟩=false
 size:b<w.heap.size
theorem ai.keep {w w':World} {b:Nat} {u v:Value} (h:ai w b u v) (hb:Below w.heap.size w w'):ai w' b u v:=
 have hg:=cG hb none
 ⟨hg.cell h.c0 (by simp),hg.cell h.c1 (by simp),(Gr.frozen hg h.size (by simp)).trans h.f0,(Gr.frozen hg h.size (by simp)).trans h.f1,Gr.kV hg h.size⟩
theorem ai.new (w:World) (u v:Value) (T:TypeId):ai (w.alloc (.cells #[u,v] T)) w.heap.size u v:=
 ⟨by rw [World.cell?_alloc_at _ _ _ _ rfl];rfl,by rw [World.cell?_alloc_at _ _ _ _ rfl];rfl,by simp [go_sem],by simp [go_sem],by rw [yJ];omega⟩
theorem ai.alloc {w:World} {b:Nat} {u v:Value} (h:ai w b u v) (o:Obj):ai (w.alloc o) b u v:=h.keep ((yL _ _).alloc (yM _) o)
theorem rk {w w2:World} {o:Obj} {sl:Value} {xs:List Int} (u:Value) (hoc:aF w2 (w.alloc o).heap.size sl xs) (hbc:Below (w.alloc o).heap.size (w.alloc o) w2) :
  aF ((w2.setCell ⟨w.heap.size,0,none⟩ u).setCell ⟨w.heap.size,1,none⟩ sl) w.heap.size sl xs∧Below w.heap.size w ((w2.setCell ⟨w.heap.size,0,none⟩ u).setCell ⟨w.heap.size,1,none⟩ sl):=by
 have hz:(w.alloc o).heap.size=w.heap.size+1:=yJ _ _;refine ⟨aF.base (World.ownsRow.kept hoc (cS w2 w.heap.size u sl) ?_) (by omega),?_⟩
 ·cases hs:sl.ownBlock with
  | none=>exact Or.inl rfl
  | some g=>
  right
  intro e
  injection e with e
  have:=(aF.lt hoc g hs).1;omega
 exact ((((yL _ _).alloc (yM _) o).trans (hbc.mono (by omega))).setCell (yM _) _).setCell (yM _) _
theorem aF.xe {w:World} {base cap k:Nat} {a:Option Addr} {xs:List Int} (h:aF w base (.slice a xs.length cap) xs) (hk:k≤xs.length):aF w base (.slice a k cap) (xs.take k):=by
 rcases h.forms with ⟨e,rfl⟩ | ⟨g,cap',e,-⟩
 ·obtain rfl:k=0:=by simpa using hk
  exact h
 injection e with e1 e2 e3
 subst e1;exact aF.cut rfl h hk rfl
theorem Wh.oZ {l:List Int} {k n:Nat} (hk:k≤l.length) (h:l.take k=Wh.d_ n):(n:Int)≠0 ↔ 0<k:=by
 have h1:=congrArg List.length h;rw [List.length_take,Nat.min_eq_left hk] at h1;have h2:=Wh.wZ (n:=n);rw [decide_eq_decide,←h1] at h2;exact h2.symm
theorem sH (neg:Bool) (ls:List Int) (v:Value) (w:World) (base:Nat) (hown:aF w base v ls) (h:Wh.bO ls) (hl:ls.length≤1000000) :
  Calls Tryz.prog 125 #[.bool neg,v] w fun e w'=>∃ sl,e=.returned (.agg #[.bool (decide (Wh.zo neg (Wh.val ls)<0)),sl])∧ah w' w.heap.size sl (Wh.zo neg (Wh.val ls))∧Below w.heap.size w w':=by
 obtain ⟨a,cap,rfl,hm,hv⟩:=hown.seen;have hv:=yI hv;have hgt:=yI (Wh.jW h);have hn:=Wh.dC h;have hs1:=yI (Wh.qc (neg:=neg) hn);have hs2:=yI (Wh.mg (neg:=neg) hn);have hls:=yI h;have hcp:=hown.cap;replace hown:=yI hown;clear hm hn h;have bx:=ai.new w (.bool false) (.slice none 0 0) 136;go_enter Tryz.func125,Tryz.ntmps125
 go_wp2
 go_loopw [1] (fun vl wr=>∃ k:Nat,k≤ls.length∧vl=.slice a k cap∧Wh.trim (ls.take k)=Wh.trim ls∧wr=w.alloc (.cells #[.bool false,.slice none 0 0] 136)) (fun vl _=>match vl with | .slice _ n _=>n | _=>0)
 case atStart=>exact ⟨ls.length,yM _,rfl,by rw [List.take_length],rfl⟩
 case round=>
 obtain ⟨k,hk,rfl,htr,rfl⟩:=hrel;have hown2:aF (w.alloc (.cells #[.bool false,.slice none 0 0] 136)) base (.slice a k cap) (ls.take k):=(aF.xe hown.out hk).alloc _
 have fin:ls.take k=Wh.d_ (Wh.val ls).toNat→Hid ((decide (Wh.zo neg (Wh.val ls)<0)=(neg && decide (0<k)))∧∀ (W:World) (b:Nat) (vc:Value),aF W b vc (ls.take k)→ah W b vc (Wh.zo neg (Wh.val ls))):=fun h=>yI (by
  have h2:=Wh.oZ hk h;have hn:=Wh.dC hls.out;refine ⟨?_,fun W b vc ho=>?_⟩
  ·rw [hs1.out]
   congr 1
   rw [decide_eq_decide,←h2];omega
  unfold ah;rw [hs2.out,←h]
  exact ho)
 have PC:=fun W v h=>nL (ls.take k) v W base h (by rw [List.length_take];omega)
 have PC:=yI PC;have hown2:=yI hown2;have htr:=yI htr
 cases k with
 | zero=>
  have f2:=fin (by rw [←hgt.out,←htr.out];rfl);clear fin htr hgt;cases neg
  all_goals
   go_wp2_with (go_at_call 139;(with_reducible refine (PC.out _ _ hown2.out).mono ?_);rintro e w2 ⟨vc,rfl,hoc,hbc⟩;obtain ⟨ac,yS,rfl,hmc,yw⟩:=hoc.view;have yz:=bx.keep hbc;have c0:=yz.c0;have c1:=yz.c1;have g0:=yz.f0;have g1:=yz.f1;clear yw hmc)
   have hr:=rk (.bool false) hoc hbc;exact bodyPost_ret (v:=.agg #[.bool false,.slice ac 0 yS]) (by simp [results,Tryz.results125,go_sem, *]) rfl (⟨_,by rw [f2.out.1] <;> rfl,f2.out.2 _ _ _ hr.1,hr.2⟩)
 | succ m=>
 obtain ⟨g,x,rfl,hg,hx,hcell⟩:=hv.out m (by omega)
 by_cases h0:x=0
 ·subst h0
  have hct:=yI ((Wh.oh (by omega) hx.out).symm.trans htr.out);clear fin htr;go_wp2
  go_roundw
  case rel=>exact ⟨m,by omega,rfl,hct.out,by first | rfl | trivial⟩
  case measure=>simp
 have f2:=fin (by rw [←hgt.out,←htr.out,Wh.lh hx.out h0]);generalize ls.take (m+1)=L at *;clear fin htr hgt;cases neg
 ·go_wp2_with (go_at_call 139;(with_reducible refine (PC.out _ _ hown2.out).mono ?_);rintro e w2 ⟨vc,rfl,hoc,hbc⟩;obtain ⟨ac,yS,rfl,hmc,yw⟩:=hoc.view;have yz:=bx.keep hbc;have c0:=yz.c0;have c1:=yz.c1;have g0:=yz.f0;have g1:=yz.f1;clear yw hmc)
  have hr:=rk (.bool false) hoc hbc;exact bodyPost_ret (v:=.agg #[.bool false,.slice ac L.length yS]) (by simp [results,Tryz.results125,go_sem, *]) rfl (⟨_,by rw [f2.out.1] <;> rfl,f2.out.2 _ _ _ hr.1,hr.2⟩)
 go_wp2_with (go_at_call 139;(with_reducible refine (PC.out _ _ hown2.out).mono ?_);rintro e w2 ⟨vc,rfl,hoc,hbc⟩;obtain ⟨ac,yS,rfl,hmc,yw⟩:=hoc.view;have yz:=bx.keep hbc;have c0:=yz.c0;have c1:=yz.c1;have g0:=yz.f0;have g1:=yz.f1;clear yw hmc)
 have hr:=rk (.bool true) hoc hbc;exact bodyPost_ret (v:=.agg #[.bool true,.slice ac L.length yS]) (by simp [results,Tryz.results125,go_sem, *]) rfl (⟨_,by rw [f2.out.1] <;> simp,f2.out.2 _ _ _ hr.1,hr.2⟩)
end
end Go.Proofs.YtgfkcoablfjbcaaGreat
