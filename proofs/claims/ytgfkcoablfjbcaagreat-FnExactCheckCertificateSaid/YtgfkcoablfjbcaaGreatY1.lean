/-
  Joined texts: contracts and plain lemmas.
-/
import Derived.Lib.Hide
import Derived.WalkKit
import Derived.Test.YtgfkcoablfjbcaaGreatProg
import Derived.KernelRfl
import Derived.Deep.QuietTactic
import Derived.BigQuiet
import Derived.Deep.RegionHeld3
import Derived.Laws.OwnMore
import Derived.Maps.AppendAt
import Derived.OwnWalk
set_option linter.unusedSimpArgs false
set_option linter.unusedVariables false
set_option maxRecDepth 100000
set_option maxHeartbeats 8000000
namespace Go.Proofs.YtgfkcoablfjbcaaGreat
section
theorem ws {p : Prop} (h : p) : RowKit.Hid p := Lib.hid h
theorem wt (w : World) (o : Obj) : (w.alloc o).heap.size = w.heap.size + 1 := World.size_alloc w o
theorem wu {B : Nat} {a w : World} (h : RowKit.Below B a w) {p : Addr} (hp : B ≤ p.block) (u : Value) : RowKit.Below B a (w.setCell p u) := RowKit.Below.setCell h hp u
theorem ww (B : Nat) (w : World) : RowKit.Below B w w := RowKit.Below.refl B w
theorem xA (n : Nat) : n ≤ n := Nat.le_refl n
namespace M
def I64 (a:Int):Prop:=-9223372036854775808≤a∧a≤9223372036854775807
def pick (ok:Bool) (x:Int):Int:=if ok then x else 0
theorem fU (x:Int):pick true x=x:=rfl
theorem gy (x:Int):pick false x=0:=rfl
def ins (n lo hi:Int):Bool:=decide (lo≤n∧n≤hi)
theorem pK {n lo hi:Int}:ins n lo hi=true ↔ lo≤n∧n≤hi:=by simp [ins]
theorem fC {n lo hi:Int} (h:ins n lo hi=true):lo≤n∧n≤hi:=pK.1 h
theorem aK {x y m n:Int} (h1:-m≤x) (h2:x≤m) (h3:-n≤y) (h4:y≤n):-(m*n)≤x*y∧x*y≤m*n:=by
 have a1:0≤(m - x)*(n - y):=Int.mul_nonneg (by omega) (by omega)
 have a2:0≤(m+x)*(n+y):=Int.mul_nonneg (by omega) (by omega)
 have a3:0≤(m - x)*(n+y):=Int.mul_nonneg (by omega) (by omega)
 have a4:0≤(m+x)*(n - y):=Int.mul_nonneg (by omega) (by omega)
 simp only [Int.sub_mul,Int.mul_sub,Int.add_mul,Int.mul_add] at a1 a2 a3 a4
 constructor <;> omega
theorem lF {x y m n:Int} (h1:0≤x) (h2:x≤m) (h3:0≤y) (h4:y≤n):0≤x*y∧x*y≤m*n:=
 ⟨Int.mul_nonneg h1 h3,(aK (m:=m) (n:=n) (by omega) h2 (by omega) h4).2⟩
def fp (n:Int):Prop:=2≤n∧∀ d:Int,2≤d→d*d≤n→¬ n % d=0
open Classical in
noncomputable def prime (n:Int):Bool:=decide (fp n)
theorem qX {n:Int}:prime n=true ↔ fp n:=by simp [prime]
theorem qZ {n:Int}:prime n=false ↔ ¬ fp n:=by simp [prime]
theorem wj {k m:Int} (hm:0≤m) (h:k*k<m*m):k<m:=by
 rcases Int.lt_or_le k m with q | q
 ·exact q
 have:m*m≤k*k:=Int.mul_le_mul q q (by omega) (by omega)
 omega
def q9 (n r:Int):Prop:=0≤r∧r*r≤n∧n<(r+1)*(r+1)
theorem q9.uniq {n r s:Int} (h:q9 n r) (k:q9 n s):r=s:=by
 obtain ⟨a,b,c⟩:=h
 obtain ⟨d,e,f⟩:=k
 rcases Int.lt_trichotomy r s with q | q | q
 ·have:(r+1)*(r+1)≤s*s:=Int.mul_le_mul (by omega) (by omega) (by omega) (by omega)
  omega
 ·exact q
 have:(s+1)*(s+1)≤r*r:=Int.mul_le_mul (by omega) (by omega) (by omega) (by omega)
 omega
theorem pX (n:Nat):∃ r:Nat,r*r≤n∧n<(r+1)*(r+1):=by
 induction n with
 | zero=>exact ⟨0,by omega,by omega⟩
 | succ n ih=>
 obtain ⟨r,h1,h2⟩:=ih
 rcases Nat.lt_or_ge (n+1) ((r+1)*(r+1)) with q | q
 ·exact ⟨r,by omega,q⟩
 refine ⟨r+1,q,?_⟩
 have:(r+1+1)*(r+1+1)=(r+1)*(r+1)+2*r+3:=by simp only [Nat.add_mul,Nat.mul_add];omega
 omega
open Classical in
noncomputable def root (n:Int):Int:=if h:0≤n then ((pX n.toNat).choose:Int) else 0
theorem iA {n:Int} (h:0≤n):q9 n (root n):=by
 obtain ⟨a,b⟩:=(pX n.toNat).choose_spec
 unfold root
 rw [dif_pos h]
 refine ⟨by omega,?_,?_⟩
 ·have:=Int.ofNat_le.2 a;push_cast at this;omega
 have:=Int.ofNat_lt.2 b;push_cast at this;omega
theorem iq {n r:Int} (h:q9 n r):r=root n:=by
 have:0≤r*r:=Int.mul_nonneg h.1 h.1
 exact h.uniq (iA (by have:=h.2.1;omega))
def val (a b x:Int):Int:=x*x*x+a*x+b
def ay (a b:Int):Int:=4*a*a*a+27*b*b
def bB (a b:Int):Bool:=ins a (-1000) 1000 && ins b (-10000) 10000
def good (a b:Int):Bool:=bB a b && (ay a b != 0)
theorem aj {a b:Int} (h:bB a b=true):-1000≤a∧a≤1000∧-10000≤b∧b≤10000:=by
 simp only [bB,Bool.and_eq_true,pK] at h
 omega
theorem bI {a b:Int} (h:good a b=true):bB a b=true:=by
 simp only [good,Bool.and_eq_true] at h
 exact h.1
def upto (lo:Int) (k:Nat):List Int:=(List.range k).map fun i:Nat=>lo+(i:Int)
theorem qv (lo:Int) (k:Nat):upto lo (k+1)=upto lo k ++ [lo+(k:Int)]:=by
 simp [upto,List.range_succ]
def sel (p:Int→Bool) (lo:Int) (k:Nat):List Int:=(upto lo k).filter p
theorem vZ {p:Int→Bool} {lo:Int} {k:Nat} (h:p (lo+k)=false):sel p lo (k+1)=sel p lo k:=by
 simp [sel,qv,h]
theorem sm {a p:Int} (hp:1≤p):0≤a % p∧a % p<p:=⟨Int.emod_nonneg _ (by omega),Int.emod_lt_of_pos _ (by omega)⟩
def rhs (a b p x:Int):Int:=val a b x % p
def gcd (a b:Int):Int:=Int.gcd a b
theorem jN (a b:Int):Int.gcd b (a.tmod b)=Int.gcd a b:=by
 rw [Int.gcd_comm a b]
 simp only [Int.gcd,Int.natAbs_tmod]
 exact (Nat.gcd_rec b.natAbs a.natAbs ▸ Nat.gcd_comm _ _)
end M
namespace Wh
def val:List Int→Int
 | []=>0
 | x :: l=>x+10000*val l
def dig (n:Nat):List Int:=if h:n=0 then [] else ((n % 10000:Nat):Int) :: dig (n / 10000)
termination_by n
decreasing_by exact Nat.div_lt_self (Nat.pos_of_ne_zero h) (by decide)
def lim (x:Int):Prop:=0≤x∧x<10000
def bM (l:List Int):Prop:=∀ x ∈ l,lim x
theorem cW:dig 0=[]:=by rw [dig];rfl
theorem ff {n:Nat} (h:n≠0):dig n=((n % 10000:Nat):Int) :: dig (n / 10000):=by rw [dig,dif_neg h]
theorem bO (n:Nat):val (dig n)=n:=by
 induction n using Nat.strongRecOn with
 | ind n ih=>
 by_cases h:n=0
 ·subst h;rw [cW];rfl
 rw [ff h]
 show ((n % 10000:Nat):Int)+10000*val (dig (n / 10000))=n
 rw [ih _ (Nat.div_lt_self (Nat.pos_of_ne_zero h) (by decide))]
 omega
theorem am (n:Nat):bM (dig n):=by
 induction n using Nat.strongRecOn with
 | ind n ih=>
 by_cases h:n=0
 ·subst h;rw [cW];intro x hx;cases hx
 rw [ff h]
 intro x hx
 rcases List.mem_cons.1 hx with rfl | hx
 ·unfold lim;omega
 exact ih _ (Nat.div_lt_self (Nat.pos_of_ne_zero h) (by decide)) x hx
theorem fd {n:Nat}:dig n=[] ↔ n=0:=by
 constructor
 ·intro h
  by_cases h0:n=0
  ·exact h0
  rw [ff h0] at h;cases h
 rintro rfl;exact cW
theorem mF {x v:Nat} (hx:x<10000) (h:x≠0∨v≠0):dig (x+10000*v)=(x:Int) :: dig v:=by
 rw [ff (by omega),show (x+10000*v) % 10000=x by omega,show (x+10000*v) / 10000=v by omega]
def trim:List Int→List Int
 | []=>[]
 | x :: l=>match trim l with
  | []=>if x=0 then [] else [x]
  | y :: t=>x :: y :: t
theorem ck:∀ {l:List Int},bM l→0≤val l
 | [],_=>Int.le_refl _
 | x :: l,h=>by
  have h1:=ck (l:=l) fun y hy=>h y (List.mem_cons_of_mem _ hy)
  have h2:=(h x List.mem_cons_self).1
  show 0≤x+10000*val l
  omega
theorem ir:∀ {l:List Int},bM l→trim l=dig (val l).toNat
 | [],_=>by show []=dig (0:Int).toNat;rw [show (0:Int).toNat=0 from rfl,cW]
 | x :: l,h=>by
  have hl:bM l:=fun y hy=>h y (List.mem_cons_of_mem _ hy)
  have ih:=ir hl
  have hx:=h x List.mem_cons_self
  have hv:=ck hl
  obtain ⟨v,hv'⟩:∃ v:Nat,val l=v:=⟨(val l).toNat,by omega⟩
  obtain ⟨y,rfl⟩:∃ y:Nat,x=y:=⟨x.toNat,by have:=hx.1;omega⟩
  rw [hv',Int.toNat_natCast] at ih
  have hy:y<10000:=by have:=hx.2;omega
  show (match trim l with
   | []=>if (y:Int)=0 then [] else [(y:Int)]
   | z :: t=>(y:Int) :: z :: t)=dig ((y:Int)+10000*val l).toNat
  rw [ih,hv',show ((y:Int)+10000*(v:Int)).toNat=y+10000*v by omega]
  by_cases h0:v=0
  ·subst h0
   rw [cW]
   by_cases hy0:y=0
   ·subst hy0
    rw [Nat.mul_zero,cW]
    rfl
   rw [mF hy (Or.inl hy0),cW,if_neg (by omega)]
  rw [mF hy (Or.inr h0),ff h0]
theorem iE:∀ l:List Int,trim (l ++ [0])=trim l
 | []=>rfl
 | x :: l=>by
  show (match trim (l ++ [0]) with
   | []=>if x=0 then [] else [x]
   | z :: t=>x :: z :: t)=_
  rw [iE l]
  rfl
theorem kX:∀ (l:List Int) {x:Int},x≠0→trim (l ++ [x])=l ++ [x]
 | [],x,h=>by show (if x=0 then [] else [x])=_;rw [if_neg h];rfl
 | y :: l,x,h=>by
  show (match trim (l ++ [x]) with
   | []=>if y=0 then [] else [y]
   | z :: t=>y :: z :: t)=_
  rw [kX l h]
  cases l <;> rfl
theorem ri (n:Nat):trim (dig n)=dig n:=by rw [ir (am n),bO,Int.toNat_natCast]
theorem fA:∀ a b:List Int,val (a ++ b)=val a+10000 ^ a.length*val b
 | [],b=>by show val b=0+10000 ^ 0*val b;rw [Int.pow_zero];omega
 | x :: a,b=>by
  show x+10000*val (a ++ b)=x+10000*val a+10000 ^ (a.length+1)*val b
  rw [fA a b,Int.pow_succ]
  grind
theorem pow_pos (n:Nat):(0:Int)<10000 ^ n:=Int.pow_pos (by decide)
theorem eF:∀ {l:List Int},bM l→val l<10000 ^ l.length
 | [],_=>by show (0:Int)<10000 ^ 0;rw [Int.pow_zero];decide
 | x :: l,h=>by
  have h1:=eF (l:=l) fun y hy=>h y (List.mem_cons_of_mem _ hy)
  have h2:=(h x List.mem_cons_self).2
  show x+10000*val l<10000 ^ (l.length+1)
  rw [Int.pow_succ]
  omega
theorem cL {a b:List Int} (h:bM a) (h':bM b):bM (a ++ b):=fun x hx=>by
 rcases List.mem_append.1 hx with q | q
 ·exact h x q
 exact h' x q
theorem eR {a:List Int} (h:bM a) (k:Nat):bM (a.take k):=fun x hx=>h x (List.mem_of_mem_take hx)
theorem gp {a:List Int} (h:bM a) (k:Nat):bM (a.drop k):=fun x hx=>h x (List.mem_of_mem_drop hx)
theorem b6 {l:List Int} {k:Nat} {x:Int} (hx:l[k]?=some x):val (l.take (k+1))=val (l.take k)+10000 ^ k*x:=by
 have hk:=(List.getElem?_eq_some_iff.1 hx).1
 rw [List.take_add_one,hx,fA,List.length_take,Nat.min_eq_left (Nat.le_of_lt hk)]
 show _+_*(x+10000*0)=_
 grind
theorem jo {l:List Int} {k:Nat} {x:Int} (hx:l[k]?=some x):val (l.drop k)=x+10000*val (l.drop (k+1)):=by
 obtain ⟨h1,rfl⟩:=List.getElem?_eq_some_iff.1 hx
 rw [List.drop_eq_getElem_cons h1]
 rfl
theorem dE {n k:Nat} (h:n<10000 ^ k):(dig n).length≤k:=by
 induction k generalizing n with
 | zero=>rw [Nat.pow_zero] at h;rw [show n=0 by omega,cW];exact xA _
 | succ k ih=>
 by_cases h0:n=0
 ·subst h0;rw [cW];exact Nat.zero_le _
 rw [ff h0,List.length_cons]
 have:n / 10000<10000 ^ k:=by
  rw [Nat.pow_succ] at h
  exact Nat.div_lt_of_lt_mul (by rwa [Nat.mul_comm])
 have:=ih this
 omega
def nth (l:List Int) (i:Nat):Int:=(l[i]?).getD 0
theorem cg {l:List Int} {i:Nat} {x:Int} (h:l[i]?=some x):nth l i=x:=by unfold nth;rw [h];rfl
theorem cZ {l:List Int} {i:Nat} (h:l.length≤i):nth l i=0:=by unfold nth;rw [List.getElem?_eq_none h];rfl
theorem bs (l:List Int) (k:Nat):val (l.take (k+1))=val (l.take k)+10000 ^ k*nth l k:=by
 by_cases h:k<l.length
 ·have hx:l[k]?=some l[k]:=List.getElem?_eq_getElem h
  rw [b6 hx,cg hx]
 rw [cZ (by omega),List.take_of_length_le (by omega),List.take_of_length_le (by omega)]
 grind
theorem ig {l:List Int} (h:bM l) (i:Nat):lim (nth l i):=by
 unfold nth
 cases hx:l[i]? with
 | none=>exact ⟨Int.le_refl _,by decide⟩
 | some x=>exact h x (List.mem_of_getElem? hx)
end Wh
namespace Wh
structure eW (a b:List Int) (s:Int) (i:Nat) (o:List Int) (c:Int):Prop where
 eq:val o+10000 ^ i*c=val (a.take i)+s*val (b.take i)
 len:o.length=i
 ls:bM o
 c1:s=1→0≤c∧c≤1
 c2:s=-1→-1≤c∧c≤0
theorem eW.start (a b:List Int) (s:Int):eW a b s 0 [] 0 where
 eq:=by simp [val]
 len:=rfl
 ls:=fun x hx=>by cases hx
 c1:=fun _=>by omega
 c2:=fun _=>by omega
theorem nM (o:List Int) (x:Int):val (o ++ [x])=val o+10000 ^ o.length*x:=by
 rw [fA]
 show _+_*(x+10000*0)=_
 grind
theorem eW.step {a b o:List Int} {s c:Int} {i:Nat} (h:eW a b s i o c) {x c':Int} (hx:lim x) (he:x+10000*c'=nth a i+s*nth b i+c) (h1:s=1→0≤c'∧c'≤1) (h2:s=-1→-1≤c'∧c'≤0):eW a b s (i+1) (o ++ [x]) c' where
 eq:=by
  rw [nM,h.len,bs,bs,Int.pow_succ]
  have:=h.eq
  grind
 len:=by rw [List.length_append,h.len];rfl
 ls:=cL h.ls fun y hy=>by rw [List.mem_singleton] at hy;subst hy;exact hx
 c1:=h1
 c2:=h2
theorem eW.rng {a b o:List Int} {s c:Int} {i:Nat} (h:eW a b s i o c) (hs:s=1∨s=-1) (ha:bM a) (hb:bM b):-10000≤nth a i+s*nth b i+c∧nth a i+s*nth b i+c≤19999∧(s=1→0≤nth a i+s*nth b i+c)∧(s=-1→nth a i+s*nth b i+c≤9999)∧-1≤c∧c≤1:=by
 have h1:=ig ha i
 have h2:=ig hb i
 unfold lim at h1 h2
 rcases hs with rfl | rfl
 ·have:=h.c1 rfl
  refine ⟨?_,?_,fun _=>?_,fun h=>absurd h (by decide),?_,?_⟩ <;> omega
 have:=h.c2 rfl
 refine ⟨?_,?_,fun h=>absurd h (by decide),fun _=>?_,?_,?_⟩ <;> omega
theorem eW.all {a b o:List Int} {s c:Int} {i:Nat} (h:eW a b s i o c) (ha:a.length≤i) (hb:b.length≤i):val o+10000 ^ i*c=val a+s*val b:=by
 have:=h.eq
 rwa [List.take_of_length_le ha,List.take_of_length_le hb] at this
theorem eW.fin {a b o:List Int} {s c:Int} {i:Nat} (h:eW a b s i o c) (hs:s=1∨s=-1) (ha:a.length≤i) (hb:b.length≤i) (h0:0≤val a+s*val b) (h1:val a+s*val b<10000 ^ i):c=0∧val o=val a+s*val b:=by
 have e:=h.all ha hb
 have o1:=ck h.ls
 have o2:=eF h.ls
 rw [h.len] at o2
 have hp:=pow_pos i
 have hc:-1≤c∧c≤1:=by
  rcases hs with rfl | rfl
  ·have:=h.c1 rfl;omega
  have:=h.c2 rfl;omega
 have:c=0:=by
  have hc':c=-1∨c=0∨c=1:=by omega
  rcases hc' with rfl | rfl | rfl
  ·rw [show (10000:Int) ^ i*-1=-(10000 ^ i) by grind] at e;omega
  ·rfl
  rw [Int.mul_one] at e;omega
 subst this
 refine ⟨rfl,?_⟩
 rw [Int.mul_zero] at e
 omega
theorem eW.carry {a b o:List Int} {s c:Int} {i:Nat} (h:eW a b s i o c) (hs:s=1∨s=-1) (ha:a.length≤i) (hb:b.length≤i) (h0:0≤val a+s*val b) (hc:c≠0):c=1:=by
 have e:=h.all ha hb
 have o2:=eF h.ls
 rw [h.len] at o2
 have hc':c=-1∨c=1:=by
  rcases hs with rfl | rfl
  ·have:=h.c1 rfl;omega
  have:=h.c2 rfl;omega
 rcases hc' with rfl | rfl
 ·rw [show (10000:Int) ^ i*-1=-(10000 ^ i) by grind] at e;omega
 rfl
theorem hP {m n:Nat} (h:m≤n):(10000:Int) ^ m≤10000 ^ n:=by
 obtain ⟨k,rfl⟩:=Nat.le.dest h
 rw [Int.pow_add]
 have h1:=pow_pos m
 have h2:=pow_pos k
 have:=Int.mul_le_mul_of_nonneg_left (show (1:Int)≤10000 ^ k by omega) (Int.le_of_lt h1)
 omega
theorem sum_lt {a b:List Int} {s:Int} (hs:s=1∨s=-1) (ha:bM a) (hb:bM b) {n:Nat} (h1:a.length≤n) (h2:b.length≤n):val a+s*val b<10000 ^ (n+1):=by
 have a2:=eF ha
 have b1:=ck hb
 have b2:=eF hb
 have p1:=hP h1
 have p2:=hP h2
 have p:=pow_pos n
 rw [Int.pow_succ]
 rcases hs with rfl | rfl <;> omega
structure MInv (o0 o:List Int) (x:Int) (b:List Int) (i k:Nat) (c:Int):Prop where
 len:o.length=o0.length
 eq:val (o.take k)+10000 ^ k*c=val (o0.take k)+10000 ^ i*(x*val (b.take (k - i)))
 rest:o.drop k=o0.drop k
 ls:bM (o.take k)
 c0:0≤c∧c≤9999
theorem MInv.start {o0:List Int} (h:bM o0) (x:Int) (b:List Int) (i:Nat):MInv o0 o0 x b i i 0 where
 len:=rfl
 eq:=by rw [Nat.sub_self];simp [val]
 rest:=rfl
 ls:=eR h i
 c0:=by omega
theorem lE {x y:Int} (hx:lim x) (hy:lim y):0≤x*y∧x*y≤99980001:=by
 have h1:=Int.mul_nonneg hx.1 hy.1
 have h2:x*y≤9999*y:=Int.mul_le_mul_of_nonneg_right (by have:=hx.2;omega) hy.1
 have:=hy.2
 omega
theorem MInv.step {o0 o b:List Int} {x c t:Int} {i k:Nat} (h:MInv o0 o x b i k c) (ho:bM o0) (hx:lim x) (hb:bM b) (hik:i≤k) (ht:o0[k]?=some t) {y:Int} (hy:y=t+c+x*nth b (k - i)):(0≤y∧y≤99999999)∧MInv o0 (o.set k (y % 10000)) x b i (k+1) (y / 10000):=by
 have hk:=(List.getElem?_eq_some_iff.1 ht).1
 have htl:lim t:=ho t (List.mem_of_getElem? ht)
 have hm:=lE hx (ig hb (k - i))
 have hc:=h.c0
 unfold lim at htl
 have hyr:0≤y∧y≤99999999:=by omega
 have htk:(o.set k (y % 10000)).take k=o.take k:=by
  rw [List.take_set,List.set_eq_of_length_le (by rw [List.length_take];omega)]
 have hsk:(o.set k (y % 10000))[k]?=some (y % 10000):=by
  rw [List.getElem?_set_self (by rw [h.len];exact hk)]
 refine ⟨hyr,⟨by rw [List.length_set,h.len],?_,?_,?_,by omega⟩⟩
 ·rw [b6 hsk,htk,b6 ht,show k+1 - i=(k - i)+1 by omega,bs,Int.pow_succ]
  have e:=h.eq
  have hp:(10000:Int) ^ i*10000 ^ (k - i)=10000 ^ k:=by rw [←Int.pow_add,show i+(k - i)=k by omega]
  have hd:10000*(y / 10000)+y % 10000=y:=Int.mul_ediv_add_emod y 10000
  subst hy
  rw [←hp] at e ⊢
  generalize (10000:Int) ^ i=P at *
  generalize (10000:Int) ^ (k - i)=Q at *
  generalize (t+c+x*nth b (k - i)) / 10000=q at *
  generalize (t+c+x*nth b (k - i)) % 10000=r at *
  generalize val (o.take k)=v1 at *
  generalize val (o0.take k)=v2 at *
  generalize val (b.take (k - i))=v3 at *
  generalize nth b (k - i)=n3 at *
  grind
 ·rw [List.drop_set_of_lt (Nat.lt_succ_self k)]
  have:=congrArg (List.drop 1) h.rest
  rwa [List.drop_drop,List.drop_drop] at this
 rw [List.take_add_one,hsk,htk]
 refine cL h.ls fun z hz=>?_
 simp only [Option.toList_some,List.mem_singleton] at hz
 subst hz
 unfold lim
 omega
theorem MInv.bM {o0 o b:List Int} {x c:Int} {i k:Nat} (h:MInv o0 o x b i k c) (ho:bM o0):bM o:=by
 rw [←List.take_append_drop k o,h.rest]
 exact cL h.ls (gp ho k)
theorem MInv.fin {o0 o b:List Int} {x c:Int} {i n:Nat} (h:MInv o0 o x b i n c) (hn:o0.length=n) (hb:b.length+i≤n) {v:Int} (hv:val o0+10000 ^ i*(x*val b)=v) (hlt:v<10000 ^ n) (ho:Wh.bM o0):val o=v:=by
 have e:=h.eq
 have l1:=h.len
 rw [List.take_of_length_le (by omega),List.take_of_length_le (by omega),List.take_of_length_le (by omega),hv] at e
 have o1:=ck (h.bM ho)
 have hp:=pow_pos n
 have hc:=h.c0
 by_cases h0:c=0
 ·subst h0;rw [Int.mul_zero] at e;omega
 have:=Int.mul_le_mul_of_nonneg_left (show 1≤c by omega) (Int.le_of_lt hp)
 omega
theorem sv {a b:List Int} {i:Nat} {x o:Int} (hx:a[i]?=some x) (ho:o=val (a.take i)*val b):o+10000 ^ i*(x*val b)=val (a.take (i+1))*val b:=by
 rw [b6 hx,ho]
 grind
theorem pV {a b:List Int} (ha:bM a) (hb:bM b) {n:Nat} (h:a.length+b.length≤n):val a*val b<10000 ^ n:=by
 have a1:=ck ha
 have a2:=eF ha
 have b1:=ck hb
 have b2:=eF hb
 have p:=hP h
 rw [Int.pow_add] at p
 have h1:val a*val b≤val a*10000 ^ b.length:=Int.mul_le_mul_of_nonneg_left (Int.le_of_lt b2) a1
 have h2:val a*10000 ^ b.length<10000 ^ a.length*10000 ^ b.length:=Int.mul_lt_mul_of_pos_right a2 (pow_pos _)
 omega
structure iw (a q:List Int) (n:Int) (i:Nat) (r:Int):Prop where
 len:q.length=a.length
 eq:val (a.drop i)=n*val (q.drop i)+r
 r0:0≤r∧r<n
 ls:bM (q.drop i)
theorem iw.start {a q:List Int} {n:Int} (hn:0<n) (hl:q.length=a.length):iw a q n a.length 0 where
 len:=hl
 eq:=by rw [List.drop_length,←hl,List.drop_length];simp [val]
 r0:=by omega
 ls:=by rw [←hl,List.drop_length];intro x hx;cases hx
theorem iw.step {a q:List Int} {n r x:Int} {i:Nat} (h:iw a q n (i+1) r) (ha:bM a) (hx:a[i]?=some x) (hn:n≤1000000000000):(0≤r*10000+x∧r*10000+x≤10000000000000000)∧iw a (q.set i ((r*10000+x) / n)) n i ((r*10000+x) % n):=by
 have hi:=(List.getElem?_eq_some_iff.1 hx).1
 have hxl:lim x:=ha x (List.mem_of_getElem? hx)
 unfold lim at hxl
 have hr:=h.r0
 have hq:(q.set i ((r*10000+x) / n))[i]?=some ((r*10000+x) / n):=List.getElem?_set_self (by rw [h.len];exact hi)
 have hd:(q.set i ((r*10000+x) / n)).drop (i+1)=q.drop (i+1):=List.drop_set_of_lt (Nat.lt_succ_self i)
 have hn0:0<n:=by omega
 have hq0:0≤(r*10000+x) / n:=Int.ediv_nonneg (by omega) (by omega)
 have hq1:(r*10000+x) / n<10000:=Int.ediv_lt_of_lt_mul hn0 (by omega)
 refine ⟨by omega,⟨by rw [List.length_set,h.len],?_,⟨Int.emod_nonneg _ (by omega),Int.emod_lt_of_pos _ hn0⟩,?_⟩⟩
 ·rw [jo hx,jo hq,hd,h.eq]
  have:=Int.mul_ediv_add_emod (r*10000+x) n
  generalize (r*10000+x) / n=y at *
  generalize (r*10000+x) % n=z at *
  grind
 rw [List.drop_eq_getElem_cons (by rw [List.length_set,h.len];exact hi),hd]
 intro y hy
 rcases List.mem_cons.1 hy with rfl | hy
 ·rw [List.getElem_set_self];exact ⟨hq0,hq1⟩
 exact h.ls y hy
theorem iw.fin {a q:List Int} {n r:Int} (h:iw a q n 0 r):val q=val a / n∧r=val a % n∧bM q:=by
 have e:=h.eq
 rw [List.drop_zero,List.drop_zero] at e
 have hr:=h.r0
 have hl:=h.ls
 rw [List.drop_zero] at hl
 refine ⟨?_,?_,hl⟩
 ·rw [e,Int.add_comm,Int.add_mul_ediv_left _ _ (by omega),Int.ediv_eq_zero_of_lt hr.1 hr.2,Int.zero_add]
 rw [e,Int.add_comm,Int.add_mul_emod_self_left,Int.emod_eq_of_lt hr.1 hr.2]
end Wh
namespace Wh
def sg3 (x y:Int):Int:=if x<y then -1 else if y<x then 1 else 0
theorem fX {x y:Int} (h:x<y):sg3 x y=-1:=if_pos h
theorem lS {x y:Int} (h:y<x):sg3 x y=1:=by unfold sg3;rw [if_neg (by omega),if_pos h]
theorem ve (x:Int):sg3 x x=0:=by unfold sg3;rw [if_neg (by omega),if_neg (by omega)]
theorem nO {a:List Int} (ha:bM a) (i:Nat):val (a.take i)<10000 ^ i:=by
 have h1:=eF (eR ha i)
 have h2:=hP (m:=(a.take i).length) (n:=i) (by rw [List.length_take];omega)
 omega
theorem oY {a b:List Int} (ha:bM a) (hb:bM b) {i:Nat} (hlt:nth a i<nth b i):∀ n,i<n→(∀ j,i<j→j<n→nth a j=nth b j)→val (a.take n)<val (b.take n)
 | 0,h,_=>absurd h (Nat.not_lt_zero _)
 | n+1,h,he=>by
  by_cases hn:i=n
  ·subst hn
   have h1:=nO ha i
   have h2:=ck (eR hb i)
   rw [bs,bs]
   have h3:=Int.mul_le_mul_of_nonneg_left (show nth a i+1≤nth b i by omega) (Int.le_of_lt (pow_pos i))
   rw [Int.mul_add,Int.mul_one] at h3
   omega
  have ih:=oY ha hb hlt n (by omega) fun j h1 h2=>he j h1 (by omega)
  rw [bs,bs,he n (by omega) (by omega)]
  omega
theorem tV {a b:List Int}:∀ n,(∀ j,j<n→nth a j=nth b j)→val (a.take n)=val (b.take n)
 | 0,_=>by simp [val]
 | n+1,he=>by
  rw [bs,bs,he n (by omega),tV n fun j h=>he j (by omega)]
theorem eV {a:List Int} {n:Nat} (h:a.length≤n):a.take n=a:=List.take_of_length_le h
theorem rV {a b:List Int} (ha:bM a) (hb:bM b) {i n:Nat} (h1:a.length≤n) (h2:b.length≤n) (hi:i<n) (he:∀ j,i<j→j<n→nth a j=nth b j) (hlt:nth a i<nth b i):sg3 (val a) (val b)=-1:=by
 have:=oY ha hb hlt n hi he
 rw [eV h1,eV h2] at this
 exact fX this
theorem rU {a b:List Int} (ha:bM a) (hb:bM b) {i n:Nat} (h1:a.length≤n) (h2:b.length≤n) (hi:i<n) (he:∀ j,i<j→j<n→nth a j=nth b j) (hlt:nth b i<nth a i):sg3 (val a) (val b)=1:=by
 have:=oY hb ha hlt n hi fun j h1 h2=>(he j h1 h2).symm
 rw [eV h1,eV h2] at this
 exact lS this
theorem cmp_eq {a b:List Int} {n:Nat} (h1:a.length≤n) (h2:b.length≤n) (he:∀ j,j<n→nth a j=nth b j):sg3 (val a) (val b)=0:=by
 have:=tV n he
 rw [eV h1,eV h2] at this
 rw [this,ve]
theorem dk {m n:Nat} (h:m≤n):(dig m).length≤(dig n).length:=by
 refine dE ?_
 have h1:=eF (am n)
 rw [bO] at h1
 have h2:((10000 ^ (dig n).length:Nat):Int)=(10000:Int) ^ (dig n).length:=Int.natCast_pow 10000 _
 generalize (10000:Int) ^ (dig n).length=P at *
 generalize 10000 ^ (dig n).length=Q at *
 omega
theorem jI {m n:Nat} (h:(dig m).length<(dig n).length):m<n:=by
 by_cases h':n≤m
 ·have:=dk h';omega
 omega
def sgn (neg:Bool) (n:Int):Int:=if neg then -n else n
theorem pZ {neg:Bool} {n:Int} (h:0≤n):decide (sgn neg n<0)=(neg && decide (n≠0)):=by
 cases neg
 ·simp [sgn];omega
 simp only [sgn,if_true,Bool.true_and,decide_eq_decide];omega
theorem lU {neg:Bool} {n:Int} (h:0≤n):(sgn neg n).natAbs=n.toNat:=by
 cases neg
 ·simp only [sgn,Bool.false_eq_true,if_false];omega
 simp only [sgn,if_true];omega
theorem nE (z:Int):sgn (decide (z<0)) z.natAbs=z:=by
 unfold sgn
 by_cases h:z<0
 ·rw [if_pos (decide_eq_true h)];omega
 rw [if_neg (by simp [h])];omega
end Wh
end
section
open Go.RowKit
theorem jf {a b:Int} (h:a=b):Ending.returned (.int .i64 a)=.returned (.int .i64 b):=by rw [h]
theorem cj {a b:Bool} (h:a=b):Ending.returned (.bool a)=.returned (.bool b):=by rw [h]
theorem dU (n lo hi:Int) (w:World) :
  Calls Tryz.prog 47 #[.int .i64 n,.int .i64 lo,.int .i64 hi] w fun e w'=>e=.returned (.bool (M.ins n lo hi))∧w=w':=by
 unfold M.ins
 by_cases h1:lo≤n <;> by_cases h2:n≤hi <;>
 (go_enter Tryz.func47,Tryz.ntmps47
  go_wp2
  go_ret;exact ⟨by simp [h1,h2],rfl⟩)
theorem cw (n lo hi:Int) (w:World) :
  Calls Tryz.prog 48 #[.int .i64 n,.int .i64 lo,.int .i64 hi] w fun e w'=>e=.returned (.bool (M.ins n lo hi))∧w=w':=by
 unfold M.ins
 by_cases h1:lo≤n <;> by_cases h2:n≤hi <;>
 (go_enter Tryz.func48,Tryz.ntmps48
  go_wp2
  go_ret;exact ⟨by simp [h1,h2],rfl⟩)
theorem rx (n:Int) (w:World) (h1:0≤n) (h2:n≤4000000000000000000) :
  Calls Tryz.prog 104 #[.int .i64 n] w fun e w'=>e=.returned (.int .i64 (M.root n))∧w=w':=by
 go_enter Tryz.func104,Tryz.ntmps104
 go_wp2
 go_loop [3,4] (fun l h=>∃ a b:Int,0≤a∧a<b∧b≤2000000001∧l=.int .i64 a∧h=.int .i64 b∧a*a≤n∧n<b*b) (fun l h=>(intOf h - intOf l).toNat)
 case atStart=>exact ⟨0,2000000001,by omega,by omega,by omega,rfl,rfl,by simp;omega,by simp;omega⟩
 case round=>
 obtain ⟨a,b,ha,hab,hb,rfl,rfl,ha2,hb2⟩:=hrel
 by_cases c1:1<b - a
 ·have hm1:a<(a+b) / 2:=by omega
  have hm2:(a+b) / 2<b:=by omega
  have hbm:=M.lF (x:=(a+b) / 2) (y:=(a+b) / 2) (m:=2000000001) (n:=2000000001) (by omega) (by omega) (by omega) (by omega)
  by_cases c2:(a+b) / 2*((a+b) / 2)≤n
  ·go_wp2
   go_round
   case rel=>exact ⟨(a+b) / 2,b,by omega,by omega,by omega,rfl,rfl,c2,hb2⟩
   case measure=>simp [intOf];omega
  go_wp2
  go_round
  case rel=>exact ⟨a,(a+b) / 2,by omega,by omega,by omega,rfl,rfl,ha2,by omega⟩
  case measure=>simp [intOf];omega
 go_wp2
 go_ret;exact ⟨jf (M.iq ⟨by omega,ha2,by rw [show (a:Int)+1=b from by omega];exact hb2⟩),rfl⟩
theorem mO (a b:Int) (w:World) (h1:-9000000000000000000≤a) (h2:a≤9000000000000000000) (h3:-9000000000000000000≤b) (h4:b≤9000000000000000000) :
  Calls Tryz.prog 75 #[.int .i64 a,.int .i64 b] w fun e w'=>e=.returned (.int .i64 (M.gcd a b))∧∃ m,w'=w.drewN m:=by
 go_enter Tryz.func75,Tryz.ntmps75
 go_wp2
 go_loopw [0,1] (fun va vb wr=>∃ x y:Int,va=.int .i64 x∧vb=.int .i64 y∧-9000000000000000000≤x∧x≤9000000000000000000∧-9000000000000000000≤y∧y≤9000000000000000000∧M.gcd x y=M.gcd a b∧∃ m,wr=w.drewN m) (fun _ vb _=>(intOf vb).natAbs)
 case atStart=>exact ⟨a,b,rfl,rfl,h1,h2,h3,h4,rfl,0,rfl⟩
 case round=>
 obtain ⟨x,y,rfl,rfl,x1,x2,y1,y2,hg,m,rfl⟩:=hrel
 have Hg:=ws hg
 clear hg
 by_cases hy:y=0
 ·subst hy
  by_cases hx:0≤x
  ·go_wp2
   all_goals (go_ret;exact ⟨jf (by rw [←Hg.out];simp only [M.gcd,Int.gcd_zero_right];omega),_,rfl⟩)
  go_wp2
  all_goals (go_ret;exact ⟨jf (by rw [←Hg.out];simp only [M.gcd,Int.gcd_zero_right];omega),_,rfl⟩)
 have ht:=Int.natAbs_tmod x y
 have hm:x.natAbs % y.natAbs<y.natAbs:=Nat.mod_lt _ (by omega)
 have ht:=ws (show (x.tmod y).natAbs<y.natAbs by omega)
 have ht1:-9000000000000000000≤x.tmod y:=by omega
 have ht2:x.tmod y≤9000000000000000000:=by omega
 by_cases hp:0≤x∧1≤y
 ·obtain ⟨p1,p2⟩:=hp
  have e1:=ws (Int.tmod_eq_emod_of_nonneg (b:=y) p1)
  have hb:=M.sm (a:=x) p2
  go_wp2
  go_quiet (fail)
  go_wp2
  go_roundw
  case rel=>exact ⟨y,x % y,rfl,rfl,y1,y2,by omega,by omega,by rw [←Hg.out,←e1.out];unfold M.gcd;rw [M.jN],_,World.drewN_drewN _ _ _⟩
  case measure=>simp [intOf];omega
 go_wp2
 go_quiet (fail)
 go_wp2
 go_roundw
 case rel=>exact ⟨y,x.tmod y,rfl,rfl,y1,y2,ht1,ht2,by rw [←Hg.out];unfold M.gcd;rw [M.jN],_,World.drewN_drewN _ _ _⟩
 case measure=>have:=ht.out;simp [intOf];omega
theorem dD (a b:Int) (w:World) (h1:0≤a) (h2:a≤9000000000000000000) (h3:0≤b) (h4:b≤9000000000000000000) :
  Calls Tryz.prog 83 #[.int .i64 a,.int .i64 b] w fun e w'=>e=.returned (.int .i64 (M.gcd a b))∧w=w':=by
 go_enter Tryz.func83,Tryz.ntmps83
 go_wp2
 go_loop [0,1] (fun va vb=>∃ x y:Int,va=.int .i64 x∧vb=.int .i64 y∧0≤x∧x≤9000000000000000000∧0≤y∧y≤9000000000000000000∧M.gcd x y=M.gcd a b) (fun _ vb=>(intOf vb).toNat)
 case atStart=>exact ⟨a,b,rfl,rfl,h1,h2,h3,h4,rfl⟩
 case round=>
 obtain ⟨x,y,rfl,rfl,x1,x2,y1,y2,hg⟩:=hrel
 have Hg:=ws hg
 clear hg
 by_cases hy:0<y
 ·have hb:=M.sm (a:=x) (p:=y) (by omega)
  have e1:=ws (Int.tmod_eq_emod_of_nonneg (b:=y) x1)
  go_wp2
  go_round
  case rel=>exact ⟨y,x % y,rfl,rfl,y1,y2,by omega,by omega,by rw [←Hg.out,←e1.out];unfold M.gcd;rw [M.jN]⟩
  case measure=>simp [intOf];omega
 obtain rfl:y=0:=by omega
 go_wp2
 go_ret;exact ⟨jf (by rw [←Hg.out];simp only [M.gcd,Int.gcd_zero_right];omega),rfl⟩
theorem dc (a b:Int) (w:World) :
  Calls Tryz.prog 91 #[.int .i64 a,.int .i64 b] w fun e w'=>e=.returned (.int .i64 (max a b))∧w=w':=by
 by_cases h:b<a
 ·go_enter Tryz.func91,Tryz.ntmps91
  go_wp2
  go_ret;exact ⟨jf (by omega),rfl⟩
 go_enter Tryz.func91,Tryz.ntmps91
 go_wp2
 go_ret;exact ⟨jf (by omega),rfl⟩
theorem dA (a:Int) (w:World) (h1:-9223372036854775807≤a) (h2:a≤9223372036854775807) :
  Calls Tryz.prog 84 #[.int .i64 a] w fun e w'=>e=.returned (.int .i64 (a.natAbs:Int))∧w=w':=by
 go_enter Tryz.func84,Tryz.ntmps84
 go_wp2_with (go_at_call 91;refine (dc _ _ _).mono ?_;rintro e w' ⟨rfl,rfl⟩)
 go_ret;exact ⟨jf (by omega),rfl⟩
theorem fw {W w1:World} (hb:Below W.heap.size W w1):(∀ b o,b<W.heap.size→w1.cell? ⟨b,o,none⟩=W.cell? ⟨b,o,none⟩)∧(∀ b o,b<W.heap.size→w1.frozen? ⟨b,o,none⟩=W.frozen? ⟨b,o,none⟩)∧W.heap.size≤w1.heap.size:=
 ⟨fun b o h=>hb.cell (p:=⟨b,o,none⟩) h,fun b o h=>hb.frozen (p:=⟨b,o,none⟩) h,hb.size⟩
theorem aP (w:World):w.drew.heap=w.heap:=rfl
theorem aJ (w:World) (a:Addr) (v:Value):(w.setCell a v).heap.size=w.heap.size:=by simp [World.setCell]
theorem aR {w W:World} (h:Below w.heap.size w W) (o:Obj):Below w.heap.size w (W.alloc o):=h.alloc h.size o
theorem aS {w W w':World} (h:Below w.heap.size w W) (hb:Below W.heap.size W w'):Below w.heap.size w w':=h.trans (hb.mono h.size)
theorem aL {w W:World} (h:Below w.heap.size w W) (n:Nat):Below w.heap.size w (W.drewN n):=by
 induction n with
 | zero=>exact h
 | succ n ih=>exact ih.drew
theorem ng (a b:Int) (w:World) (h:M.bB a b=true) :
  Calls Tryz.prog 73 #[.agg #[.int .i64 a,.int .i64 b]] w fun e w'=>e=.returned (.int .i64 (M.ay a b))∧Below w.heap.size w w':=by
 obtain ⟨h1,h1',h2,h2'⟩:=M.aj h
 have b1:=M.aK (x:=4*a) (y:=a) (m:=4000) (n:=1000) (by omega) (by omega) (by omega) (by omega)
 have b2:=M.aK (x:=4*a*a) (y:=a) (m:=4000000) (n:=1000) (by omega) (by omega) (by omega) (by omega)
 have b3:=M.aK (x:=27*b) (y:=b) (m:=270000) (n:=10000) (by omega) (by omega) (by omega) (by omega)
 go_enter Tryz.func73,Tryz.ntmps73
 go_wp2
 go_ret
 exact ⟨rfl,(by repeat (first | exact ww _ _ | refine aR ?_ _ | refine aS ?_ (by assumption) | refine Below.drew ?_ | refine wu ?_ (by first | exact xA _ | exact Nat.le_add_right _ _ | (simp <;> omega)) _ | refine aL ?_ _))⟩
theorem ru (a b:Int) (w:World) (h:M.bB a b=true) :
  Calls Tryz.prog 65 #[.agg #[.int .i64 a,.int .i64 b]] w fun e w'=>e=.returned (.int .i64 (M.ay a b))∧Below w.heap.size w w':=by
 obtain ⟨h1,h1',h2,h2'⟩:=M.aj h
 have b1:=M.aK (x:=4*a) (y:=a) (m:=4000) (n:=1000) (by omega) (by omega) (by omega) (by omega)
 have b2:=M.aK (x:=4*a*a) (y:=a) (m:=4000000) (n:=1000) (by omega) (by omega) (by omega) (by omega)
 have b3:=M.aK (x:=27*b) (y:=b) (m:=270000) (n:=10000) (by omega) (by omega) (by omega) (by omega)
 go_enter Tryz.func65,Tryz.ntmps65
 go_wp2
 go_ret
 exact ⟨rfl,(by repeat (first | exact ww _ _ | refine aR ?_ _ | refine aS ?_ (by assumption) | refine Below.drew ?_ | refine wu ?_ (by first | exact xA _ | exact Nat.le_add_right _ _ | (simp <;> omega)) _ | refine aL ?_ _))⟩
theorem kG (a b:Int) (w:World) :
  Calls Tryz.prog 54 #[.agg #[.int .i64 a,.int .i64 b]] w fun e w'=>e=.returned (.bool (M.good a b))∧Below w.heap.size w w':=by
 cases h1:M.ins a (-1000) 1000
 ·go_enter Tryz.func54,Tryz.ntmps54
  go_wp2_with (go_at_call 48;refine (cw _ _ _ _).mono ?_;rintro e w' ⟨rfl,rfl⟩)
  go_ret;exact ⟨cj (by simp [M.good,M.bB,h1]),(by repeat (first | exact ww _ _ | refine aR ?_ _ | refine aS ?_ (by assumption) | refine Below.drew ?_ | refine wu ?_ (by first | exact xA _ | exact Nat.le_add_right _ _ | (simp <;> omega)) _ | refine aL ?_ _))⟩
 cases h2:M.ins b (-10000) 10000
 ·go_enter Tryz.func54,Tryz.ntmps54
  go_wp2_with (go_at_call 48;refine (cw _ _ _ _).mono ?_;rintro e w' ⟨rfl,rfl⟩)
  go_ret;exact ⟨cj (by simp [M.good,M.bB,h2]),(by repeat (first | exact ww _ _ | refine aR ?_ _ | refine aS ?_ (by assumption) | refine Below.drew ?_ | refine wu ?_ (by first | exact xA _ | exact Nat.le_add_right _ _ | (simp <;> omega)) _ | refine aL ?_ _))⟩
 go_enter Tryz.func54,Tryz.ntmps54
 go_wp2_with (first | (go_at_call 48;refine (cw _ _ _ _).mono ?_;rintro e w' ⟨rfl,rfl⟩) | (go_at_call 73;refine (ng _ _ _ (by simp [M.bB,h1,h2])).mono ?_;rintro e w' ⟨rfl,hb⟩;obtain ⟨hc_,hf_,hz_⟩:=fw hb;(try simp only [wt,aP,World.heap_drewN,aJ] at hz_)))
 go_ret;exact ⟨cj (by simp [M.good,M.bB,h1,h2]),(by repeat (first | exact ww _ _ | refine aR ?_ _ | refine aS ?_ (by assumption) | refine Below.drew ?_ | refine wu ?_ (by first | exact xA _ | exact Nat.le_add_right _ _ | (simp <;> omega)) _ | refine aL ?_ _))⟩
theorem mG (a b:Int) (w:World) :
  Calls Tryz.prog 51 #[.agg #[.int .i64 a,.int .i64 b]] w fun e w'=>e=.returned (.bool (M.good a b))∧Below w.heap.size w w':=by
 cases h1:M.ins a (-1000) 1000
 ·go_enter Tryz.func51,Tryz.ntmps51
  go_wp2_with (go_at_call 47;refine (dU _ _ _ _).mono ?_;rintro e w' ⟨rfl,rfl⟩)
  go_ret;exact ⟨cj (by simp [M.good,M.bB,h1]),(by repeat (first | exact ww _ _ | refine aR ?_ _ | refine aS ?_ (by assumption) | refine Below.drew ?_ | refine wu ?_ (by first | exact xA _ | exact Nat.le_add_right _ _ | (simp <;> omega)) _ | refine aL ?_ _))⟩
 cases h2:M.ins b (-10000) 10000
 ·go_enter Tryz.func51,Tryz.ntmps51
  go_wp2_with (go_at_call 47;refine (dU _ _ _ _).mono ?_;rintro e w' ⟨rfl,rfl⟩)
  go_ret;exact ⟨cj (by simp [M.good,M.bB,h2]),(by repeat (first | exact ww _ _ | refine aR ?_ _ | refine aS ?_ (by assumption) | refine Below.drew ?_ | refine wu ?_ (by first | exact xA _ | exact Nat.le_add_right _ _ | (simp <;> omega)) _ | refine aL ?_ _))⟩
 go_enter Tryz.func51,Tryz.ntmps51
 go_wp2_with (first | (go_at_call 47;refine (dU _ _ _ _).mono ?_;rintro e w' ⟨rfl,rfl⟩) | (go_at_call 65;refine (ru _ _ _ (by simp [M.bB,h1,h2])).mono ?_;rintro e w' ⟨rfl,hb⟩;obtain ⟨hc_,hf_,hz_⟩:=fw hb;(try simp only [wt,aP,World.heap_drewN,aJ] at hz_)))
 go_ret;exact ⟨cj (by simp [M.good,M.bB,h1,h2]),(by repeat (first | exact ww _ _ | refine aR ?_ _ | refine aS ?_ (by assumption) | refine Below.drew ?_ | refine wu ?_ (by first | exact xA _ | exact Nat.le_add_right _ _ | (simp <;> omega)) _ | refine aL ?_ _))⟩
def cv (a b:Int):Value:=.agg #[.int .i64 a,.int .i64 b]
theorem kq {a b:Int} (h:b≠0):0<M.gcd a b:=by
 unfold M.gcd
 have:0<Int.gcd a b:=Int.gcd_pos_of_ne_zero_right _ h
 omega
def b9 (a b:Int):Int:=if b<0 then -a.tdiv (M.gcd a b) else a.tdiv (M.gcd a b)
def bT (a b:Int):Int:=if b<0 then -b.tdiv (M.gcd a b) else b.tdiv (M.gcd a b)
theorem eU {a b:Int} (h:b<0):b9 a b=-a.tdiv (M.gcd a b):=if_pos h
theorem dH {a b:Int} (h:0≤b):b9 a b=a.tdiv (M.gcd a b):=if_neg (by omega)
theorem eT {a b:Int} (h:b<0):bT a b=-b.tdiv (M.gcd a b):=if_pos h
theorem dG {a b:Int} (h:0≤b):bT a b=b.tdiv (M.gcd a b):=if_neg (by omega)
theorem eD {a d m:Int} (h1:-m≤a) (h2:a≤m) (hd:d≠0):-m≤a.tdiv d∧a.tdiv d≤m:=by
 have:(a.tdiv d).natAbs≤a.natAbs:=by rw [Int.natAbs_tdiv];exact Nat.div_le_self _ _
 omega
theorem rz {a b:Int} (h:b≠0):M.gcd a b≤b.natAbs:=by
 unfold M.gcd
 have:=Nat.le_of_dvd (by omega) (Nat.gcd_dvd_right a.natAbs b.natAbs)
 simp only [Int.gcd]
 omega
theorem gN (a b:Int) (w:World) (h1:-4000000000000000000≤a) (h2:a≤4000000000000000000) (h3:-4000000000000000000≤b) (h4:b≤4000000000000000000) (h0:b≠0) :
  Calls Tryz.prog 103 #[.int .i64 a,.int .i64 b] w fun e w'=>e=.returned (.tuple #[.int .i64 (b9 a b),.int .i64 (bT a b)])∧Below w.heap.size w w':=by
 have hg:=kq (a:=a) h0
 have hl:=rz (a:=a) h0
 have hgg:M.gcd a.natAbs b.natAbs=M.gcd a b:=by simp [M.gcd,Int.gcd]
 have t1:=eD (d:=M.gcd a b) h1 h2 (by omega)
 have t2:=eD (d:=M.gcd a b) h3 h4 (by omega)
 by_cases hb:b<0
 ·have e1:=ws (eU (a:=a) hb)
  have e2:=ws (eT (a:=a) hb)
  go_enter Tryz.func103,Tryz.ntmps103
  go_wp2_with (first | (go_at_call 84;refine (dA _ _ (by omega) (by omega)).mono ?_;rintro e w' ⟨rfl,rfl⟩) | (go_at_call 83;refine (dD _ _ _ (by omega) (by omega) (by omega) (by omega)).mono ?_;rintro e w' ⟨rfl,rfl⟩))
  go_quiet (fail)
  go_wp2
  go_ret2
  exact ⟨by rw [e1.out,e2.out];rfl,(by repeat (first | exact ww _ _ | refine aR ?_ _ | refine aS ?_ (by assumption) | refine Below.drew ?_ | refine wu ?_ (by first | exact xA _ | exact Nat.le_add_right _ _ | (simp <;> omega)) _ | refine aL ?_ _))⟩
 have e1:=ws (dH (a:=a) (b:=b) (by omega))
 have e2:=ws (dG (a:=a) (b:=b) (by omega))
 go_enter Tryz.func103,Tryz.ntmps103
 go_wp2_with (first | (go_at_call 84;refine (dA _ _ (by omega) (by omega)).mono ?_;rintro e w' ⟨rfl,rfl⟩) | (go_at_call 83;refine (dD _ _ _ (by omega) (by omega) (by omega) (by omega)).mono ?_;rintro e w' ⟨rfl,rfl⟩))
 go_quiet (fail)
 go_wp2
 go_ret2
 exact ⟨by rw [e1.out,e2.out];rfl,(by repeat (first | exact ww _ _ | refine aR ?_ _ | refine aS ?_ (by assumption) | refine Below.drew ?_ | refine wu ?_ (by first | exact xA _ | exact Nat.le_add_right _ _ | (simp <;> omega)) _ | refine aL ?_ _))⟩
theorem aE {W w':World} (hb:Below W.heap.size W w') {p:Addr} {v:Value} (h:W.cell? p=some v):w'.cell? p=some v:=
 (hb.cell (World.block_lt_of_cell? W _ h)).trans h
theorem ar {W w':World} (hb:Below W.heap.size W w') {p:Addr} (h:p.block<W.heap.size) (hf:W.frozen? p=false):w'.frozen? p=false:=
 (hb.frozen h).trans hf
theorem jP:(Tryz.prog.info? 3).map (fun i=>(i.zero,i.size,i.bytes))=some (some (.int .i64 0),1,8):=by kernel_rfl
def aF (w:World) (base:Nat) (v:Value) (xs:List Int):Prop:=w.ownsRow base 3 1 v xs.length (xs.map (Value.int .i64))
theorem aF.nil (w:World) (base:Nat):aF w base (.slice none 0 0) []:=World.ownsRow_nil w base _ 1
theorem aF.push {w:World} {base:Nat} {v':Value} {xs:List Int} {n:Nat} {x:Int} {ys:List Int} (hn:n=xs.length) (h:w.ownsRow base 3 1 v' (n+1) (xs.map (Value.int .i64) ++ [.int .i64 x])) (he:ys=xs ++ [x]):aF w base v' ys:=by
 subst hn he
 simpa [aF] using h
theorem aF.below {w w':World} {base:Nat} {v:Value} {xs:List Int} (h:aF w base v xs) (hb:Below w.heap.size w w'):aF w' base v xs:=by
 obtain ⟨h1,h2⟩:=h
 refine ⟨h1,?_⟩
 rcases h2 with h2 | ⟨g,cap,cur,hv,hg,hh,r⟩
 ·exact Or.inl h2
 exact Or.inr ⟨g,cap,cur,hv,hg,by rw [hb.block g (Array.getElem?_eq_some_iff.1 hh).1];exact hh,r⟩
theorem aF.base {w:World} {base base':Nat} {v:Value} {xs:List Int} (h:aF w base v xs) (hb:base'≤base):aF w base' v xs:=by
 obtain ⟨h1,h2⟩:=h
 refine ⟨h1,?_⟩
 rcases h2 with h2 | ⟨g,cap,cur,hv,hg,hh,r⟩
 ·exact Or.inl h2
 exact Or.inr ⟨g,cap,cur,hv,Nat.le_trans hb hg,hh,r⟩
theorem lH (x:Int):∀ u ∈ [Value.int .i64 x],u.oneCell'=true:=by
 intro u hu
 simp only [List.mem_singleton] at hu
 subst hu
 rfl
theorem aF.view {w:World} {base:Nat} {v:Value} {xs:List Int} (h:aF w base v xs):∃ (a:Option Addr) (cap:Nat),v=.slice a xs.length cap∧(xs.length:Int)≤9223372036854775807∧
  ∀ k,k<xs.length→∃ g x,a=some ⟨g,0,none⟩∧base≤g∧Hid (xs[k]?=some x)∧w.cell? ⟨g,k,none⟩=some (.int .i64 x):=by
 obtain ⟨h1,h2⟩:=h
 rcases h2 with ⟨rfl,hn⟩ | ⟨g,cap,cur,rfl,hg,hh,hc,hm,hs,ht⟩
 ·refine ⟨none,0,by rw [hn],by omega,fun k hk=>by omega⟩
 refine ⟨some ⟨g,0,none⟩,cap,rfl,by unfold maxLen at hm;omega,fun k hk=>⟨g,xs[k],rfl,hg,List.getElem?_eq_getElem hk,?_⟩⟩
 rw [cell_of_row w g k cur _ (0,0) hh]
 have e:(xs.map (Value.int .i64))[k]?=some (.int .i64 xs[k]):=by
  rw [List.getElem?_map,List.getElem?_eq_getElem hk]
  rfl
 rw [←ht,List.getElem?_take] at e
 split at e
 ·simpa using e
 cases e
theorem iD {xs:List Int} {k:Nat} {x:Int} (h:xs[k]?=some x):xs.take (k+1)=xs.take k ++ [x]:=by
 obtain ⟨hk,e⟩:=List.getElem?_eq_some_iff.1 h
 rw [List.take_succ_eq_append_getElem hk,e]
theorem ch {ops:Array Oper} {rest:List Oper} {o:Oper} {a:Act} {Q:Exit→Act→World→Prop} {w W:World} (base:Nat) (y:Int) (xs:List Int) (v:Value) (hgd:o.guard=none) (s x:Operand)
  (ho:o.op=.call { callee:=.builtin .append,args:=#[s,x],argTypes:=#[26,26] }) (hs:a.eval s=v) (hx:a.eval x=.slice (some ⟨w.heap.size,0,none⟩) 1 1)
  (hown:aF w base v xs) (hW:Below base W w) (hB:base≤w.heap.size) (hl:xs.length≤10000000000)
  (h:∀ v' w',aF w' base v' (xs ++ [y])→Below base W w'→wpList Tryz.prog ops Q rest (a.put o.dst v') w') :
  wpList Tryz.prog ops Q (o :: rest) a (w.alloc (.cells #[.int .i64 y] 3)):=by
 obtain ⟨i0,hi,hz0,hz1,hz2⟩:=info_parts jP
 refine wpList_append_own _ hgd s x 26 ho base 3 i0 (.int .i64 0) 1 8 Tryz.underlying26 hi hz0 hz1 hz2 rfl (by decide) v xs.length (xs.map (Value.int .i64)) hs (hown.alloc _) ⟨w.heap.size,0,none⟩ 1 1 [.int .i64 y] hx rfl (fun j u hu=>by
  have hadd:(⟨w.heap.size,0,none⟩:Addr).add j=⟨w.heap.size,j,none⟩:=by unfold Addr.add;split <;> simp_all
  rw [hadd,World.cell?_alloc_at _ _ _ _ rfl]
  simpa using hu) (lH _) ?_ ?_ ?_ ?_
 ·unfold maxLen;omega
 ·omega
 ·simp;omega
 intro v' w' h1 h2 _
 exact h v' w' (aF.push rfl h1 rfl) ((hW.alloc hB _).grown h2 (by simp;omega) fun k hk=>(hown.lt k hk).1)
def gI (w:World) (hi:Nat) (v:Value) (xs:List Int):Prop:=
 ∃ (a:Option Addr) (cap:Nat),v=.slice a xs.length cap∧(xs.length:Int)≤9223372036854775807∧
  ∀ k,k<xs.length→∃ g x,a=some ⟨g,0,none⟩∧g<hi∧Hid (xs[k]?=some x)∧w.cell? ⟨g,k,none⟩=some (.int .i64 x)
theorem gI.below {w w':World} {hi:Nat} {v:Value} {xs:List Int} (h:gI w hi v xs) (hb:Below hi w w'):gI w' hi v xs:=by
 obtain ⟨a,cap,h1,h2,h3⟩:=h
 refine ⟨a,cap,h1,h2,fun k hk=>?_⟩
 obtain ⟨g,x,e1,e2,e3,e4⟩:=h3 k hk
 exact ⟨g,x,e1,e2,e3,(hb.cell (p:=⟨g,k,none⟩) e2).trans e4⟩
theorem gI.mono {w:World} {hi hi':Nat} {v:Value} {xs:List Int} (h:gI w hi v xs) (hh:hi≤hi'):gI w hi' v xs:=by
 obtain ⟨a,cap,h1,h2,h3⟩:=h
 refine ⟨a,cap,h1,h2,fun k hk=>?_⟩
 obtain ⟨g,x,e1,e2,e3,e4⟩:=h3 k hk
 exact ⟨g,x,e1,by omega,e3,e4⟩
theorem aF.seen {w:World} {base:Nat} {v:Value} {xs:List Int} (h:aF w base v xs):gI w w.heap.size v xs:=by
 obtain ⟨a,cap,h1,h2,h3⟩:=h.view
 refine ⟨a,cap,h1,h2,fun k hk=>?_⟩
 obtain ⟨g,x,e1,e2,e3,e4⟩:=h3 k hk
 exact ⟨g,x,e1,World.block_lt_of_cell? w _ e4,e3,e4⟩
theorem gI.len {w:World} {hi:Nat} {v:Value} {xs:List Int} (h:gI w hi v xs):(xs.length:Int)≤9223372036854775807:=by
 obtain ⟨a,cap,h1,h2,h3⟩:=h
 exact h2
theorem da {a b c:World} {r:Option Nat} (h:a.grownBy b r) (k:b.grownBy c r):a.grownBy c r:=
 ⟨k.os.trans h.os,k.tape.trans h.tape,k.output.trans h.output,Nat.le_trans h.size k.size,fun i hi hne=>(k.block i (Nat.lt_of_lt_of_le hi h.size) hne).trans (h.block i hi hne)⟩
theorem gP (a:World) (r:Option Nat):a.grownBy a r:=⟨rfl,rfl,rfl,xA _,fun _ _ _=>rfl⟩
theorem sH {a b:World} {r:Option Nat} (h:a.grownBy b r) (n:Nat):a.grownBy (b.drewN n) r:=⟨h.os,h.tape,h.output,h.size,h.block⟩
theorem cX {a b:World} {r:Option Nat} {base:Nat} (h:a.grownBy b r) (hb:base≤a.heap.size) (hr:∀ k,r=some k→base≤k):Below base a b:=
 ⟨h.os,h.tape,h.output,h.size,fun i hi=>h.block i (by omega) (fun e=>by have:=hr i e.symm;omega)⟩
theorem cH {a b:World} (h:Below a.heap.size a b) (r:Option Nat):a.grownBy b r:=⟨h.os,h.tape,h.output,h.size,fun i hi _=>h.block i hi⟩
theorem aF.set {w:World} {base g cap n j:Nat} {xs:List Int} (hn:n=xs.length) (h:aF w base (.slice (some ⟨g,0,none⟩) n cap) xs) (x:Int) {ys:List Int} (he:ys=xs.set j x) :
  aF (w.setCell ⟨g,j,none⟩ (.int .i64 x)) base (.slice (some ⟨g,0,none⟩) n cap) ys∧w.grownBy (w.setCell ⟨g,j,none⟩ (.int .i64 x)) (some g):=by
 subst he hn
 have:=World.ownsRow.stored (g:=g) (cap:=cap) h j (.int .i64 x)
 refine ⟨?_,this.2⟩
 unfold aF
 rw [List.map_set,List.length_set]
 exact this.1
theorem aF.form {w:World} {base:Nat} {v:Value} {xs:List Int} (h:aF w base v xs) (hn:0<xs.length):∃ g cap,v=.slice (some ⟨g,0,none⟩) xs.length cap∧base≤g∧g<w.heap.size:=by
 rcases h.2 with ⟨rfl,h2⟩ | ⟨g,cap,cur,rfl,hg,hh,-⟩
 ·omega
 exact ⟨g,cap,rfl,hg,(Array.getElem?_eq_some_iff.1 hh).1⟩
theorem aF.uH (w:World) (base:Nat) (hb:base≤w.heap.size):aF (w.alloc (.cells #[] 3)) base (.slice (some ⟨w.heap.size,0,none⟩) 0 0) []:=
 World.ownsRow_made w #[] 0 hb (by unfold maxLen;omega) rfl
theorem aF.lt {w:World} {base:Nat} {v:Value} {xs:List Int} (h:aF w base v xs):∀ k,v.ownBlock=some k→base≤k∧k<w.heap.size:=World.ownsRow.lt h
theorem aF.alloc {w:World} {base:Nat} {v:Value} {xs:List Int} (h:aF w base v xs) (o:Obj):aF (w.alloc o) base v xs:=World.ownsRow.alloc h o
theorem aF.forms {w:World} {base:Nat} {v:Value} {xs:List Int} (h:aF w base v xs):(v=.slice none 0 0∧xs=[])∨∃ g cap,v=.slice (some ⟨g,0,none⟩) xs.length cap∧base≤g:=by
 rcases h.2 with ⟨e,h2⟩ | ⟨g,cap',cur,e,hg,-⟩
 ·exact Or.inl ⟨e,List.eq_nil_of_length_eq_zero h2⟩
 exact Or.inr ⟨g,cap',e,hg⟩
theorem aF.cap {w:World} {base:Nat} {a:Option Addr} {n cap:Nat} {xs:List Int} (h:aF w base (.slice a n cap) xs):xs.length≤cap∧cap≤9223372036854775807:=by
 rcases h.2 with ⟨e,h2⟩ | ⟨g,cap',cur,e,-,-,h3,h4,-⟩
 ·injection e with e1 e2 e3
  exact ⟨by omega,by omega⟩
 injection e with e1 e2 e3
 unfold maxLen at h4
 exact ⟨by omega,by omega⟩
theorem eA {P:Program} (w:World) (base:Nat) (t ty e:TypeId) (i:TypeInfo) (size:Nat) (ht:P.underlying t=some (.slice e)) (hi:P.info? e=some i)
  (v:Value) (n:Nat) (xs:List Value) (hown:w.ownsRow base e size v n xs) (c:Nat):(Builtin.append_ #[t,t] ty #[v,.slice none 0 c]).run P w=.ok v w:=by
 rcases hown.2 with ⟨rfl,rfl⟩ | ⟨g,cap,cur,rfl,_,_,hnc,_⟩
 ·simp [Builtin.append_,run_underlying ht,sizeOf,typeInfo,hi,Builtin.lenOf,Builtin.firstCells]
 simp [Builtin.append_,run_underlying ht,sizeOf,typeInfo,hi,Builtin.lenOf,Builtin.firstCells,hnc,storeCells]
theorem lR {w W:World} (base:Nat) (ty:TypeId) (ys xs:List Int) (v:Value) (A:Option Addr) (c:Nat)
  (hr:∀ j y,ys[j]?=some y→∃ ad,A=some ad∧w.cell? (ad.add j)=some (.int .i64 y)) (hown:aF w base v xs) (hW:Below base W w) (hB:base≤w.heap.size) (hl:xs.length+ys.length≤10000000000) :
  ∃ v' w',(Builtin.append_ #[26,26] ty #[v,.slice A ys.length c]).run Tryz.prog w=.ok v' w'∧aF w' base v' (xs ++ ys)∧Below base W w':=by
 obtain ⟨i0,hi,hz0,hz1,hz2⟩:=info_parts jP
 cases A with
 | none=>
  have he:ys=[]:=by
   cases ys with
   | nil=>rfl
   | cons y ys=>obtain ⟨ad,h,-⟩:=hr 0 y rfl;cases h
  subst he
  exact ⟨v,w,eA w base _ _ _ i0 1 Tryz.underlying26 hi _ _ _ hown c,by simpa using hown,hW⟩
 | some ad=>
 obtain ⟨v',w',h1,h2,h3,-,-⟩:=run_append_own_at (P:=Tryz.prog) w base 26 ty 3 i0 (.int .i64 0) 1 8 Tryz.underlying26 hi hz0 hz1 hz2 rfl (by decide) v xs.length (xs.map (Value.int .i64)) hown ad ys.length c (ys.map (Value.int .i64))
  (by simp) (fun j u hu=>by
   rw [List.getElem?_map] at hu
   cases hy:ys[j]? with
   | none=>rw [hy] at hu;cases hu
   | some y=>
    rw [hy] at hu
    obtain ⟨ad',h1,h2⟩:=hr j y hy
    obtain rfl:=Option.some.inj h1
    obtain rfl:=Option.some.inj hu
    exact h2) (fun u hu=>by
   obtain ⟨y,-,rfl⟩:=List.mem_map.1 hu
   rfl) (by unfold maxLen;omega) (by omega) hB
 refine ⟨v',w',h1,?_,hW.grown h3 hB fun k hk=>(hown.lt k hk).1⟩
 unfold aF
 rw [List.map_append,List.length_append]
 exact h2
theorem mf {ops:Array Oper} {rest:List Oper} {o:Oper} {a:Act} {Q:Exit→Act→World→Prop} {w W:World} (base:Nat) (ys xs:List Int) (v:Value) (A:Option Addr) (m c:Nat) (hm:ys.length=m) (hgd:o.guard=none) (s x:Operand)
  (ho:o.op=.call { callee:=.builtin .append,args:=#[s,x],argTypes:=#[26,26] }) (hs:a.eval s=v) (hx:a.eval x=.slice A m c)
  (hr:∀ j y,ys[j]?=some y→∃ ad,A=some ad∧w.cell? (ad.add j)=some (.int .i64 y)) (hown:aF w base v xs) (hW:Below base W w) (hB:base≤w.heap.size) (hl:xs.length+ys.length≤10000000000)
  (h:∀ v' w',aF w' base v' (xs ++ ys)→Below base W w'→wpList Tryz.prog ops Q rest (a.put o.dst v') w') :
  wpList Tryz.prog ops Q (o :: rest) a w:=by
 subst hm
 refine wpList_plain hgd fun _ hK=>?_
 obtain ⟨v',w',h1,h2,h3⟩:=lR (w:=w) (W:=W) base o.type ys xs v A c hr hown hW hB hl
 unfold Oper.wp execOp
 simp only [ho,resolve,invoke,builtin,Sem.run_bind,Sem.run_pure,Result.andThen_ok,List.map_toArray,List.map_cons,List.map_nil,hs,hx,h1]
 exact hK _ _ (h v' w' h2 h3)
end
end Go.Proofs.YtgfkcoablfjbcaaGreat
