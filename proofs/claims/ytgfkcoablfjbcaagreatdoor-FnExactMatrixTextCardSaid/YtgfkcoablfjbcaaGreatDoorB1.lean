/-
  Joined texts: contracts and plain lemmas.
-/
import Derived.Lib.Hide
import Derived.WalkKit
import Derived.Test.YtgfkcoablfjbcaaGreatDoorProg
import Derived.KernelRfl
import Derived.Deep.QuietTactic
import Derived.BigQuiet
import Derived.Deep.RegionHeld3
import Derived.Laws.OwnMore
import Derived.Maps.AppendAt
import Derived.OwnWalk
set_option linter.unusedSimpArgs false
set_option linter.unusedVariables false
set_option maxRecDepth 100000
set_option maxHeartbeats 8000000
namespace Go.Proofs.YtgfkcoablfjbcaaGreatDoor
section
theorem uh {p : Prop} (h : p) : RowKit.Hid p := Lib.hid h
theorem ui (w : World) (o : Obj) : (w.alloc o).heap.size = w.heap.size + 1 := World.size_alloc w o
theorem uj {B : Nat} {a w : World} (h : RowKit.Below B a w) {p : Addr} (hp : B ≤ p.block) (u : Value) : RowKit.Below B a (w.setCell p u) := RowKit.Below.setCell h hp u
theorem uk (B : Nat) (w : World) : RowKit.Below B w w := RowKit.Below.refl B w
theorem ul (n : Nat) : n ≤ n := Nat.le_refl n
namespace M
def I64 (a:Int):Prop:=-9223372036854775808≤a∧a≤9223372036854775807
def pick (ok:Bool) (x:Int):Int:=if ok then x else 0
theorem d9 (x:Int):pick true x=x:=rfl
theorem fE (x:Int):pick false x=0:=rfl
def ins (n lo hi:Int):Bool:=decide (lo≤n∧n≤hi)
theorem np {n lo hi:Int}:ins n lo hi=true ↔ lo≤n∧n≤hi:=by simp [ins]
theorem el {n lo hi:Int} (h:ins n lo hi=true):lo≤n∧n≤hi:=np.1 h
theorem aL {x y m n:Int} (h1:-m≤x) (h2:x≤m) (h3:-n≤y) (h4:y≤n):-(m*n)≤x*y∧x*y≤m*n:=by
 have a1:0≤(m - x)*(n - y):=Int.mul_nonneg (by omega) (by omega)
 have a2:0≤(m+x)*(n+y):=Int.mul_nonneg (by omega) (by omega)
 have a3:0≤(m - x)*(n+y):=Int.mul_nonneg (by omega) (by omega)
 have a4:0≤(m+x)*(n - y):=Int.mul_nonneg (by omega) (by omega)
 simp only [Int.sub_mul,Int.mul_sub,Int.add_mul,Int.mul_add] at a1 a2 a3 a4
 constructor <;> omega
theorem kI {x y m n:Int} (h1:0≤x) (h2:x≤m) (h3:0≤y) (h4:y≤n):0≤x*y∧x*y≤m*n:=
 ⟨Int.mul_nonneg h1 h3,(aL (m:=m) (n:=n) (by omega) h2 (by omega) h4).2⟩
def fX (n:Int):Prop:=2≤n∧∀ d:Int,2≤d→d*d≤n→¬ n % d=0
open Classical in
noncomputable def prime (n:Int):Bool:=decide (fX n)
theorem pJ {n:Int}:prime n=true ↔ fX n:=by simp [prime]
theorem pL {n:Int}:prime n=false ↔ ¬ fX n:=by simp [prime]
theorem uc {k m:Int} (hm:0≤m) (h:k*k<m*m):k<m:=by
 rcases Int.lt_or_le k m with q | q
 ·exact q
 have:m*m≤k*k:=Int.mul_le_mul q q (by omega) (by omega)
 omega
def pi (n r:Int):Prop:=0≤r∧r*r≤n∧n<(r+1)*(r+1)
theorem pi.uniq {n r s:Int} (h:pi n r) (k:pi n s):r=s:=by
 obtain ⟨a,b,c⟩:=h
 obtain ⟨d,e,f⟩:=k
 rcases Int.lt_trichotomy r s with q | q | q
 ·have:(r+1)*(r+1)≤s*s:=Int.mul_le_mul (by omega) (by omega) (by omega) (by omega)
  omega
 ·exact q
 have:(s+1)*(s+1)≤r*r:=Int.mul_le_mul (by omega) (by omega) (by omega) (by omega)
 omega
theorem n5 (n:Nat):∃ r:Nat,r*r≤n∧n<(r+1)*(r+1):=by
 induction n with
 | zero=>exact ⟨0,by omega,by omega⟩
 | succ n ih=>
 obtain ⟨r,h1,h2⟩:=ih
 rcases Nat.lt_or_ge (n+1) ((r+1)*(r+1)) with q | q
 ·exact ⟨r,by omega,q⟩
 refine ⟨r+1,q,?_⟩
 have:(r+1+1)*(r+1+1)=(r+1)*(r+1)+2*r+3:=by simp only [Nat.add_mul,Nat.mul_add];omega
 omega
open Classical in
noncomputable def root (n:Int):Int:=if h:0≤n then ((n5 n.toNat).choose:Int) else 0
theorem gZ {n:Int} (h:0≤n):pi n (root n):=by
 obtain ⟨a,b⟩:=(n5 n.toNat).choose_spec
 unfold root
 rw [dif_pos h]
 refine ⟨by omega,?_,?_⟩
 ·have:=Int.ofNat_le.2 a;push_cast at this;omega
 have:=Int.ofNat_lt.2 b;push_cast at this;omega
theorem iK {n r:Int} (h:pi n r):r=root n:=by
 have:0≤r*r:=Int.mul_nonneg h.1 h.1
 exact h.uniq (gZ (by have:=h.2.1;omega))
def val (a b x:Int):Int:=x*x*x+a*x+b
def ay (a b:Int):Int:=4*a*a*a+27*b*b
def bB (a b:Int):Bool:=ins a (-1000) 1000 && ins b (-10000) 10000
def good (a b:Int):Bool:=bB a b && (ay a b != 0)
theorem ah {a b:Int} (h:bB a b=true):-1000≤a∧a≤1000∧-10000≤b∧b≤10000:=by
 simp only [bB,Bool.and_eq_true,np] at h
 omega
theorem bE {a b:Int} (h:good a b=true):bB a b=true:=by
 simp only [good,Bool.and_eq_true] at h
 exact h.1
def upto (lo:Int) (k:Nat):List Int:=(List.range k).map fun i:Nat=>lo+(i:Int)
theorem pa (lo:Int) (k:Nat):upto lo (k+1)=upto lo k ++ [lo+(k:Int)]:=by
 simp [upto,List.range_succ]
def sel (p:Int→Bool) (lo:Int) (k:Nat):List Int:=(upto lo k).filter p
theorem tr {p:Int→Bool} {lo:Int} {k:Nat} (h:p (lo+k)=false):sel p lo (k+1)=sel p lo k:=by
 simp [sel,pa,h]
theorem qy {a p:Int} (hp:1≤p):0≤a % p∧a % p<p:=⟨Int.emod_nonneg _ (by omega),Int.emod_lt_of_pos _ (by omega)⟩
def rhs (a b p x:Int):Int:=val a b x % p
def gcd (a b:Int):Int:=Int.gcd a b
theorem io (a b:Int):Int.gcd b (a.tmod b)=Int.gcd a b:=by
 rw [Int.gcd_comm a b]
 simp only [Int.gcd,Int.natAbs_tmod]
 exact (Nat.gcd_rec b.natAbs a.natAbs ▸ Nat.gcd_comm _ _)
end M
namespace Wh
def val:List Int→Int
 | []=>0
 | x :: l=>x+10000*val l
def dig (n:Nat):List Int:=if h:n=0 then [] else ((n % 10000:Nat):Int) :: dig (n / 10000)
termination_by n
decreasing_by exact Nat.div_lt_self (Nat.pos_of_ne_zero h) (by decide)
def lim (x:Int):Prop:=0≤x∧x<10000
def bG (l:List Int):Prop:=∀ x ∈ l,lim x
theorem cS:dig 0=[]:=by rw [dig];rfl
theorem fP {n:Nat} (h:n≠0):dig n=((n % 10000:Nat):Int) :: dig (n / 10000):=by rw [dig,dif_neg h]
theorem bI (n:Nat):val (dig n)=n:=by
 induction n using Nat.strongRecOn with
 | ind n ih=>
 by_cases h:n=0
 ·subst h;rw [cS];rfl
 rw [fP h]
 show ((n % 10000:Nat):Int)+10000*val (dig (n / 10000))=n
 rw [ih _ (Nat.div_lt_self (Nat.pos_of_ne_zero h) (by decide))]
 omega
theorem ai (n:Nat):bG (dig n):=by
 induction n using Nat.strongRecOn with
 | ind n ih=>
 by_cases h:n=0
 ·subst h;rw [cS];intro x hx;cases hx
 rw [fP h]
 intro x hx
 rcases List.mem_cons.1 hx with rfl | hx
 ·unfold lim;omega
 exact ih _ (Nat.div_lt_self (Nat.pos_of_ne_zero h) (by decide)) x hx
theorem fO {n:Nat}:dig n=[] ↔ n=0:=by
 constructor
 ·intro h
  by_cases h0:n=0
  ·exact h0
  rw [fP h0] at h;cases h
 rintro rfl;exact cS
theorem kz {x v:Nat} (hx:x<10000) (h:x≠0∨v≠0):dig (x+10000*v)=(x:Int) :: dig v:=by
 rw [fP (by omega),show (x+10000*v) % 10000=x by omega,show (x+10000*v) / 10000=v by omega]
def trim:List Int→List Int
 | []=>[]
 | x :: l=>match trim l with
  | []=>if x=0 then [] else [x]
  | y :: t=>x :: y :: t
theorem cc:∀ {l:List Int},bG l→0≤val l
 | [],_=>Int.le_refl _
 | x :: l,h=>by
  have h1:=cc (l:=l) fun y hy=>h y (List.mem_cons_of_mem _ hy)
  have h2:=(h x List.mem_cons_self).1
  show 0≤x+10000*val l
  omega
theorem iM:∀ {l:List Int},bG l→trim l=dig (val l).toNat
 | [],_=>by show []=dig (0:Int).toNat;rw [show (0:Int).toNat=0 from rfl,cS]
 | x :: l,h=>by
  have hl:bG l:=fun y hy=>h y (List.mem_cons_of_mem _ hy)
  have ih:=iM hl
  have hx:=h x List.mem_cons_self
  have hv:=cc hl
  obtain ⟨v,hv'⟩:∃ v:Nat,val l=v:=⟨(val l).toNat,by omega⟩
  obtain ⟨y,rfl⟩:∃ y:Nat,x=y:=⟨x.toNat,by have:=hx.1;omega⟩
  rw [hv',Int.toNat_natCast] at ih
  have hy:y<10000:=by have:=hx.2;omega
  show (match trim l with
   | []=>if (y:Int)=0 then [] else [(y:Int)]
   | z :: t=>(y:Int) :: z :: t)=dig ((y:Int)+10000*val l).toNat
  rw [ih,hv',show ((y:Int)+10000*(v:Int)).toNat=y+10000*v by omega]
  by_cases h0:v=0
  ·subst h0
   rw [cS]
   by_cases hy0:y=0
   ·subst hy0
    rw [Nat.mul_zero,cS]
    rfl
   rw [kz hy (Or.inl hy0),cS,if_neg (by omega)]
  rw [kz hy (Or.inr h0),fP h0]
theorem gj:∀ l:List Int,trim (l ++ [0])=trim l
 | []=>rfl
 | x :: l=>by
  show (match trim (l ++ [0]) with
   | []=>if x=0 then [] else [x]
   | z :: t=>x :: z :: t)=_
  rw [gj l]
  rfl
theorem jr:∀ (l:List Int) {x:Int},x≠0→trim (l ++ [x])=l ++ [x]
 | [],x,h=>by show (if x=0 then [] else [x])=_;rw [if_neg h];rfl
 | y :: l,x,h=>by
  show (match trim (l ++ [x]) with
   | []=>if y=0 then [] else [y]
   | z :: t=>y :: z :: t)=_
  rw [jr l h]
  cases l <;> rfl
theorem qI (n:Nat):trim (dig n)=dig n:=by rw [iM (ai n),bI,Int.toNat_natCast]
theorem ej:∀ a b:List Int,val (a ++ b)=val a+10000 ^ a.length*val b
 | [],b=>by show val b=0+10000 ^ 0*val b;rw [Int.pow_zero];omega
 | x :: a,b=>by
  show x+10000*val (a ++ b)=x+10000*val a+10000 ^ (a.length+1)*val b
  rw [ej a b,Int.pow_succ]
  grind
theorem pow_pos (n:Nat):(0:Int)<10000 ^ n:=Int.pow_pos (by decide)
theorem eB:∀ {l:List Int},bG l→val l<10000 ^ l.length
 | [],_=>by show (0:Int)<10000 ^ 0;rw [Int.pow_zero];decide
 | x :: l,h=>by
  have h1:=eB (l:=l) fun y hy=>h y (List.mem_cons_of_mem _ hy)
  have h2:=(h x List.mem_cons_self).2
  show x+10000*val l<10000 ^ (l.length+1)
  rw [Int.pow_succ]
  omega
theorem cO {a b:List Int} (h:bG a) (h':bG b):bG (a ++ b):=fun x hx=>by
 rcases List.mem_append.1 hx with q | q
 ·exact h x q
 exact h' x q
theorem eM {a:List Int} (h:bG a) (k:Nat):bG (a.take k):=fun x hx=>h x (List.mem_of_mem_take hx)
theorem gU {a:List Int} (h:bG a) (k:Nat):bG (a.drop k):=fun x hx=>h x (List.mem_of_mem_drop hx)
theorem cF {l:List Int} {k:Nat} {x:Int} (hx:l[k]?=some x):val (l.take (k+1))=val (l.take k)+10000 ^ k*x:=by
 have hk:=(List.getElem?_eq_some_iff.1 hx).1
 rw [List.take_add_one,hx,ej,List.length_take,Nat.min_eq_left (Nat.le_of_lt hk)]
 show _+_*(x+10000*0)=_
 grind
theorem jO {l:List Int} {k:Nat} {x:Int} (hx:l[k]?=some x):val (l.drop k)=x+10000*val (l.drop (k+1)):=by
 obtain ⟨h1,rfl⟩:=List.getElem?_eq_some_iff.1 hx
 rw [List.drop_eq_getElem_cons h1]
 rfl
theorem dE {n k:Nat} (h:n<10000 ^ k):(dig n).length≤k:=by
 induction k generalizing n with
 | zero=>rw [Nat.pow_zero] at h;rw [show n=0 by omega,cS];exact ul _
 | succ k ih=>
 by_cases h0:n=0
 ·subst h0;rw [cS];exact Nat.zero_le _
 rw [fP h0,List.length_cons]
 have:n / 10000<10000 ^ k:=by
  rw [Nat.pow_succ] at h
  exact Nat.div_lt_of_lt_mul (by rwa [Nat.mul_comm])
 have:=ih this
 omega
def nth (l:List Int) (i:Nat):Int:=(l[i]?).getD 0
theorem cX {l:List Int} {i:Nat} {x:Int} (h:l[i]?=some x):nth l i=x:=by unfold nth;rw [h];rfl
theorem cW {l:List Int} {i:Nat} (h:l.length≤i):nth l i=0:=by unfold nth;rw [List.getElem?_eq_none h];rfl
theorem br (l:List Int) (k:Nat):val (l.take (k+1))=val (l.take k)+10000 ^ k*nth l k:=by
 by_cases h:k<l.length
 ·have hx:l[k]?=some l[k]:=List.getElem?_eq_getElem h
  rw [cF hx,cX hx]
 rw [cW (by omega),List.take_of_length_le (by omega),List.take_of_length_le (by omega)]
 grind
theorem iJ {l:List Int} (h:bG l) (i:Nat):lim (nth l i):=by
 unfold nth
 cases hx:l[i]? with
 | none=>exact ⟨Int.le_refl _,by decide⟩
 | some x=>exact h x (List.mem_of_getElem? hx)
end Wh
namespace Wh
structure eQ (a b:List Int) (s:Int) (i:Nat) (o:List Int) (c:Int):Prop where
 eq:val o+10000 ^ i*c=val (a.take i)+s*val (b.take i)
 len:o.length=i
 ls:bG o
 c1:s=1→0≤c∧c≤1
 c2:s=-1→-1≤c∧c≤0
theorem eQ.start (a b:List Int) (s:Int):eQ a b s 0 [] 0 where
 eq:=by simp [val]
 len:=rfl
 ls:=fun x hx=>by cases hx
 c1:=fun _=>by omega
 c2:=fun _=>by omega
theorem mM (o:List Int) (x:Int):val (o ++ [x])=val o+10000 ^ o.length*x:=by
 rw [ej]
 show _+_*(x+10000*0)=_
 grind
theorem eQ.step {a b o:List Int} {s c:Int} {i:Nat} (h:eQ a b s i o c) {x c':Int} (hx:lim x) (he:x+10000*c'=nth a i+s*nth b i+c) (h1:s=1→0≤c'∧c'≤1) (h2:s=-1→-1≤c'∧c'≤0):eQ a b s (i+1) (o ++ [x]) c' where
 eq:=by
  rw [mM,h.len,br,br,Int.pow_succ]
  have:=h.eq
  grind
 len:=by rw [List.length_append,h.len];rfl
 ls:=cO h.ls fun y hy=>by rw [List.mem_singleton] at hy;subst hy;exact hx
 c1:=h1
 c2:=h2
theorem eQ.rng {a b o:List Int} {s c:Int} {i:Nat} (h:eQ a b s i o c) (hs:s=1∨s=-1) (ha:bG a) (hb:bG b):-10000≤nth a i+s*nth b i+c∧nth a i+s*nth b i+c≤19999∧(s=1→0≤nth a i+s*nth b i+c)∧(s=-1→nth a i+s*nth b i+c≤9999)∧-1≤c∧c≤1:=by
 have h1:=iJ ha i
 have h2:=iJ hb i
 unfold lim at h1 h2
 rcases hs with rfl | rfl
 ·have:=h.c1 rfl
  refine ⟨?_,?_,fun _=>?_,fun h=>absurd h (by decide),?_,?_⟩ <;> omega
 have:=h.c2 rfl
 refine ⟨?_,?_,fun h=>absurd h (by decide),fun _=>?_,?_,?_⟩ <;> omega
theorem eQ.all {a b o:List Int} {s c:Int} {i:Nat} (h:eQ a b s i o c) (ha:a.length≤i) (hb:b.length≤i):val o+10000 ^ i*c=val a+s*val b:=by
 have:=h.eq
 rwa [List.take_of_length_le ha,List.take_of_length_le hb] at this
theorem eQ.fin {a b o:List Int} {s c:Int} {i:Nat} (h:eQ a b s i o c) (hs:s=1∨s=-1) (ha:a.length≤i) (hb:b.length≤i) (h0:0≤val a+s*val b) (h1:val a+s*val b<10000 ^ i):c=0∧val o=val a+s*val b:=by
 have e:=h.all ha hb
 have o1:=cc h.ls
 have o2:=eB h.ls
 rw [h.len] at o2
 have hp:=pow_pos i
 have hc:-1≤c∧c≤1:=by
  rcases hs with rfl | rfl
  ·have:=h.c1 rfl;omega
  have:=h.c2 rfl;omega
 have:c=0:=by
  have hc':c=-1∨c=0∨c=1:=by omega
  rcases hc' with rfl | rfl | rfl
  ·rw [show (10000:Int) ^ i*-1=-(10000 ^ i) by grind] at e;omega
  ·rfl
  rw [Int.mul_one] at e;omega
 subst this
 refine ⟨rfl,?_⟩
 rw [Int.mul_zero] at e
 omega
theorem eQ.carry {a b o:List Int} {s c:Int} {i:Nat} (h:eQ a b s i o c) (hs:s=1∨s=-1) (ha:a.length≤i) (hb:b.length≤i) (h0:0≤val a+s*val b) (hc:c≠0):c=1:=by
 have e:=h.all ha hb
 have o2:=eB h.ls
 rw [h.len] at o2
 have hc':c=-1∨c=1:=by
  rcases hs with rfl | rfl
  ·have:=h.c1 rfl;omega
  have:=h.c2 rfl;omega
 rcases hc' with rfl | rfl
 ·rw [show (10000:Int) ^ i*-1=-(10000 ^ i) by grind] at e;omega
 rfl
theorem gY {m n:Nat} (h:m≤n):(10000:Int) ^ m≤10000 ^ n:=by
 obtain ⟨k,rfl⟩:=Nat.le.dest h
 rw [Int.pow_add]
 have h1:=pow_pos m
 have h2:=pow_pos k
 have:=Int.mul_le_mul_of_nonneg_left (show (1:Int)≤10000 ^ k by omega) (Int.le_of_lt h1)
 omega
theorem sum_lt {a b:List Int} {s:Int} (hs:s=1∨s=-1) (ha:bG a) (hb:bG b) {n:Nat} (h1:a.length≤n) (h2:b.length≤n):val a+s*val b<10000 ^ (n+1):=by
 have a2:=eB ha
 have b1:=cc hb
 have b2:=eB hb
 have p1:=gY h1
 have p2:=gY h2
 have p:=pow_pos n
 rw [Int.pow_succ]
 rcases hs with rfl | rfl <;> omega
structure MInv (o0 o:List Int) (x:Int) (b:List Int) (i k:Nat) (c:Int):Prop where
 len:o.length=o0.length
 eq:val (o.take k)+10000 ^ k*c=val (o0.take k)+10000 ^ i*(x*val (b.take (k - i)))
 rest:o.drop k=o0.drop k
 ls:bG (o.take k)
 c0:0≤c∧c≤9999
theorem MInv.start {o0:List Int} (h:bG o0) (x:Int) (b:List Int) (i:Nat):MInv o0 o0 x b i i 0 where
 len:=rfl
 eq:=by rw [Nat.sub_self];simp [val]
 rest:=rfl
 ls:=eM h i
 c0:=by omega
theorem kH {x y:Int} (hx:lim x) (hy:lim y):0≤x*y∧x*y≤99980001:=by
 have h1:=Int.mul_nonneg hx.1 hy.1
 have h2:x*y≤9999*y:=Int.mul_le_mul_of_nonneg_right (by have:=hx.2;omega) hy.1
 have:=hy.2
 omega
theorem MInv.step {o0 o b:List Int} {x c t:Int} {i k:Nat} (h:MInv o0 o x b i k c) (ho:bG o0) (hx:lim x) (hb:bG b) (hik:i≤k) (ht:o0[k]?=some t) {y:Int} (hy:y=t+c+x*nth b (k - i)):(0≤y∧y≤99999999)∧MInv o0 (o.set k (y % 10000)) x b i (k+1) (y / 10000):=by
 have hk:=(List.getElem?_eq_some_iff.1 ht).1
 have htl:lim t:=ho t (List.mem_of_getElem? ht)
 have hm:=kH hx (iJ hb (k - i))
 have hc:=h.c0
 unfold lim at htl
 have hyr:0≤y∧y≤99999999:=by omega
 have htk:(o.set k (y % 10000)).take k=o.take k:=by
  rw [List.take_set,List.set_eq_of_length_le (by rw [List.length_take];omega)]
 have hsk:(o.set k (y % 10000))[k]?=some (y % 10000):=by
  rw [List.getElem?_set_self (by rw [h.len];exact hk)]
 refine ⟨hyr,⟨by rw [List.length_set,h.len],?_,?_,?_,by omega⟩⟩
 ·rw [cF hsk,htk,cF ht,show k+1 - i=(k - i)+1 by omega,br,Int.pow_succ]
  have e:=h.eq
  have hp:(10000:Int) ^ i*10000 ^ (k - i)=10000 ^ k:=by rw [←Int.pow_add,show i+(k - i)=k by omega]
  have hd:10000*(y / 10000)+y % 10000=y:=Int.mul_ediv_add_emod y 10000
  subst hy
  rw [←hp] at e ⊢
  generalize (10000:Int) ^ i=P at *
  generalize (10000:Int) ^ (k - i)=Q at *
  generalize (t+c+x*nth b (k - i)) / 10000=q at *
  generalize (t+c+x*nth b (k - i)) % 10000=r at *
  generalize val (o.take k)=v1 at *
  generalize val (o0.take k)=v2 at *
  generalize val (b.take (k - i))=v3 at *
  generalize nth b (k - i)=n3 at *
  grind
 ·rw [List.drop_set_of_lt (Nat.lt_succ_self k)]
  have:=congrArg (List.drop 1) h.rest
  rwa [List.drop_drop,List.drop_drop] at this
 rw [List.take_add_one,hsk,htk]
 refine cO h.ls fun z hz=>?_
 simp only [Option.toList_some,List.mem_singleton] at hz
 subst hz
 unfold lim
 omega
theorem MInv.bG {o0 o b:List Int} {x c:Int} {i k:Nat} (h:MInv o0 o x b i k c) (ho:bG o0):bG o:=by
 rw [←List.take_append_drop k o,h.rest]
 exact cO h.ls (gU ho k)
theorem MInv.fin {o0 o b:List Int} {x c:Int} {i n:Nat} (h:MInv o0 o x b i n c) (hn:o0.length=n) (hb:b.length+i≤n) {v:Int} (hv:val o0+10000 ^ i*(x*val b)=v) (hlt:v<10000 ^ n) (ho:Wh.bG o0):val o=v:=by
 have e:=h.eq
 have l1:=h.len
 rw [List.take_of_length_le (by omega),List.take_of_length_le (by omega),List.take_of_length_le (by omega),hv] at e
 have o1:=cc (h.bG ho)
 have hp:=pow_pos n
 have hc:=h.c0
 by_cases h0:c=0
 ·subst h0;rw [Int.mul_zero] at e;omega
 have:=Int.mul_le_mul_of_nonneg_left (show 1≤c by omega) (Int.le_of_lt hp)
 omega
theorem q9 {a b:List Int} {i:Nat} {x o:Int} (hx:a[i]?=some x) (ho:o=val (a.take i)*val b):o+10000 ^ i*(x*val b)=val (a.take (i+1))*val b:=by
 rw [cF hx,ho]
 grind
theorem nz {a b:List Int} (ha:bG a) (hb:bG b) {n:Nat} (h:a.length+b.length≤n):val a*val b<10000 ^ n:=by
 have a1:=cc ha
 have a2:=eB ha
 have b1:=cc hb
 have b2:=eB hb
 have p:=gY h
 rw [Int.pow_add] at p
 have h1:val a*val b≤val a*10000 ^ b.length:=Int.mul_le_mul_of_nonneg_left (Int.le_of_lt b2) a1
 have h2:val a*10000 ^ b.length<10000 ^ a.length*10000 ^ b.length:=Int.mul_lt_mul_of_pos_right a2 (pow_pos _)
 omega
structure iP (a q:List Int) (n:Int) (i:Nat) (r:Int):Prop where
 len:q.length=a.length
 eq:val (a.drop i)=n*val (q.drop i)+r
 r0:0≤r∧r<n
 ls:bG (q.drop i)
theorem iP.start {a q:List Int} {n:Int} (hn:0<n) (hl:q.length=a.length):iP a q n a.length 0 where
 len:=hl
 eq:=by rw [List.drop_length,←hl,List.drop_length];simp [val]
 r0:=by omega
 ls:=by rw [←hl,List.drop_length];intro x hx;cases hx
theorem iP.step {a q:List Int} {n r x:Int} {i:Nat} (h:iP a q n (i+1) r) (ha:bG a) (hx:a[i]?=some x) (hn:n≤1000000000000):(0≤r*10000+x∧r*10000+x≤10000000000000000)∧iP a (q.set i ((r*10000+x) / n)) n i ((r*10000+x) % n):=by
 have hi:=(List.getElem?_eq_some_iff.1 hx).1
 have hxl:lim x:=ha x (List.mem_of_getElem? hx)
 unfold lim at hxl
 have hr:=h.r0
 have hq:(q.set i ((r*10000+x) / n))[i]?=some ((r*10000+x) / n):=List.getElem?_set_self (by rw [h.len];exact hi)
 have hd:(q.set i ((r*10000+x) / n)).drop (i+1)=q.drop (i+1):=List.drop_set_of_lt (Nat.lt_succ_self i)
 have hn0:0<n:=by omega
 have hq0:0≤(r*10000+x) / n:=Int.ediv_nonneg (by omega) (by omega)
 have hq1:(r*10000+x) / n<10000:=Int.ediv_lt_of_lt_mul hn0 (by omega)
 refine ⟨by omega,⟨by rw [List.length_set,h.len],?_,⟨Int.emod_nonneg _ (by omega),Int.emod_lt_of_pos _ hn0⟩,?_⟩⟩
 ·rw [jO hx,jO hq,hd,h.eq]
  have:=Int.mul_ediv_add_emod (r*10000+x) n
  generalize (r*10000+x) / n=y at *
  generalize (r*10000+x) % n=z at *
  grind
 rw [List.drop_eq_getElem_cons (by rw [List.length_set,h.len];exact hi),hd]
 intro y hy
 rcases List.mem_cons.1 hy with rfl | hy
 ·rw [List.getElem_set_self];exact ⟨hq0,hq1⟩
 exact h.ls y hy
theorem iP.fin {a q:List Int} {n r:Int} (h:iP a q n 0 r):val q=val a / n∧r=val a % n∧bG q:=by
 have e:=h.eq
 rw [List.drop_zero,List.drop_zero] at e
 have hr:=h.r0
 have hl:=h.ls
 rw [List.drop_zero] at hl
 refine ⟨?_,?_,hl⟩
 ·rw [e,Int.add_comm,Int.add_mul_ediv_left _ _ (by omega),Int.ediv_eq_zero_of_lt hr.1 hr.2,Int.zero_add]
 rw [e,Int.add_comm,Int.add_mul_emod_self_left,Int.emod_eq_of_lt hr.1 hr.2]
end Wh
namespace Wh
def sg3 (x y:Int):Int:=if x<y then -1 else if y<x then 1 else 0
theorem fG {x y:Int} (h:x<y):sg3 x y=-1:=if_pos h
theorem kV {x y:Int} (h:y<x):sg3 x y=1:=by unfold sg3;rw [if_neg (by omega),if_pos h]
theorem tt (x:Int):sg3 x x=0:=by unfold sg3;rw [if_neg (by omega),if_neg (by omega)]
theorem mN {a:List Int} (ha:bG a) (i:Nat):val (a.take i)<10000 ^ i:=by
 have h1:=eB (eM ha i)
 have h2:=gY (m:=(a.take i).length) (n:=i) (by rw [List.length_take];omega)
 omega
theorem nH {a b:List Int} (ha:bG a) (hb:bG b) {i:Nat} (hlt:nth a i<nth b i):∀ n,i<n→(∀ j,i<j→j<n→nth a j=nth b j)→val (a.take n)<val (b.take n)
 | 0,h,_=>absurd h (Nat.not_lt_zero _)
 | n+1,h,he=>by
  by_cases hn:i=n
  ·subst hn
   have h1:=mN ha i
   have h2:=cc (eM hb i)
   rw [br,br]
   have h3:=Int.mul_le_mul_of_nonneg_left (show nth a i+1≤nth b i by omega) (Int.le_of_lt (pow_pos i))
   rw [Int.mul_add,Int.mul_one] at h3
   omega
  have ih:=nH ha hb hlt n (by omega) fun j h1 h2=>he j h1 (by omega)
  rw [br,br,he n (by omega) (by omega)]
  omega
theorem rY {a b:List Int}:∀ n,(∀ j,j<n→nth a j=nth b j)→val (a.take n)=val (b.take n)
 | 0,_=>by simp [val]
 | n+1,he=>by
  rw [br,br,he n (by omega),rY n fun j h=>he j (by omega)]
theorem eO {a:List Int} {n:Nat} (h:a.length≤n):a.take n=a:=List.take_of_length_le h
theorem qE {a b:List Int} (ha:bG a) (hb:bG b) {i n:Nat} (h1:a.length≤n) (h2:b.length≤n) (hi:i<n) (he:∀ j,i<j→j<n→nth a j=nth b j) (hlt:nth a i<nth b i):sg3 (val a) (val b)=-1:=by
 have:=nH ha hb hlt n hi he
 rw [eO h1,eO h2] at this
 exact fG this
theorem qD {a b:List Int} (ha:bG a) (hb:bG b) {i n:Nat} (h1:a.length≤n) (h2:b.length≤n) (hi:i<n) (he:∀ j,i<j→j<n→nth a j=nth b j) (hlt:nth b i<nth a i):sg3 (val a) (val b)=1:=by
 have:=nH hb ha hlt n hi fun j h1 h2=>(he j h1 h2).symm
 rw [eO h1,eO h2] at this
 exact kV this
theorem cmp_eq {a b:List Int} {n:Nat} (h1:a.length≤n) (h2:b.length≤n) (he:∀ j,j<n→nth a j=nth b j):sg3 (val a) (val b)=0:=by
 have:=rY n he
 rw [eO h1,eO h2] at this
 rw [this,tt]
theorem dc {m n:Nat} (h:m≤n):(dig m).length≤(dig n).length:=by
 refine dE ?_
 have h1:=eB (ai n)
 rw [bI] at h1
 have h2:((10000 ^ (dig n).length:Nat):Int)=(10000:Int) ^ (dig n).length:=Int.natCast_pow 10000 _
 generalize (10000:Int) ^ (dig n).length=P at *
 generalize 10000 ^ (dig n).length=Q at *
 omega
theorem ie {m n:Nat} (h:(dig m).length<(dig n).length):m<n:=by
 by_cases h':n≤m
 ·have:=dc h';omega
 omega
def sgn (neg:Bool) (n:Int):Int:=if neg then -n else n
theorem oJ {neg:Bool} {n:Int} (h:0≤n):decide (sgn neg n<0)=(neg && decide (n≠0)):=by
 cases neg
 ·simp [sgn];omega
 simp only [sgn,if_true,Bool.true_and,decide_eq_decide];omega
theorem kW {neg:Bool} {n:Int} (h:0≤n):(sgn neg n).natAbs=n.toNat:=by
 cases neg
 ·simp only [sgn,Bool.false_eq_true,if_false];omega
 simp only [sgn,if_true];omega
theorem mE (z:Int):sgn (decide (z<0)) z.natAbs=z:=by
 unfold sgn
 by_cases h:z<0
 ·rw [if_pos (decide_eq_true h)];omega
 rw [if_neg (by simp [h])];omega
end Wh
end
section
open Go.RowKit
theorem jH {a b:Int} (h:a=b):Ending.returned (.int .i64 a)=.returned (.int .i64 b):=by rw [h]
theorem cy {a b:Bool} (h:a=b):Ending.returned (.bool a)=.returned (.bool b):=by rw [h]
theorem dQ (n lo hi:Int) (w:World) :
  Calls Tryz.prog 19 #[.int .i64 n,.int .i64 lo,.int .i64 hi] w fun e w'=>e=.returned (.bool (M.ins n lo hi))∧w=w':=by
 unfold M.ins
 by_cases h1:lo≤n <;> by_cases h2:n≤hi <;>
 (go_enter Tryz.func19,Tryz.ntmps19
  go_wp2
  go_ret;exact ⟨by simp [h1,h2],rfl⟩)
theorem cr (n lo hi:Int) (w:World) :
  Calls Tryz.prog 36 #[.int .i64 n,.int .i64 lo,.int .i64 hi] w fun e w'=>e=.returned (.bool (M.ins n lo hi))∧w=w':=by
 unfold M.ins
 by_cases h1:lo≤n <;> by_cases h2:n≤hi <;>
 (go_enter Tryz.func36,Tryz.ntmps36
  go_wp2
  go_ret;exact ⟨by simp [h1,h2],rfl⟩)
theorem qS (n:Int) (w:World) (h1:0≤n) (h2:n≤4000000000000000000) :
  Calls Tryz.prog 50 #[.int .i64 n] w fun e w'=>e=.returned (.int .i64 (M.root n))∧w=w':=by
 go_enter Tryz.func50,Tryz.ntmps50
 go_wp2
 go_loop [3,4] (fun l h=>∃ a b:Int,0≤a∧a<b∧b≤2000000001∧l=.int .i64 a∧h=.int .i64 b∧a*a≤n∧n<b*b) (fun l h=>(intOf h - intOf l).toNat)
 case atStart=>exact ⟨0,2000000001,by omega,by omega,by omega,rfl,rfl,by simp;omega,by simp;omega⟩
 case round=>
 obtain ⟨a,b,ha,hab,hb,rfl,rfl,ha2,hb2⟩:=hrel
 by_cases c1:1<b - a
 ·have hm1:a<(a+b) / 2:=by omega
  have hm2:(a+b) / 2<b:=by omega
  have hbm:=M.kI (x:=(a+b) / 2) (y:=(a+b) / 2) (m:=2000000001) (n:=2000000001) (by omega) (by omega) (by omega) (by omega)
  by_cases c2:(a+b) / 2*((a+b) / 2)≤n
  ·go_wp2
   go_round
   case rel=>exact ⟨(a+b) / 2,b,by omega,by omega,by omega,rfl,rfl,c2,hb2⟩
   case measure=>simp [intOf];omega
  go_wp2
  go_round
  case rel=>exact ⟨a,(a+b) / 2,by omega,by omega,by omega,rfl,rfl,ha2,by omega⟩
  case measure=>simp [intOf];omega
 go_wp2
 go_ret;exact ⟨jH (M.iK ⟨by omega,ha2,by rw [show (a:Int)+1=b from by omega];exact hb2⟩),rfl⟩
theorem ik (a b:Int) (w:World) (h1:-9000000000000000000≤a) (h2:a≤9000000000000000000) (h3:-9000000000000000000≤b) (h4:b≤9000000000000000000) :
  Calls Tryz.prog 57 #[.int .i64 a,.int .i64 b] w fun e w'=>e=.returned (.int .i64 (M.gcd a b))∧∃ m,w'=w.drewN m:=by
 go_enter Tryz.func57,Tryz.ntmps57
 go_wp2
 go_loopw [0,1] (fun va vb wr=>∃ x y:Int,va=.int .i64 x∧vb=.int .i64 y∧-9000000000000000000≤x∧x≤9000000000000000000∧-9000000000000000000≤y∧y≤9000000000000000000∧M.gcd x y=M.gcd a b∧∃ m,wr=w.drewN m) (fun _ vb _=>(intOf vb).natAbs)
 case atStart=>exact ⟨a,b,rfl,rfl,h1,h2,h3,h4,rfl,0,rfl⟩
 case round=>
 obtain ⟨x,y,rfl,rfl,x1,x2,y1,y2,hg,m,rfl⟩:=hrel
 have Hg:=uh hg
 clear hg
 by_cases hy:y=0
 ·subst hy
  by_cases hx:0≤x
  ·go_wp2
   all_goals (go_ret;exact ⟨jH (by rw [←Hg.out];simp only [M.gcd,Int.gcd_zero_right];omega),_,rfl⟩)
  go_wp2
  all_goals (go_ret;exact ⟨jH (by rw [←Hg.out];simp only [M.gcd,Int.gcd_zero_right];omega),_,rfl⟩)
 have ht:=Int.natAbs_tmod x y
 have hm:x.natAbs % y.natAbs<y.natAbs:=Nat.mod_lt _ (by omega)
 have ht:=uh (show (x.tmod y).natAbs<y.natAbs by omega)
 have ht1:-9000000000000000000≤x.tmod y:=by omega
 have ht2:x.tmod y≤9000000000000000000:=by omega
 by_cases hp:0≤x∧1≤y
 ·obtain ⟨p1,p2⟩:=hp
  have e1:=uh (Int.tmod_eq_emod_of_nonneg (b:=y) p1)
  have hb:=M.qy (a:=x) p2
  go_wp2
  go_quiet (fail)
  go_wp2
  go_roundw
  case rel=>exact ⟨y,x % y,rfl,rfl,y1,y2,by omega,by omega,by rw [←Hg.out,←e1.out];unfold M.gcd;rw [M.io],_,World.drewN_drewN _ _ _⟩
  case measure=>simp [intOf];omega
 go_wp2
 go_quiet (fail)
 go_wp2
 go_roundw
 case rel=>exact ⟨y,x.tmod y,rfl,rfl,y1,y2,ht1,ht2,by rw [←Hg.out];unfold M.gcd;rw [M.io],_,World.drewN_drewN _ _ _⟩
 case measure=>have:=ht.out;simp [intOf];omega
theorem dD (a b:Int) (w:World) (h1:0≤a) (h2:a≤9000000000000000000) (h3:0≤b) (h4:b≤9000000000000000000) :
  Calls Tryz.prog 45 #[.int .i64 a,.int .i64 b] w fun e w'=>e=.returned (.int .i64 (M.gcd a b))∧w=w':=by
 go_enter Tryz.func45,Tryz.ntmps45
 go_wp2
 go_loop [0,1] (fun va vb=>∃ x y:Int,va=.int .i64 x∧vb=.int .i64 y∧0≤x∧x≤9000000000000000000∧0≤y∧y≤9000000000000000000∧M.gcd x y=M.gcd a b) (fun _ vb=>(intOf vb).toNat)
 case atStart=>exact ⟨a,b,rfl,rfl,h1,h2,h3,h4,rfl⟩
 case round=>
 obtain ⟨x,y,rfl,rfl,x1,x2,y1,y2,hg⟩:=hrel
 have Hg:=uh hg
 clear hg
 by_cases hy:0<y
 ·have hb:=M.qy (a:=x) (p:=y) (by omega)
  have e1:=uh (Int.tmod_eq_emod_of_nonneg (b:=y) x1)
  go_wp2
  go_round
  case rel=>exact ⟨y,x % y,rfl,rfl,y1,y2,by omega,by omega,by rw [←Hg.out,←e1.out];unfold M.gcd;rw [M.io]⟩
  case measure=>simp [intOf];omega
 obtain rfl:y=0:=by omega
 go_wp2
 go_ret;exact ⟨jH (by rw [←Hg.out];simp only [M.gcd,Int.gcd_zero_right];omega),rfl⟩
theorem du (a b:Int) (w:World) :
  Calls Tryz.prog 65 #[.int .i64 a,.int .i64 b] w fun e w'=>e=.returned (.int .i64 (max a b))∧w=w':=by
 by_cases h:b<a
 ·go_enter Tryz.func65,Tryz.ntmps65
  go_wp2
  go_ret;exact ⟨jH (by omega),rfl⟩
 go_enter Tryz.func65,Tryz.ntmps65
 go_wp2
 go_ret;exact ⟨jH (by omega),rfl⟩
theorem dA (a:Int) (w:World) (h1:-9223372036854775807≤a) (h2:a≤9223372036854775807) :
  Calls Tryz.prog 46 #[.int .i64 a] w fun e w'=>e=.returned (.int .i64 (a.natAbs:Int))∧w=w':=by
 go_enter Tryz.func46,Tryz.ntmps46
 go_wp2_with (go_at_call 65;refine (du _ _ _).mono ?_;rintro e w' ⟨rfl,rfl⟩)
 go_ret;exact ⟨jH (by omega),rfl⟩
theorem dO {W w1:World} (hb:Below W.heap.size W w1):(∀ b o,b<W.heap.size→w1.cell? ⟨b,o,none⟩=W.cell? ⟨b,o,none⟩)∧(∀ b o,b<W.heap.size→w1.frozen? ⟨b,o,none⟩=W.frozen? ⟨b,o,none⟩)∧W.heap.size≤w1.heap.size:=
 ⟨fun b o h=>hb.cell (p:=⟨b,o,none⟩) h,fun b o h=>hb.frozen (p:=⟨b,o,none⟩) h,hb.size⟩
theorem aM (w:World):w.drew.heap=w.heap:=rfl
theorem aI (w:World) (a:Addr) (v:Value):(w.setCell a v).heap.size=w.heap.size:=by simp [World.setCell]
theorem aP {w W:World} (h:Below w.heap.size w W) (o:Obj):Below w.heap.size w (W.alloc o):=h.alloc h.size o
theorem aS {w W w':World} (h:Below w.heap.size w W) (hb:Below W.heap.size W w'):Below w.heap.size w w':=h.trans (hb.mono h.size)
theorem aK {w W:World} (h:Below w.heap.size w W) (n:Nat):Below w.heap.size w (W.drewN n):=by
 induction n with
 | zero=>exact h
 | succ n ih=>exact ih.drew
theorem mY (a b:Int) (w:World) (h:M.bB a b=true) :
  Calls Tryz.prog 55 #[.agg #[.int .i64 a,.int .i64 b]] w fun e w'=>e=.returned (.int .i64 (M.ay a b))∧Below w.heap.size w w':=by
 obtain ⟨h1,h1',h2,h2'⟩:=M.ah h
 have b1:=M.aL (x:=4*a) (y:=a) (m:=4000) (n:=1000) (by omega) (by omega) (by omega) (by omega)
 have b2:=M.aL (x:=4*a*a) (y:=a) (m:=4000000) (n:=1000) (by omega) (by omega) (by omega) (by omega)
 have b3:=M.aL (x:=27*b) (y:=b) (m:=270000) (n:=10000) (by omega) (by omega) (by omega) (by omega)
 go_enter Tryz.func55,Tryz.ntmps55
 go_wp2
 go_ret
 exact ⟨rfl,(by repeat (first | exact uk _ _ | refine aP ?_ _ | refine aS ?_ (by assumption) | refine Below.drew ?_ | refine uj ?_ (by first | exact ul _ | exact Nat.le_add_right _ _ | (simp <;> omega)) _ | refine aK ?_ _))⟩
theorem qP (a b:Int) (w:World) (h:M.bB a b=true) :
  Calls Tryz.prog 28 #[.agg #[.int .i64 a,.int .i64 b]] w fun e w'=>e=.returned (.int .i64 (M.ay a b))∧Below w.heap.size w w':=by
 obtain ⟨h1,h1',h2,h2'⟩:=M.ah h
 have b1:=M.aL (x:=4*a) (y:=a) (m:=4000) (n:=1000) (by omega) (by omega) (by omega) (by omega)
 have b2:=M.aL (x:=4*a*a) (y:=a) (m:=4000000) (n:=1000) (by omega) (by omega) (by omega) (by omega)
 have b3:=M.aL (x:=27*b) (y:=b) (m:=270000) (n:=10000) (by omega) (by omega) (by omega) (by omega)
 go_enter Tryz.func28,Tryz.ntmps28
 go_wp2
 go_ret
 exact ⟨rfl,(by repeat (first | exact uk _ _ | refine aP ?_ _ | refine aS ?_ (by assumption) | refine Below.drew ?_ | refine uj ?_ (by first | exact ul _ | exact Nat.le_add_right _ _ | (simp <;> omega)) _ | refine aK ?_ _))⟩
theorem jb (a b:Int) (w:World) :
  Calls Tryz.prog 35 #[.agg #[.int .i64 a,.int .i64 b]] w fun e w'=>e=.returned (.bool (M.good a b))∧Below w.heap.size w w':=by
 cases h1:M.ins a (-1000) 1000
 ·go_enter Tryz.func35,Tryz.ntmps35
  go_wp2_with (go_at_call 36;refine (cr _ _ _ _).mono ?_;rintro e w' ⟨rfl,rfl⟩)
  go_ret;exact ⟨cy (by simp [M.good,M.bB,h1]),(by repeat (first | exact uk _ _ | refine aP ?_ _ | refine aS ?_ (by assumption) | refine Below.drew ?_ | refine uj ?_ (by first | exact ul _ | exact Nat.le_add_right _ _ | (simp <;> omega)) _ | refine aK ?_ _))⟩
 cases h2:M.ins b (-10000) 10000
 ·go_enter Tryz.func35,Tryz.ntmps35
  go_wp2_with (go_at_call 36;refine (cr _ _ _ _).mono ?_;rintro e w' ⟨rfl,rfl⟩)
  go_ret;exact ⟨cy (by simp [M.good,M.bB,h2]),(by repeat (first | exact uk _ _ | refine aP ?_ _ | refine aS ?_ (by assumption) | refine Below.drew ?_ | refine uj ?_ (by first | exact ul _ | exact Nat.le_add_right _ _ | (simp <;> omega)) _ | refine aK ?_ _))⟩
 go_enter Tryz.func35,Tryz.ntmps35
 go_wp2_with (first | (go_at_call 36;refine (cr _ _ _ _).mono ?_;rintro e w' ⟨rfl,rfl⟩) | (go_at_call 55;refine (mY _ _ _ (by simp [M.bB,h1,h2])).mono ?_;rintro e w' ⟨rfl,hb⟩;obtain ⟨hc_,hf_,hz_⟩:=dO hb;(try simp only [ui,aM,World.heap_drewN,aI] at hz_)))
 go_ret;exact ⟨cy (by simp [M.good,M.bB,h1,h2]),(by repeat (first | exact uk _ _ | refine aP ?_ _ | refine aS ?_ (by assumption) | refine Below.drew ?_ | refine uj ?_ (by first | exact ul _ | exact Nat.le_add_right _ _ | (simp <;> omega)) _ | refine aK ?_ _))⟩
theorem k8 (a b:Int) (w:World) :
  Calls Tryz.prog 18 #[.agg #[.int .i64 a,.int .i64 b]] w fun e w'=>e=.returned (.bool (M.good a b))∧Below w.heap.size w w':=by
 cases h1:M.ins a (-1000) 1000
 ·go_enter Tryz.func18,Tryz.ntmps18
  go_wp2_with (go_at_call 19;refine (dQ _ _ _ _).mono ?_;rintro e w' ⟨rfl,rfl⟩)
  go_ret;exact ⟨cy (by simp [M.good,M.bB,h1]),(by repeat (first | exact uk _ _ | refine aP ?_ _ | refine aS ?_ (by assumption) | refine Below.drew ?_ | refine uj ?_ (by first | exact ul _ | exact Nat.le_add_right _ _ | (simp <;> omega)) _ | refine aK ?_ _))⟩
 cases h2:M.ins b (-10000) 10000
 ·go_enter Tryz.func18,Tryz.ntmps18
  go_wp2_with (go_at_call 19;refine (dQ _ _ _ _).mono ?_;rintro e w' ⟨rfl,rfl⟩)
  go_ret;exact ⟨cy (by simp [M.good,M.bB,h2]),(by repeat (first | exact uk _ _ | refine aP ?_ _ | refine aS ?_ (by assumption) | refine Below.drew ?_ | refine uj ?_ (by first | exact ul _ | exact Nat.le_add_right _ _ | (simp <;> omega)) _ | refine aK ?_ _))⟩
 go_enter Tryz.func18,Tryz.ntmps18
 go_wp2_with (first | (go_at_call 19;refine (dQ _ _ _ _).mono ?_;rintro e w' ⟨rfl,rfl⟩) | (go_at_call 28;refine (qP _ _ _ (by simp [M.bB,h1,h2])).mono ?_;rintro e w' ⟨rfl,hb⟩;obtain ⟨hc_,hf_,hz_⟩:=dO hb;(try simp only [ui,aM,World.heap_drewN,aI] at hz_)))
 go_ret;exact ⟨cy (by simp [M.good,M.bB,h1,h2]),(by repeat (first | exact uk _ _ | refine aP ?_ _ | refine aS ?_ (by assumption) | refine Below.drew ?_ | refine uj ?_ (by first | exact ul _ | exact Nat.le_add_right _ _ | (simp <;> omega)) _ | refine aK ?_ _))⟩
theorem fy (w:World) (cs:Array Value) (T:TypeId) (j:Nat):(w.alloc (.cells cs T)).cell? ⟨w.heap.size,j,none⟩=cs[j]?:=by
 rw [World.cell?_alloc_at _ _ _ _ rfl]
def cv (a b:Int):Value:=.agg #[.int .i64 a,.int .i64 b]
theorem iG {a b:Int} (h:b≠0):0<M.gcd a b:=by
 unfold M.gcd
 have:0<Int.gcd a b:=Int.gcd_pos_of_ne_zero_right _ h
 omega
def bp (a b:Int):Int:=if b<0 then -a.tdiv (M.gcd a b) else a.tdiv (M.gcd a b)
def bP (a b:Int):Int:=if b<0 then -b.tdiv (M.gcd a b) else b.tdiv (M.gcd a b)
theorem di {a b:Int} (h:b<0):bp a b=-a.tdiv (M.gcd a b):=if_pos h
theorem cg {a b:Int} (h:0≤b):bp a b=a.tdiv (M.gcd a b):=if_neg (by omega)
theorem dh {a b:Int} (h:b<0):bP a b=-b.tdiv (M.gcd a b):=if_pos h
theorem cf {a b:Int} (h:0≤b):bP a b=b.tdiv (M.gcd a b):=if_neg (by omega)
theorem dT {a d m:Int} (h1:-m≤a) (h2:a≤m) (hd:d≠0):-m≤a.tdiv d∧a.tdiv d≤m:=by
 have:(a.tdiv d).natAbs≤a.natAbs:=by rw [Int.natAbs_tdiv];exact Nat.div_le_self _ _
 omega
theorem ma {a b:Int} (h:b≠0):M.gcd a b≤b.natAbs:=by
 unfold M.gcd
 have:=Nat.le_of_dvd (by omega) (Nat.gcd_dvd_right a.natAbs b.natAbs)
 simp only [Int.gcd]
 omega
theorem gA (a b:Int) (w:World) (h1:-4000000000000000000≤a) (h2:a≤4000000000000000000) (h3:-4000000000000000000≤b) (h4:b≤4000000000000000000) (h0:b≠0) :
  Calls Tryz.prog 49 #[.int .i64 a,.int .i64 b] w fun e w'=>e=.returned (.tuple #[.int .i64 (bp a b),.int .i64 (bP a b)])∧Below w.heap.size w w':=by
 have hg:=iG (a:=a) h0
 have hl:=ma (a:=a) h0
 have hgg:M.gcd a.natAbs b.natAbs=M.gcd a b:=by simp [M.gcd,Int.gcd]
 have t1:=dT (d:=M.gcd a b) h1 h2 (by omega)
 have t2:=dT (d:=M.gcd a b) h3 h4 (by omega)
 by_cases hb:b<0
 ·have e1:=uh (di (a:=a) hb)
  have e2:=uh (dh (a:=a) hb)
  go_enter Tryz.func49,Tryz.ntmps49
  go_wp2_with (first | (go_at_call 46;refine (dA _ _ (by omega) (by omega)).mono ?_;rintro e w' ⟨rfl,rfl⟩) | (go_at_call 45;refine (dD _ _ _ (by omega) (by omega) (by omega) (by omega)).mono ?_;rintro e w' ⟨rfl,rfl⟩))
  go_quiet (fail)
  go_wp2
  go_ret2
  exact ⟨by rw [e1.out,e2.out];rfl,(by repeat (first | exact uk _ _ | refine aP ?_ _ | refine aS ?_ (by assumption) | refine Below.drew ?_ | refine uj ?_ (by first | exact ul _ | exact Nat.le_add_right _ _ | (simp <;> omega)) _ | refine aK ?_ _))⟩
 have e1:=uh (cg (a:=a) (b:=b) (by omega))
 have e2:=uh (cf (a:=a) (b:=b) (by omega))
 go_enter Tryz.func49,Tryz.ntmps49
 go_wp2_with (first | (go_at_call 46;refine (dA _ _ (by omega) (by omega)).mono ?_;rintro e w' ⟨rfl,rfl⟩) | (go_at_call 45;refine (dD _ _ _ (by omega) (by omega) (by omega) (by omega)).mono ?_;rintro e w' ⟨rfl,rfl⟩))
 go_quiet (fail)
 go_wp2
 go_ret2
 exact ⟨by rw [e1.out,e2.out];rfl,(by repeat (first | exact uk _ _ | refine aP ?_ _ | refine aS ?_ (by assumption) | refine Below.drew ?_ | refine uj ?_ (by first | exact ul _ | exact Nat.le_add_right _ _ | (simp <;> omega)) _ | refine aK ?_ _))⟩
theorem aE {W w':World} (hb:Below W.heap.size W w') {p:Addr} {v:Value} (h:W.cell? p=some v):w'.cell? p=some v:=
 (hb.cell (World.block_lt_of_cell? W _ h)).trans h
theorem ar {W w':World} (hb:Below W.heap.size W w') {p:Addr} (h:p.block<W.heap.size) (hf:W.frozen? p=false):w'.frozen? p=false:=
 (hb.frozen h).trans hf
theorem iu:(Tryz.prog.info? 3).map (fun i=>(i.zero,i.size,i.bytes))=some (some (.int .i64 0),1,8):=by kernel_rfl
def aF (w:World) (base:Nat) (v:Value) (xs:List Int):Prop:=w.ownsRow base 3 1 v xs.length (xs.map (Value.int .i64))
theorem aF.nil (w:World) (base:Nat):aF w base (.slice none 0 0) []:=World.ownsRow_nil w base _ 1
theorem aF.push {w:World} {base:Nat} {v':Value} {xs:List Int} {n:Nat} {x:Int} {ys:List Int} (hn:n=xs.length) (h:w.ownsRow base 3 1 v' (n+1) (xs.map (Value.int .i64) ++ [.int .i64 x])) (he:ys=xs ++ [x]):aF w base v' ys:=by
 subst hn he
 simpa [aF] using h
theorem aF.below {w w':World} {base:Nat} {v:Value} {xs:List Int} (h:aF w base v xs) (hb:Below w.heap.size w w'):aF w' base v xs:=by
 obtain ⟨h1,h2⟩:=h
 refine ⟨h1,?_⟩
 rcases h2 with h2 | ⟨g,cap,cur,hv,hg,hh,r⟩
 ·exact Or.inl h2
 exact Or.inr ⟨g,cap,cur,hv,hg,by rw [hb.block g (Array.getElem?_eq_some_iff.1 hh).1];exact hh,r⟩
theorem aF.base {w:World} {base base':Nat} {v:Value} {xs:List Int} (h:aF w base v xs) (hb:base'≤base):aF w base' v xs:=by
 obtain ⟨h1,h2⟩:=h
 refine ⟨h1,?_⟩
 rcases h2 with h2 | ⟨g,cap,cur,hv,hg,hh,r⟩
 ·exact Or.inl h2
 exact Or.inr ⟨g,cap,cur,hv,Nat.le_trans hb hg,hh,r⟩
theorem kL (x:Int):∀ u ∈ [Value.int .i64 x],u.oneCell'=true:=by
 intro u hu
 simp only [List.mem_singleton] at hu
 subst hu
 rfl
theorem aF.view {w:World} {base:Nat} {v:Value} {xs:List Int} (h:aF w base v xs):∃ (a:Option Addr) (cap:Nat),v=.slice a xs.length cap∧(xs.length:Int)≤9223372036854775807∧
  ∀ k,k<xs.length→∃ g x,a=some ⟨g,0,none⟩∧base≤g∧Hid (xs[k]?=some x)∧w.cell? ⟨g,k,none⟩=some (.int .i64 x):=by
 obtain ⟨h1,h2⟩:=h
 rcases h2 with ⟨rfl,hn⟩ | ⟨g,cap,cur,rfl,hg,hh,hc,hm,hs,ht⟩
 ·refine ⟨none,0,by rw [hn],by omega,fun k hk=>by omega⟩
 refine ⟨some ⟨g,0,none⟩,cap,rfl,by unfold maxLen at hm;omega,fun k hk=>⟨g,xs[k],rfl,hg,List.getElem?_eq_getElem hk,?_⟩⟩
 rw [cell_of_row w g k cur _ (0,0) hh]
 have e:(xs.map (Value.int .i64))[k]?=some (.int .i64 xs[k]):=by
  rw [List.getElem?_map,List.getElem?_eq_getElem hk]
  rfl
 rw [←ht,List.getElem?_take] at e
 split at e
 ·simpa using e
 cases e
theorem eP {xs:List Int} {k:Nat} {x:Int} (h:xs[k]?=some x):xs.take (k+1)=xs.take k ++ [x]:=by
 obtain ⟨hk,e⟩:=List.getElem?_eq_some_iff.1 h
 rw [List.take_succ_eq_append_getElem hk,e]
theorem cY {ops:Array Oper} {rest:List Oper} {o:Oper} {a:Act} {Q:Exit→Act→World→Prop} {w W:World} (base:Nat) (y:Int) (xs:List Int) (v:Value) (hgd:o.guard=none) (s x:Operand)
  (ho:o.op=.call { callee:=.builtin .append,args:=#[s,x],argTypes:=#[104,104] }) (hs:a.eval s=v) (hx:a.eval x=.slice (some ⟨w.heap.size,0,none⟩) 1 1)
  (hown:aF w base v xs) (hW:Below base W w) (hB:base≤w.heap.size) (hl:xs.length≤10000000000)
  (h:∀ v' w',aF w' base v' (xs ++ [y])→Below base W w'→wpList Tryz.prog ops Q rest (a.put o.dst v') w') :
  wpList Tryz.prog ops Q (o :: rest) a (w.alloc (.cells #[.int .i64 y] 3)):=by
 obtain ⟨i0,hi,hz0,hz1,hz2⟩:=info_parts iu
 refine wpList_append_own _ hgd s x 104 ho base 3 i0 (.int .i64 0) 1 8 Tryz.underlying104 hi hz0 hz1 hz2 rfl (by decide) v xs.length (xs.map (Value.int .i64)) hs (hown.alloc _) ⟨w.heap.size,0,none⟩ 1 1 [.int .i64 y] hx rfl (fun j u hu=>by
  have hadd:(⟨w.heap.size,0,none⟩:Addr).add j=⟨w.heap.size,j,none⟩:=by unfold Addr.add;split <;> simp_all
  rw [hadd,World.cell?_alloc_at _ _ _ _ rfl]
  simpa using hu) (kL _) ?_ ?_ ?_ ?_
 ·unfold maxLen;omega
 ·omega
 ·simp;omega
 intro v' w' h1 h2 _
 exact h v' w' (aF.push rfl h1 rfl) ((hW.alloc hB _).grown h2 (by simp;omega) fun k hk=>(hown.lt k hk).1)
def fw (w:World) (hi:Nat) (v:Value) (xs:List Int):Prop:=
 ∃ (a:Option Addr) (cap:Nat),v=.slice a xs.length cap∧(xs.length:Int)≤9223372036854775807∧
  ∀ k,k<xs.length→∃ g x,a=some ⟨g,0,none⟩∧g<hi∧Hid (xs[k]?=some x)∧w.cell? ⟨g,k,none⟩=some (.int .i64 x)
theorem fw.below {w w':World} {hi:Nat} {v:Value} {xs:List Int} (h:fw w hi v xs) (hb:Below hi w w'):fw w' hi v xs:=by
 obtain ⟨a,cap,h1,h2,h3⟩:=h
 refine ⟨a,cap,h1,h2,fun k hk=>?_⟩
 obtain ⟨g,x,e1,e2,e3,e4⟩:=h3 k hk
 exact ⟨g,x,e1,e2,e3,(hb.cell (p:=⟨g,k,none⟩) e2).trans e4⟩
theorem fw.mono {w:World} {hi hi':Nat} {v:Value} {xs:List Int} (h:fw w hi v xs) (hh:hi≤hi'):fw w hi' v xs:=by
 obtain ⟨a,cap,h1,h2,h3⟩:=h
 refine ⟨a,cap,h1,h2,fun k hk=>?_⟩
 obtain ⟨g,x,e1,e2,e3,e4⟩:=h3 k hk
 exact ⟨g,x,e1,by omega,e3,e4⟩
theorem aF.seen {w:World} {base:Nat} {v:Value} {xs:List Int} (h:aF w base v xs):fw w w.heap.size v xs:=by
 obtain ⟨a,cap,h1,h2,h3⟩:=h.view
 refine ⟨a,cap,h1,h2,fun k hk=>?_⟩
 obtain ⟨g,x,e1,e2,e3,e4⟩:=h3 k hk
 exact ⟨g,x,e1,World.block_lt_of_cell? w _ e4,e3,e4⟩
theorem fw.len {w:World} {hi:Nat} {v:Value} {xs:List Int} (h:fw w hi v xs):(xs.length:Int)≤9223372036854775807:=by
 obtain ⟨a,cap,h1,h2,h3⟩:=h
 exact h2
theorem dV {a b c:World} {r:Option Nat} (h:a.grownBy b r) (k:b.grownBy c r):a.grownBy c r:=
 ⟨k.os.trans h.os,k.tape.trans h.tape,k.output.trans h.output,Nat.le_trans h.size k.size,fun i hi hne=>(k.block i (Nat.lt_of_lt_of_le hi h.size) hne).trans (h.block i hi hne)⟩
theorem gD (a:World) (r:Option Nat):a.grownBy a r:=⟨rfl,rfl,rfl,ul _,fun _ _ _=>rfl⟩
theorem qU {a b:World} {r:Option Nat} (h:a.grownBy b r) (n:Nat):a.grownBy (b.drewN n) r:=⟨h.os,h.tape,h.output,h.size,h.block⟩
theorem cU {a b:World} {r:Option Nat} {base:Nat} (h:a.grownBy b r) (hb:base≤a.heap.size) (hr:∀ k,r=some k→base≤k):Below base a b:=
 ⟨h.os,h.tape,h.output,h.size,fun i hi=>h.block i (by omega) (fun e=>by have:=hr i e.symm;omega)⟩
theorem cK {a b:World} (h:Below a.heap.size a b) (r:Option Nat):a.grownBy b r:=⟨h.os,h.tape,h.output,h.size,fun i hi _=>h.block i hi⟩
theorem aF.set {w:World} {base g cap n j:Nat} {xs:List Int} (hn:n=xs.length) (h:aF w base (.slice (some ⟨g,0,none⟩) n cap) xs) (x:Int) {ys:List Int} (he:ys=xs.set j x) :
  aF (w.setCell ⟨g,j,none⟩ (.int .i64 x)) base (.slice (some ⟨g,0,none⟩) n cap) ys∧w.grownBy (w.setCell ⟨g,j,none⟩ (.int .i64 x)) (some g):=by
 subst he hn
 have:=World.ownsRow.stored (g:=g) (cap:=cap) h j (.int .i64 x)
 refine ⟨?_,this.2⟩
 unfold aF
 rw [List.map_set,List.length_set]
 exact this.1
theorem aF.form {w:World} {base:Nat} {v:Value} {xs:List Int} (h:aF w base v xs) (hn:0<xs.length):∃ g cap,v=.slice (some ⟨g,0,none⟩) xs.length cap∧base≤g∧g<w.heap.size:=by
 rcases h.2 with ⟨rfl,h2⟩ | ⟨g,cap,cur,rfl,hg,hh,-⟩
 ·omega
 exact ⟨g,cap,rfl,hg,(Array.getElem?_eq_some_iff.1 hh).1⟩
theorem aF.tg (w:World) (base:Nat) (hb:base≤w.heap.size):aF (w.alloc (.cells #[] 3)) base (.slice (some ⟨w.heap.size,0,none⟩) 0 0) []:=
 World.ownsRow_made w #[] 0 hb (by unfold maxLen;omega) rfl
theorem aF.lt {w:World} {base:Nat} {v:Value} {xs:List Int} (h:aF w base v xs):∀ k,v.ownBlock=some k→base≤k∧k<w.heap.size:=World.ownsRow.lt h
theorem aF.alloc {w:World} {base:Nat} {v:Value} {xs:List Int} (h:aF w base v xs) (o:Obj):aF (w.alloc o) base v xs:=World.ownsRow.alloc h o
theorem aF.forms {w:World} {base:Nat} {v:Value} {xs:List Int} (h:aF w base v xs):(v=.slice none 0 0∧xs=[])∨∃ g cap,v=.slice (some ⟨g,0,none⟩) xs.length cap∧base≤g:=by
 rcases h.2 with ⟨e,h2⟩ | ⟨g,cap',cur,e,hg,-⟩
 ·exact Or.inl ⟨e,List.eq_nil_of_length_eq_zero h2⟩
 exact Or.inr ⟨g,cap',e,hg⟩
theorem aF.cap {w:World} {base:Nat} {a:Option Addr} {n cap:Nat} {xs:List Int} (h:aF w base (.slice a n cap) xs):xs.length≤cap∧cap≤9223372036854775807:=by
 rcases h.2 with ⟨e,h2⟩ | ⟨g,cap',cur,e,-,-,h3,h4,-⟩
 ·injection e with e1 e2 e3
  exact ⟨by omega,by omega⟩
 injection e with e1 e2 e3
 unfold maxLen at h4
 exact ⟨by omega,by omega⟩
theorem d7 {P:Program} (w:World) (base:Nat) (t ty e:TypeId) (i:TypeInfo) (size:Nat) (ht:P.underlying t=some (.slice e)) (hi:P.info? e=some i)
  (v:Value) (n:Nat) (xs:List Value) (hown:w.ownsRow base e size v n xs) (c:Nat):(Builtin.append_ #[t,t] ty #[v,.slice none 0 c]).run P w=.ok v w:=by
 rcases hown.2 with ⟨rfl,rfl⟩ | ⟨g,cap,cur,rfl,_,_,hnc,_⟩
 ·simp [Builtin.append_,run_underlying ht,sizeOf,typeInfo,hi,Builtin.lenOf,Builtin.firstCells]
 simp [Builtin.append_,run_underlying ht,sizeOf,typeInfo,hi,Builtin.lenOf,Builtin.firstCells,hnc,storeCells]
theorem kU {w W:World} (base:Nat) (ty:TypeId) (ys xs:List Int) (v:Value) (A:Option Addr) (c:Nat)
  (hr:∀ j y,ys[j]?=some y→∃ ad,A=some ad∧w.cell? (ad.add j)=some (.int .i64 y)) (hown:aF w base v xs) (hW:Below base W w) (hB:base≤w.heap.size) (hl:xs.length+ys.length≤10000000000) :
  ∃ v' w',(Builtin.append_ #[104,104] ty #[v,.slice A ys.length c]).run Tryz.prog w=.ok v' w'∧aF w' base v' (xs ++ ys)∧Below base W w':=by
 obtain ⟨i0,hi,hz0,hz1,hz2⟩:=info_parts iu
 cases A with
 | none=>
  have he:ys=[]:=by
   cases ys with
   | nil=>rfl
   | cons y ys=>obtain ⟨ad,h,-⟩:=hr 0 y rfl;cases h
  subst he
  exact ⟨v,w,d7 w base _ _ _ i0 1 Tryz.underlying104 hi _ _ _ hown c,by simpa using hown,hW⟩
 | some ad=>
 obtain ⟨v',w',h1,h2,h3,-,-⟩:=run_append_own_at (P:=Tryz.prog) w base 104 ty 3 i0 (.int .i64 0) 1 8 Tryz.underlying104 hi hz0 hz1 hz2 rfl (by decide) v xs.length (xs.map (Value.int .i64)) hown ad ys.length c (ys.map (Value.int .i64))
  (by simp) (fun j u hu=>by
   rw [List.getElem?_map] at hu
   cases hy:ys[j]? with
   | none=>rw [hy] at hu;cases hu
   | some y=>
    rw [hy] at hu
    obtain ⟨ad',h1,h2⟩:=hr j y hy
    obtain rfl:=Option.some.inj h1
    obtain rfl:=Option.some.inj hu
    exact h2) (fun u hu=>by
   obtain ⟨y,-,rfl⟩:=List.mem_map.1 hu
   rfl) (by unfold maxLen;omega) (by omega) hB
 refine ⟨v',w',h1,?_,hW.grown h3 hB fun k hk=>(hown.lt k hk).1⟩
 unfold aF
 rw [List.map_append,List.length_append]
 exact h2
theorem li {ops:Array Oper} {rest:List Oper} {o:Oper} {a:Act} {Q:Exit→Act→World→Prop} {w W:World} (base:Nat) (ys xs:List Int) (v:Value) (A:Option Addr) (m c:Nat) (hm:ys.length=m) (hgd:o.guard=none) (s x:Operand)
  (ho:o.op=.call { callee:=.builtin .append,args:=#[s,x],argTypes:=#[104,104] }) (hs:a.eval s=v) (hx:a.eval x=.slice A m c)
  (hr:∀ j y,ys[j]?=some y→∃ ad,A=some ad∧w.cell? (ad.add j)=some (.int .i64 y)) (hown:aF w base v xs) (hW:Below base W w) (hB:base≤w.heap.size) (hl:xs.length+ys.length≤10000000000)
  (h:∀ v' w',aF w' base v' (xs ++ ys)→Below base W w'→wpList Tryz.prog ops Q rest (a.put o.dst v') w') :
  wpList Tryz.prog ops Q (o :: rest) a w:=by
 subst hm
 refine wpList_plain hgd fun _ hK=>?_
 obtain ⟨v',w',h1,h2,h3⟩:=kU (w:=w) (W:=W) base o.type ys xs v A c hr hown hW hB hl
 unfold Oper.wp execOp
 simp only [ho,resolve,invoke,builtin,Sem.run_bind,Sem.run_pure,Result.andThen_ok,List.map_toArray,List.map_cons,List.map_nil,hs,hx,h1]
 exact hK _ _ (h v' w' h2 h3)
end
end Go.Proofs.YtgfkcoablfjbcaaGreatDoor
