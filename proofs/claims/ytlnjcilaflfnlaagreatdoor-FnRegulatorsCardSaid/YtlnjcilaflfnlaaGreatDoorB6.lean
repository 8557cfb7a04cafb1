/-
  Joined: contracts, lemmas.
-/
import Derived.Test.YtlnjcilaflfnlaaGreatDoorB5
import Derived.Test.YtlnjcilaflfnlaaGreatDoorShG
set_option linter.unusedSimpArgs false
set_option linter.unusedVariables false
set_option maxRecDepth 100000
set_option maxHeartbeats 8000000
namespace Go.Proofs.YtlnjcilaflfnlaaGreatDoor
open _root_.Go.Proofs.Tryz
section
open Gr M Rg Rw Wh
namespace M
def Su (C:Int) (s:Nat->Int):Prop:=∀ n,1<=s n/\4*s n<=s (n+1)+C+3/\s (n+1)<=4*s n+C
theorem Su.lo {C:Int} {s:Nat->Int} (h:Su C s) (n:Nat):∀ k:Nat,4 ^ k*(3*(s n - 1) - C)<=3*(s (n+k) - 1) - C
 | 0=>σ
 | k+1=>by
  have ih:=h.lo n k;have:=h (n+k);rw [Int.pow_succ,show n+(k+1)=n+k+1 by omega]
  have e:4 ^ k*4*(3*(s n - 1) - C)=4*(4 ^ k*(3*(s n - 1) - C)):=φ
  rw [e];generalize 4 ^ k*(3*(s n - 1) - C)=x at *;omega
theorem Su.hi {C:Int} {s:Nat->Int} (h:Su C s) (n:Nat):∀ k:Nat,3*s (n+k)+C<=4 ^ k*(3*s n+C)
 | 0=>σ
 | k+1=>by
  have ih:=h.hi n k;have:=h (n+k);rw [Int.pow_succ,show n+(k+1)=n+k+1 by omega]
  have e:4 ^ k*4*(3*s n+C)=4*(4 ^ k*(3*s n+C)):=φ
  rw [e];generalize 4 ^ k*(3*s n+C)=x at *;omega
theorem Su.hld {C:Nat} {s:Nat->Int} (h:Su C s) (n:Nat):LO s (max 0 (3*(s n - 1) - C)*4096 / p4 n) (-(-((3*s n+C)*4096) / p4 n)):=by
 have hT:=gp n
 have hpd:(0:Int)<p4 n:=by unfold p4;omega
 have l1:max 0 (3*(s n - 1) - C)*4096 / p4 n*p4 n<=max 0 (3*(s n - 1) - C)*4096:=Int.ediv_mul_le _ ω;have l2:-((3*s n+C)*4096) / p4 n*p4 n<=-((3*s n+C)*4096):=Int.ediv_mul_le _ ω;have l0:0<=max 0 (3*(s n - 1) - C)*4096 / p4 n:=Int.ediv_nonneg ω ω
 have l3:-((3*s n+C)*4096) / p4 n<=0:=by
  have:=(h n).1;have:=Int.ediv_le_ediv (c:=p4 n) hpd (show -((3*s n+C)*4096)<=0 by omega)
  simpa using this
 generalize hL:max 0 (3*(s n - 1) - C)*4096 / p4 n=L at *;generalize hH:-((3*s n+C)*4096) / p4 n=H at *;clear hL hH;unfold p4 at l1 l2;refine ⟨L*4 ^ n+4096*(3+2*C+3*s n),fun N=>?_⟩;have hs:=(h N).1;have hsn:=(h n).1
 rcases Nat.lt_or_ge N n with hN | hN
 ·obtain ⟨k,rfl⟩:∃ k,n=N+k:=⟨n - N,ω⟩
  have hk:=gp k;have hP:=gp N;have w:=h.lo N k;have e:(4:Int) ^ (N+k)=4 ^ N*4 ^ k:=Int.pow_add ..
  constructor
  ·have:L*4 ^ N<=L*4 ^ (N+k):=by
    rw [e];refine Int.mul_le_mul_of_nonneg_left ?_ l0;have:(4:Int) ^ N*1<=4 ^ N*4 ^ k:=Int.mul_le_mul_of_nonneg_left hk ω;omega
   omega
  have h1:3*(s N - 1) - C<=max 0 (3*(s (N+k) - 1) - C):=by
   rcases Int.lt_or_le 0 (3*(s N - 1) - C) with q | q
   ·have:1*(3*(s N - 1) - C)<=4 ^ k*(3*(s N - 1) - C):=Int.mul_le_mul_of_nonneg_right hk ω
    omega
   omega
  have h2:0<=-H*4 ^ N:=Int.mul_nonneg ω ω;have h3:0<=L*4 ^ (N+k):=Int.mul_nonneg l0 (by have:=gp (N+k);omega);omega
 obtain ⟨k,rfl⟩:∃ k,N=n+k:=⟨N - n,ω⟩
 have hk:=gp k;have w1:=h.lo n k;have w2:=h.hi n k;have e:(4:Int) ^ (n+k)=4 ^ n*4 ^ k:=Int.pow_add ..;have h0:0<=L*4 ^ n:=Int.mul_nonneg l0 ω
 constructor
 ·-- from below
  have h1:3*(L*4 ^ (n+k))<=3*(4096*s (n+k)):=by
   rw [e]
   have e2:3*(L*(4 ^ n*4 ^ k))=4 ^ k*(L*(3*4 ^ n)):=φ
   rw [e2];refine Int.le_trans (Int.mul_le_mul_of_nonneg_left l1 ω) ?_
   rcases Int.lt_or_le 0 (3*(s n - 1) - C) with q | q
   ·rw [Int.max_eq_right ω]
    have e3:4 ^ k*((3*(s n - 1) - (C:Int))*4096)=4096*(4 ^ k*(3*(s n - 1) - C)):=φ
    rw [e3];omega
   rw [Int.max_eq_left ω];simp
   omega
  omega
 have h1:3*(4096*s (n+k))<=3*(-H*4 ^ (n+k)):=by
  rw [e]
  have e2:3*(-H*(4 ^ n*4 ^ k))=4 ^ k*(-(H*(3*4 ^ n))):=φ
  rw [e2]
  have e3:3*(4096*s (n+k))<=4 ^ k*((3*s n+C)*4096):=by
   have e4:4 ^ k*((3*s n+(C:Int))*4096)=4096*(4 ^ k*(3*s n+C)):=φ
   rw [e4];omega
  exact Int.le_trans e3 (Int.mul_le_mul_of_nonneg_left ω ω)
 omega
theorem xR {a b:Int} (hd:aN a b≠0) {P:r_} (h:r_.On a b P):Su (hC a b) (r_.hs a P):=fun n=>⟨r_.Ig a P n,(r_.DZ hd h n).1,(r_.DZ hd h n).2⟩
theorem FL {a:Int} {P:r_} {n:Nat} {u v:Int} (h:ud (r_.K6 a n P) (.val u v)):fa (.val u v)=r_.hs a P n:=by
 obtain ⟨h1,h2⟩:=(h:r_.px _=u/\r_.pz _=v)
 unfold r_.hs r_.hp hb hh;rw [h1,h2,←II]
 show max ((Wh.bl u.natAbs:Nat):Int) ((Wh.bl v.natAbs:Nat):Int)=_
 omega
theorem Bu {s:Nat->Int} (h:∃ c:Int,∀ n,0<=s n/\s n<=c):LO s 0 0:=by
 obtain ⟨c,h⟩:=h;exact ⟨4096*c,fun n=>by have:=h n;omega⟩
theorem vC {a:Rat} {P:r_} {n:Nat} (h:r_.K6 a n P=.O):∀ k,r_.K6 a (n+k) P=.O
 | 0=>h
 | k+1=>by
  show r_.add a (r_.K6 a (n+k) P) (r_.K6 a (n+k) P)=.O
  rw [vC h k];rfl
theorem Ie {a b:Int} (hd:aN a b≠0) {P:r_} (h:r_.On a b P) {n:Nat} (hO:r_.K6 a n P=.O):∃ c:Int,∀ k,0<=r_.hs a P k/\r_.hs a P k<=c:=by
 have W:=xR hd h
 have e1:r_.hs a P n=1:=by unfold r_.hs;rw [hO];decide
 refine ⟨2+hC a b,fun k=>⟨by have:=(W k).1;omega,?_⟩⟩
 rcases Nat.lt_or_ge k n with hk | hk
 ·obtain ⟨j,rfl⟩:∃ j,n=k+j:=⟨n - k,ω⟩
  have w:=W.lo k j;rw [e1] at w;have hj:=gp j
  rcases Int.lt_or_le 0 (3*(r_.hs a P k - 1) - hC a b) with q | q
  ·have:1*(3*(r_.hs a P k - 1) - hC a b)<=4 ^ j*(3*(r_.hs a P k - 1) - hC a b):=Int.mul_le_mul_of_nonneg_right hj ω
   omega
  omega
 obtain ⟨j,rfl⟩:∃ j,k=n+j:=⟨k - n,ω⟩
 have:r_.hs a P (n+j)=1:=by unfold r_.hs;rw [vC hO j];decide
 omega
theorem zL {a b X Y E:Int} (hd:aN a b≠0) (h:aV a b X Y E=true) (n:Nat) (ho:isOk (aZ a b X E n)=true):LO (r_.hs a (da X Y E)) (hL (hC a b) n (aZ a b X E n)) (hH (hC a b) n (aZ a b X E n)):=by
 have hon:=gH h;have hi:=Iu hd h n
 cases hq:aZ a b X E n with
 | bad=>rw [hq] at ho;cases ho
 | inf=>
  rw [hq] at hi;exact Bu (Ie hd hon hi)
 | val u v=>
 rw [hq] at hi;have:=(xR hd hon).hld n;rw [←FL hi] at this;exact this
theorem sI {a b X E:Int}:∀ {n k:Nat},k<=n->isOk (aZ a b X E n)=true->isOk (aZ a b X E k)=true
 | 0,k,hk,h=>by
  obtain rfl:k=0:=ω
  exact h
 | n+1,k,hk,h=>by
  by_cases e:k=n+1
  ·exact e ▸ h
  refine sI (n:=n) ω ?_;unfold aZ at *
  split
  ·rfl
  rename_i hE
  rw [if_neg hE] at h;have h:isOk (nx a b (run a b n (.val X (E*E))))=true:=h
  cases hr:run a b n (.val X (E*E)) with
  | bad=>rw [hr] at h;cases h
  | inf=>rfl
  | val u v=>rfl
theorem HE {a b X Y E:Int} (hd:aN a b≠0) (h:aV a b X Y E=true):∀ n:Nat,isOk (aZ a b X E n)=true->LO (r_.hs a (da X Y E)) (bL a b X E n) (bH a b X E n)
 | 0,ho=>zL hd h 0 ho
 | n+1,ho=>(HE hd h n (sI (Nat.le_succ n) ho)).common (zL hd h (n+1) ho)
theorem CX {a b X E:Int}:∀ f k:Nat,isOk (aZ a b X E k)=true->isOk (aZ a b X E (Og a b X E f k))=true
 | 0,k,h=>h
 | f+1,k,h=>by
  unfold Og
  split
  ·rename_i h1
   exact CX f (k+1) h1
  exact h
theorem JZ (a b X E:Int):isOk (aZ a b X E (bN a b X E))=true:=by
 refine CX 5 0 ?_;unfold aZ
 split <;> rfl
theorem fB {a b X Y E:Int} (hd:aN a b≠0) (h:aV a b X Y E=true):LO (r_.hs a (da X Y E)) (bL a b X E (bN a b X E)) (bH a b X E (bN a b X E)):=HE hd h _ (JZ a b X E)
end M
namespace M
theorem dt {k x y:Rat} (hk:k≠0) (h:k*x=k*y):x=y:=by
 have:k*(x - y)=0:=φ
 rcases Rat.mul_eq_zero.1 this with h | h
 ·exact absurd h hk
 grind
theorem uG {X Y E:Int} (hE:E≠0):∃ x y:Rat,da X Y E=.fin x y/\x*((E:Rat)*E)=X/\y*((E:Rat)*E*E)=Y:=by
 refine ⟨_,_,if_neg hE,?_,?_⟩
 ·push_cast
  exact Rat.div_mul_cancel (by have:=fJ hE;grind)
 push_cast
 exact Rat.div_mul_cancel (by have:=fJ hE;grind)
theorem KB {x:Int} (h:(x:Rat)=0):x=0:=by exact_mod_cast h
theorem Ee {a b X1 Y1 E1 X2 Y2 E2:Int} (h1:aV a b X1 Y1 E1=true) (h2:aV a b X2 Y2 E2=true) (e1:E1≠0) (e2:E2≠0) (h0:sD X1 Y1 E1 X2 Y2 E2≠0) {x1 y1 x2 y2:Rat}
  (k1:x1*((E1:Rat)*E1)=X1) (k2:y1*((E1:Rat)*E1*E1)=Y1) (k3:x2*((E2:Rat)*E2)=X2) (k4:y2*((E2:Rat)*E2*E2)=Y2)
  (o1:y1*y1=x1*x1*x1+a*x1+b) (o2:y2*y2=x2*x2*x2+a*x2+b) :
  ∃ l:Rat,r_.Slp a x1 y1 x2 y2 l/\l*(sD X1 Y1 E1 X2 Y2 E2:Int)=(sN a X1 Y1 E1 X2 Y2 E2:Int):=by
 have z1:=fJ e1;have z2:=fJ e2
 by_cases hc:X1=X2/\Y1=Y2/\E1=E2
 ·unfold sD at h0
  rw [if_pos hc] at h0
  have hy:y1≠0:=fun h=>by
   rw [h,Rat.zero_mul] at k2;have:=KB k2.symm;subst this;simp at h0
  unfold sD sN;rw [if_pos hc,if_pos hc];obtain ⟨rfl,rfl,rfl⟩:=hc;have ex:x1=x2:=dt (k:=(E1:Rat)*E1) φ φ;have ey:y1=y2:=dt (k:=(E1:Rat)*E1*E1) φ φ;subst ex ey;refine ⟨(3*x1*x1+a) / (2*y1),⟨φ,?_⟩,?_⟩
  ·have:=Rat.div_mul_cancel (a:=3*x1*x1+a) (b:=2*y1) φ
   grind
  have:=Rat.div_mul_cancel (a:=3*x1*x1+a) (b:=2*y1) φ;generalize (3*x1*x1+(a:Rat)) / (2*y1)=l at *
  push_cast
  rw [←k1,←k2];clear k1 k2 k3 k4 o1 o2;generalize (E1:Rat)=e at *
  have:l*(2*(y1*(e*e*e))*e)=(l*(2*y1))*(e*e*e*e):=φ
  grind
 unfold sD at h0;rw [if_neg hc] at h0;unfold sD sN;rw [if_neg hc,if_neg hc]
 have hx:x2 - x1≠0:=fun h=>by
  apply h0
  have:(X2*E1*E1 - X1*E2*E2:Int)=0:=by
   apply KB
   push_cast
   rw [←k1,←k3];clear k2 k4 o1 o2
   grind
  rw [this,Int.mul_zero]
 have hd:=Rat.div_mul_cancel (a:=y2 - y1) hx;refine ⟨(y2 - y1) / (x2 - x1),⟨φ,?_⟩,?_⟩
 ·generalize (y2 - y1) / (x2 - x1)=l at *
  refine dt hx ?_
  have:(x2 - x1)*(l*(y1+y2))=(y2 - y1)*(y1+y2):=by rw [←hd];grind
  rw [this];clear this hd k1 k2 k3 k4
  grind
 generalize (y2 - y1) / (x2 - x1)=l at *
 push_cast
 rw [←k1,←k2,←k3,←k4];clear k1 k2 k3 k4 o1 o2;generalize (E1:Rat)=e at *;generalize (E2:Rat)=f at *
 have:l*(e*f*(x2*(f*f)*e*e - x1*(e*e)*f*f))=(l*(x2 - x1))*(e*e*e*f*f*f):=φ
 rw [this,hd]
 grind
theorem eJ {a b:Int} (h:good a b=true):aN a b≠0:=by
 unfold good at h;rw [Bool.and_eq_true] at h
 simpa using h.2
theorem Fx {a b X1 Y1 E1 X2 Y2 E2:Int} (hg:good a b=true) (h1:aV a b X1 Y1 E1=true) (h2:aV a b X2 Y2 E2=true) (e1:E1≠0) (e2:E2≠0) (h0:sD X1 Y1 E1 X2 Y2 E2≠0) :
  ∃ u v:Rat,r_.add a (da X1 Y1 E1) (da X2 Y2 E2)=.fin u v/\
   (∀ (x:Int) (e:Int),e≠0->(u*((e:Rat)*e)=x ↔ bot (Le a X1 Y1 E1 X2 Y2 E2) E1 E2*x=top (Lu a X1 Y1 E1 X2 Y2 E2) (Le a X1 Y1 E1 X2 Y2 E2) X1 E1 X2 E2*(e*e)))/\
   ∀ (x y e:Int),e≠0->u*((e:Rat)*e)=x->e*iV (Lu a X1 Y1 E1 X2 Y2 E2) (Le a X1 Y1 E1 X2 Y2 E2) X1 Y1 E1 x e=Le a X1 Y1 E1 X2 Y2 E2*E1*E1*E1*y->v*((e:Rat)*e*e)=y:=by
 obtain ⟨x1,y1,k0,k1,k2⟩:=uG (X:=X1) (Y:=Y1) e1;obtain ⟨x2,y2,k3,k4,k5⟩:=uG (X:=X2) (Y:=Y2) e2;have o1:=gH h1;have o2:=gH h2;rw [k0] at o1 ⊢;rw [k3] at o2 ⊢;obtain ⟨l,hl,hn⟩:=Ee h1 h2 e1 e2 h0 k1 k2 k4 k5 o1 o2;obtain ⟨hs,hd0,-⟩:=AA (a:=a) h0
 have hln:l*(Le a X1 Y1 E1 X2 Y2 E2:Int)=(Lu a X1 Y1 E1 X2 Y2 E2:Int):=by
  refine dt (k:=(sD X1 Y1 E1 X2 Y2 E2:Rat)) (fJ h0) ?_
  have:((Lu a X1 Y1 E1 X2 Y2 E2*sD X1 Y1 E1 X2 Y2 E2:Int):Rat)=((Le a X1 Y1 E1 X2 Y2 E2*sN a X1 Y1 E1 X2 Y2 E2:Int):Rat):=by rw [hs]
  push_cast at this
  rw [←hn] at this
  grind
 have hm:=fJ (E:=Le a X1 Y1 E1 X2 Y2 E2) ω;generalize Le a X1 Y1 E1 X2 Y2 E2=m,Lu a X1 Y1 E1 X2 Y2 E2=n at *;refine ⟨_,_,r_.dc (r_.dP (eJ hg)) o1 o2 hl,fun x e he=>?_,fun x y e he hx hy=>?_⟩
 ·have hxr:(bot m E1 E2*x=top n m X1 E1 X2 E2*(e*e)) ↔ ((m:Rat)*m*(E1*E1*E2*E2)*x=((n:Rat)*n*(E1*E1*E2*E2) - m*m*(X1*E2*E2+X2*E1*E1))*(e*e)):=by
   unfold bot top
   constructor
   ·intro h
    exact_mod_cast h
   intro h
   exact_mod_cast h
  rw [hxr,←k1,←k4,←hln];have z1:=fJ e1;have z2:=fJ e2;have z3:=fJ he;clear k0 k1 k2 k3 k4 k5 o1 o2 hn hln hxr hl;generalize (E1:Rat)=e1 at *;generalize (E2:Rat)=e2 at *;generalize (e:Rat)=e at *;generalize (m:Rat)=m at *;generalize (x:Rat)=x at *
  have e0:(l*m*(l*m)*(e1*e1*e2*e2) - m*m*(x1*(e1*e1)*e2*e2+x2*(e2*e2)*e1*e1))*(e*e)=(m*m*(e1*e1*e2*e2))*((l*l - x1 - x2)*(e*e)):=φ
  rw [e0]
  constructor
  ·intro h
   rw [h]
  intro h;exact (dt (k:=m*m*(e1*e1*e2*e2)) φ h).symm
 have hyr:((e:Rat)*(n*(X1*e*e - x*E1*E1)*E1 - Y1*m*e*e))=m*E1*E1*E1*y:=by
  unfold iV at hy
  exact_mod_cast hy
 rw [←k1,←k2,←hln,←hx] at hyr;have z1:=fJ e1;have z3:=fJ he;clear k0 k1 k2 k3 k4 k5 o1 o2 hn hln hl hx hy;generalize (E1:Rat)=e1 at *;generalize (e:Rat)=e at *;generalize (m:Rat)=m at *;generalize (y:Rat)=y at *;refine dt (k:=m*e1*e1*e1) φ ?_;rw [←hyr];generalize l*l - x1 - x2=u
 grind
theorem sv {a b X1 Y1 E1 X2 Y2 E2:Int} (hg:good a b=true) (h1:aV a b X1 Y1 E1=true) (h2:aV a b X2 Y2 E2=true) (hk:dI a X1 Y1 E1 X2 Y2 E2=true) :
  da (eI a X1 Y1 E1 X2 Y2 E2) (ft a X1 Y1 E1 X2 Y2 E2) (eD a X1 Y1 E1 X2 Y2 E2)=r_.add a (da X1 Y1 E1) (da X2 Y2 E2):=by
 unfold dI at hk;unfold eI ft eD
 by_cases e1:E1=0
 ·subst e1
  rw [if_pos rfl,if_pos rfl,if_pos rfl];rfl
 rw [if_neg e1] at hk;rw [if_neg e1,if_neg e1,if_neg e1]
 by_cases e2:E2=0
 ·subst e2
  rw [if_pos rfl,if_pos rfl,if_pos rfl];exact (r_.oZ _ _).symm
 rw [if_neg e2] at hk;rw [if_neg e2,if_neg e2,if_neg e2];obtain ⟨p1,p2,p3,p4⟩:=kN h1 e1;obtain ⟨r1,r2,r3,r4⟩:=kN h2 e2
 by_cases h0:sD X1 Y1 E1 X2 Y2 E2=0
 ·obtain ⟨q1,q2,q3⟩:=(zI p4 r4 p2.1 r2.1 p3 r3).1 h0
  unfold NY Nt Mn;rw [if_pos h0,if_pos h0,if_pos h0];subst q1 q2 q3;unfold da;rw [if_pos rfl,if_neg e1,if_neg e1]
  symm
  refine r_.ce ⟨rfl,?_⟩
  push_cast
  rw [Rat.div_def,Rat.div_def,Rat.neg_mul]
 obtain ⟨u,v,k1,k2,k3⟩:=Fx hg h1 h2 e1 e2 h0;obtain ⟨-,-,H⟩:=tQ (n:=Lu a X1 Y1 E1 X2 Y2 E2) (m:=Le a X1 Y1 E1 X2 Y2 E2) p4 r4 p1.2 r1.2 p2.1 p2.2 r2.1 r2.2 h0 (Or.inl ⟨rfl,rfl⟩);obtain ⟨c1,c2,c3,c4,c5,c6,c7,c8,-⟩:=H hk _ _ _ rfl rfl rfl
 have hE:Mn a X1 Y1 E1 X2 Y2 E2≠0:=ω
 have hu:=(k2 _ _ hE).2 c6;have hv:=k3 _ _ _ hE hu c7;rw [k1];obtain ⟨x,y,l1,l2,l3⟩:=uG (X:=NY a X1 Y1 E1 X2 Y2 E2) (Y:=Nt a X1 Y1 E1 X2 Y2 E2) hE;have z:=fJ hE;rw [l1]
 congr 1
 ·exact dt (k:=(Mn a X1 Y1 E1 X2 Y2 E2:Rat)*Mn a X1 Y1 E1 X2 Y2 E2) φ φ
 exact dt (k:=(Mn a X1 Y1 E1 X2 Y2 E2:Rat)*Mn a X1 Y1 E1 X2 Y2 E2*Mn a X1 Y1 E1 X2 Y2 E2) φ φ
theorem EC (X Y E:Int):da X (-Y) E=r_.neg (da X Y E):=by
 unfold da
 split
 ·rfl
 show r_.fin _ _=r_.fin _ _
 congr 1
 push_cast
 rw [Rat.div_def,Rat.div_def,Rat.neg_mul]
theorem mb {a b X Y E:Int} (h:aV a b X Y E=true):aV a b X (-Y) E=true:=by
 unfold aV at *
 split
 ·rename_i hE
  rw [if_pos hE] at h;simp only [Bool.and_eq_true,decide_eq_true_eq] at *;omega
 rename_i hE
 rw [if_neg hE] at h;simp only [Bool.and_eq_true,decide_eq_true_eq] at *;exact ⟨h.1,by rw [show -Y*-Y=Y*Y by grind];exact h.2⟩
end M
end
section
open Go.RowKit open Gr M Rg Rw Wh
namespace M
theorem xF {X E:Int} (hX1:-10000<=X) (hX2:X<=10000) (hE1:0<=E) (hE2:E<=20):fa (.val X (E*E))<=14:=by
 have h1:Wh.bl X.natAbs<=14:=um ω
 have Wj:0<=E*E/\E*E<=400:=⟨Int.mul_nonneg hE1 hE1,by have:=Int.mul_le_mul hE2 hE2 hE1 ω;omega⟩
 have h2:Wh.bl (E*E).natAbs<=14:=um ω
 show max ((Wh.bl X.natAbs:Nat):Int) ((Wh.bl (E*E).natAbs:Nat):Int)<=14
 omega
theorem lS {a b X Y E:Int} (hg:good a b=true) (h:aV a b X Y E=true) (k:Nat):0<=bL a b X E k/\bH a b X E k<=150000:=by
 have hin:=ae hg;obtain ⟨x1,x2,e1,e2,-⟩:=df hin h;have hm:=xD (a:=a) (b:=b) (X:=X) (E:=E) (k:=0) k (Nat.zero_le _);have hCb:=rq hin;have hb:=xF x1 x2 e1 e2
 have h0:0<=bL a b X E 0/\bH a b X E 0<=150000:=by
  show 0<=hL (hC a b) 0 (aZ a b X E 0)/\hH (hC a b) 0 (aZ a b X E 0)<=150000
  unfold aZ
  split
  ·exact ⟨Int.le_refl _,by show (0:Int)<=150000;decide⟩
  show 0<=max 0 (3*(fa (.val X (E*E)) - 1) - (hC a b:Int))*4096 / p4 0/\-(-((3*fa (.val X (E*E))+(hC a b:Int))*4096) / p4 0)<=150000
  have e:p4 0=3:=rfl;rw [e];omega
 omega
theorem dR {a b X Y E:Int} (hg:good a b=true) (h:aV a b X Y E=true):bU a b X E=some (bL a b X E (bN a b X E),bH a b X E (bN a b X E)):=by
 have hs:=lS hg h (bN a b X E);have hv:=(fB (eJ hg) h).valid;unfold bU Lm
 have:aJ (bL a b X E (bN a b X E)) (bH a b X E (bN a b X E))=true:=by
  unfold aJ;exact Qg
 rw [if_pos this]
structure HB (a b X Y E l h:Int):Prop where
 is:bU a b X E=some (l,h)
 lo:0<=l
 hi:h<=150000
 le:l<=h
 hld:LO (r_.hs a (da X Y E)) l h
theorem HB.ex {a b X Y E:Int} (hg:good a b=true) (h:aV a b X Y E=true):∃ l u,HB a b X Y E l u/\l=bL a b X E (bN a b X E)/\u=bH a b X E (bN a b X E):=
 ⟨_,_,⟨dR hg h,(lS hg h _).1,(lS hg h _).2,(fB (eJ hg) h).valid,fB (eJ hg) h⟩,rfl,rfl⟩
theorem J2 {x y:Int} (h1:-409600000<=x) (h2:x<=409600000) (h3:-409600000<=y) (h4:y<=409600000):(pn x*pd y<pn y*pd x) ↔ x<y:=by
 obtain ⟨-,x1,-,x2,x3,x4,-⟩:=iF (bC h1 h2);obtain ⟨-,y1,-,y2,y3,y4,-⟩:=iF (bC h3 h4);have ex:4096 / pd x*pd x=4096:=Int.ediv_mul_cancel (Int.dvd_of_emod_eq_zero x2);have ey:4096 / pd y*pd y=4096:=Int.ediv_mul_cancel (Int.dvd_of_emod_eq_zero y2);generalize 4096 / pd y=v,4096 / pd x=u at *
 have e1:(u*v)*(pn x*pd y)=x*4096:=by rw [←x3,←ey];grind
 have e2:(u*v)*(pn y*pd x)=y*4096:=by rw [←y3,←ex];grind
 have huv:0<u*v:=Int.mul_pos ω ω
 constructor
 ·intro h
  have:=Int.mul_lt_mul_of_pos_left h huv;rw [e1,e2] at this;omega
 intro h;refine Int.lt_of_mul_lt_mul_left (a:=u*v) ?_ (Int.le_of_lt huv);rw [e1,e2];omega
end M
end
section
open Gr M Rg Rw Wh
namespace M
theorem qn {l h:Int} {p:Int × Int} (e:mkS l h=some p):p=(l,h):=by
 unfold mkS at e
 split at e
 ·exact (Option.some.inj e).symm
 cases e
theorem vm {a b X1 Y1 E1 X2 Y2 E2:Int} {p:Int × Int} (hg:good a b=true) (h1:aV a b X1 Y1 E1=true) (h2:aV a b X2 Y2 E2=true) (e:ep a b X1 Y1 E1 X2 Y2 E2=some p):LO (r_.pr a (da X1 Y1 E1) (da X2 Y2 E2)) p.1 p.2:=by
 unfold ep at e
 split at e
 ·rename_i hk
  have hs:=nI (ae hg) h1 h2;have hd:=eJ hg;rw [dR hg hs,dR hg h1,dR hg h2] at e;have H:=((fB hd hs).sub (fB hd h1)).sub (fB hd h2);rw [sv hg h1 h2 hk] at H;generalize bH a b (eI a X1 Y1 E1 X2 Y2 E2) (eD a X1 Y1 E1 X2 Y2 E2) (bN a b (eI a X1 Y1 E1 X2 Y2 E2) (eD a X1 Y1 E1 X2 Y2 E2))=u0,bL a b (eI a X1 Y1 E1 X2 Y2 E2) (eD a X1 Y1 E1 X2 Y2 E2) (bN a b (eI a X1 Y1 E1 X2 Y2 E2) (eD a X1 Y1 E1 X2 Y2 E2))=l0 at *
  cases hq:dX (some (l0,u0)) (some (bL a b X1 E1 (bN a b X1 E1),bH a b X1 E1 (bN a b X1 E1))) with
  | none=>rw [hq] at e;cases e
  | some q=>
  rw [hq] at e;have q1:=qn hq;have q2:=qn e;subst q2 q1;exact H
 cases e
theorem Ea {a b X Y E:Int} {p:Int × Int} (hg:good a b=true) (h:aV a b X Y E=true) (e:gB a b X E=some p):LO (r_.pr a (da X Y E) (da X Y E)) p.1 p.2:=by
 have hd:=eJ hg;unfold gB at e;rw [dR hg h] at e;have q:=qn e;subst q;have H:=(fB hd h).add (fB hd h);refine H.cl ((r_.Cl.of fun n=>?_).trans (r_.zU hd (gH h)).symm);omega
theorem Bd.neg {k:Nat} {s:Nat->Int} (h:Bd k s):Bd k (fun n=>-s n):=by
 obtain ⟨c,c0,h⟩:=h;refine ⟨c,c0,fun n=>?_⟩;have:=h n
 show -(c*(4 ^ n) ^ k)<=-s n/\-s n<=c*(4 ^ n) ^ k
 omega
theorem DY {a b:Int} (hd:aN a b≠0) {P:r_} (h:r_.On a b P):Bd 1 (r_.hs a P):=by
 have W:=xR hd h;refine ⟨3*r_.hs a P 0+(hC a b:Nat),by have:=(W 0).1;omega,fun n=>?_⟩;have q:=W.hi 0 n;rw [Nat.zero_add,Int.mul_comm (4 ^ n)] at q;have:=(W n).1;rw [Int.pow_succ,Int.pow_zero,Int.one_mul];omega
theorem J3 {a b:Int} (hd:aN a b≠0) {P Q:r_} (h1:r_.On a b P) (h2:r_.On a b Q):Bd 1 (r_.pr a P Q):=
 ((DY hd (r_.eS (r_.dP hd) h1 h2)).add (DY hd h1).neg).add (DY hd h2).neg
theorem Bd.cl {f:Nat->Int} {c:Int} (h:r_.Cl f (fun _=>c)):Bd 0 f:=by
 obtain ⟨d,h⟩:=h;refine ⟨((c.natAbs+d.natAbs:Nat):Int),ω,fun n=>?_⟩;have:-d<=f n - c/\f n - c<=d:=h n;rw [Int.pow_zero,Int.mul_one];omega
end M
namespace M
open r_
def TJ (a:Int) (P:Nat->r_) (v:Nat->Int):Nat->r_
 | 0=>.O
 | n+1=>r_.add a (TJ a P v n) (ws a (v n) (P n))
theorem xK {a b:Int} (hd:aN a b≠0) {P:Nat->r_} (h:∀ i,On a b (P i)) (v:Nat->Int):∀ n,On a b (TJ a P v n)
 | 0=>trivial
 | n+1=>eS (dP hd) (xK hd h v n) (r_.AN (dP hd) (h n) _)
theorem xr {a b:Int} (hd:aN a b≠0) {P:Nat->r_} (h:∀ i,On a b (P i)) (v:Nat->Int) {R:r_} (hR:On a b R):∀ N,Cl (pr a (TJ a P v N) R) (fun n=>Dt.sm N fun q=>v q*pr a (P q) R n)
 | 0=>⟨1,fun n=>by
  have:=GJ a R n
  show -1<=pr a .O R n - 0/\pr a .O R n - 0<=1
  omega⟩
 | N+1=>(xp hd (xK hd h v N) (r_.AN (dP hd) (h N) _) hR).trans ((xr hd h v hR N).add (GK hd (h N) hR (v N)))
theorem Ey {a b:Int} (hd:aN a b≠0) {P:Nat->r_} (h:∀ i,On a b (P i)) {k j m:Nat} (hj:j<k+1) (hm:m≠0) (h0:r_.mul a m (P j)=.O) {l u:Int} (p:HK k (fun n=>Dt.LP (k+1) fun i q=>pr a (P q) (P i) n) l u):l<=0:=by
 refine HK.kernel (T:=fun n i q=>pr a (P q) (P i) n) (v:=fun q=>if q=j then 1 else 0) (j:=j) p hj σ (fun i q=>J3 hd (h q) (h i)) fun i=>?_
 have e:(fun n=>Dt.sm (k+1) fun q=>(if q=j then 1 else 0)*pr a (P q) (P i) n)=fun n=>pr a (P j) (P i) n:=by
  funext n
  rw [Dt.uR (j:=j) (k+1) hj fun c _ hc=>by rw [if_neg hc,Int.zero_mul],if_pos rfl,Int.one_mul]
 rw [e];exact Bd.cl (c:=0) (Iz hd (h j) (h i) hm h0)
end M
namespace M
namespace r_
def Xk (x:Int):Nat->Int
 | 0=>x
 | k+1=>Xk x k*Xk x k*Xk x k*Xk x k
def Yk (x:Int):Nat->Int
 | 0=>1
 | k+1=>4*Yk x k*(Xk x k*Xk x k*Xk x k)
theorem HD (x:Int):∀ k:Nat,x*Yk x k=4 ^ k*Xk x k
 | 0=>by show x*1=4 ^ 0*x;omega
 | k+1=>by
  have ih:=HD x k
  show x*(4*Yk x k*(Xk x k*Xk x k*Xk x k))=4 ^ (k+1)*(Xk x k*Xk x k*Xk x k*Xk x k)
  rw [Int.pow_succ];generalize (4:Int) ^ k=p at *
  grind
theorem CN {x z:Int} (h:Int.gcd x z=1):∀ k,Int.gcd (Xk x k) z=1
 | 0=>h
 | k+1=>by
  have ih:=CN h k
  show Int.gcd (Xk x k*Xk x k*Xk x k*Xk x k) z=1
  unfold Int.gcd at *;rw [Int.natAbs_mul,Int.natAbs_mul,Int.natAbs_mul];exact Nat.Coprime.mul_left (Nat.Coprime.mul_left (Nat.Coprime.mul_left ih ih) ih) ih
theorem JD (a b X z s W:Int):∃ s',bB a b (X+z*z*s) (z*W)=X*X*X*X+z*z*s':=by
 unfold bB;refine ⟨4*X*X*X*s+6*X*X*z*z*s*s+4*X*z*z*z*z*s*s*s+z*z*z*z*z*z*s*s*s*s - 2*a*(X+z*z*s)*(X+z*z*s)*W*W - 8*b*(X+z*z*s)*z*W*W*W+a*a*z*z*W*W*W*W,?_⟩
 grind
theorem IJ (a b X Y z s t:Int):∃ t',ah a b (X+z*z*s) (z*(Y+z*z*t))=z*(4*Y*(X*X*X)+z*z*t'):=by
 obtain ⟨U,hU⟩:∃ U,U=X+z*z*s:=⟨_,rfl⟩
 obtain ⟨W,hW⟩:∃ W,W=Y+z*z*t:=⟨_,rfl⟩
 have hc:∃ c,U*U*U=X*X*X+z*z*c:=⟨3*X*X*s+3*X*z*z*s*s+z*z*z*z*s*s*s,by rw [hU];grind⟩
 obtain ⟨c,hc⟩:=hc;rw [←hU,←hW];refine ⟨4*(t*(U*U*U)+Y*c+W*(a*U*W*W+b*z*W*W*W)),?_⟩
 have e:ah a b U (z*W)=4*z*W*(U*U*U)+4*z*W*(a*U*(z*W)*(z*W)+b*(z*W)*(z*W)*(z*W)):=by unfold ah;grind
 have e2:4*z*W*(U*U*U)=4*z*(Y+z*z*t)*(U*U*U):=by rw [hW]
 have e3:Y*(U*U*U)=Y*(X*X*X)+z*z*(Y*c):=by rw [hc];grind
 clear hU hW hc;generalize U*U*U=u3 at *
 have e4:4*z*(Y+z*z*t)*u3=4*z*(Y*u3)+4*z*(z*z)*t*u3:=φ
 rw [e,e2,e4,e3];clear e e2 e3 e4
 grind
theorem yi {a b:Int} (hd:aN a b≠0) {P:r_} (h:On a b P):∀ k,∃ D s t:Int,D≠0/\D*px (K6 a k P)=Xk (px P) k+pz P*pz P*s/\D*pz (K6 a k P)=pz P*(Yk (px P) k+pz P*pz P*t)
 | 0=>⟨1,0,0,δ,by show 1*px P=px P+_;grind,by show 1*pz P=pz P*(1+_);grind⟩
 | k+1=>by
  obtain ⟨D,s,t,hD,h1,h2⟩:=yi hd h k;obtain ⟨d,hd0,-,e1,e2⟩:=uz hd (fS (dP hd) h k)
  show ∃ D s t:Int,D≠0/\D*px (add a (K6 a k P) (K6 a k P))=Xk (px P) k*Xk (px P) k*Xk (px P) k*Xk (px P) k+_/\D*pz (add a (K6 a k P) (K6 a k P))=pz P*(4*Yk (px P) k*(Xk (px P) k*Xk (px P) k*Xk (px P) k)+_)
  generalize pz P=z,Yk (px P) k=Y,Xk (px P) k=X,pz (K6 a k P)=q,px (K6 a k P)=p,pz (add a (K6 a k P) (K6 a k P))=q',px (add a (K6 a k P) (K6 a k P))=p' at *;obtain ⟨s',hs⟩:=JD a b X z s (Y+z*z*t);obtain ⟨t',ht⟩:=IJ a b X Y z s t;rw [←h1,←h2] at hs ht
  have f1:bB a b (D*p) (D*q)=D*D*D*D*bB a b p q:=by unfold bB;grind
  have f2:ah a b (D*p) (D*q)=D*D*D*D*ah a b p q:=by unfold ah;grind
  rw [f1,e1] at hs;rw [f2,e2] at ht;refine ⟨D*D*D*D*d,s',t',Int.mul_ne_zero (Int.mul_ne_zero (Int.mul_ne_zero (Int.mul_ne_zero hD hD) hD) hD) hd0,?_,?_⟩
  ·exact (Int.mul_assoc _ _ _).trans hs
  exact (Int.mul_assoc _ _ _).trans ht
theorem CY {a b:Int} (hd:aN a b≠0) {P:r_} (h:On a b P) (hz:pz P≠0) {k:Nat} (h1:px (K6 a k P)=px P) (h2:pz (K6 a k P)=pz P):pz P*pz P ∣ 4 ^ k - 1:=by
 obtain ⟨D,s,t,hD,e1,e2⟩:=yi hd h k;rw [h1] at e1;rw [h2] at e2;have hc:=CN (cop P) k;have hxy:=HD (px P) k;generalize pz P=z,px P=x,Yk (px P) k=Y,Xk (px P) k=X at *;generalize (4:Int) ^ k=p at *;have hDY:D=Y+z*z*t:=Int.eq_of_mul_eq_mul_left hz (by rw [←e2];grind)
 have hdv:z*z ∣ X*(p - 1):=⟨s - t*x,by
  have:x*D=4*0+p*X+z*z*t*x:=by rw [hDY,Int.mul_add,hxy];grind
  grind⟩
 have hcc:Int.gcd (z*z) X=1:=by
  rw [Int.gcd_comm];unfold Int.gcd at *;rw [Int.natAbs_mul];exact Nat.Coprime.mul_right hc hc
 have g1:(z*z).natAbs ∣ X.natAbs*(p - 1).natAbs:=by
  rw [←Int.natAbs_mul];exact Int.natAbs_dvd_natAbs.2 hdv
 exact Int.natAbs_dvd_natAbs.1 (Nat.Coprime.dvd_of_dvd_mul_left hcc g1)
theorem DV {a b:Int} (hd:aN a b≠0) {P:r_} (h:On a b P) (hz:pz P≠0) (h1:pz (add a P P)=0∨pz (add a P P)=1):pz P=1:=by
 obtain ⟨d,hd0,-,e1,e2⟩:=uz hd h;have hc:=cop P;have hnn:=EJ P
 have fin:pz P ∣ 1->pz P=1:=fun h=>by
  have:=Int.le_of_dvd δ h;omega
 have hcx:∀ n,Int.gcd (px P*n) (pz P)=1->True:=fun _ _=>trivial
 have hx3:pz P ∣ px P*px P*px P->pz P ∣ 1:=fun h=>by
  have g:(pz P).natAbs ∣ (px P).natAbs*(px P).natAbs*(px P).natAbs:=by
   rw [←Int.natAbs_mul,←Int.natAbs_mul];exact Int.natAbs_dvd_natAbs.2 h
  have cc:Nat.Coprime (pz P).natAbs (px P).natAbs:=Nat.Coprime.symm hc;have g2:=Nat.Coprime.dvd_of_dvd_mul_right cc (Nat.Coprime.dvd_of_dvd_mul_right cc g)
  exact Int.natAbs_dvd_natAbs.1 (by
   have:=Nat.dvd_gcd g2 (Nat.dvd_refl _);unfold Int.gcd at hc;rw [hc] at this
   exact this)
 have hx4:pz P ∣ px P*px P*px P*px P->pz P ∣ 1:=fun h=>by
  refine hx3 ?_
  have g:(pz P).natAbs ∣ (px P*px P*px P).natAbs*(px P).natAbs:=by
   rw [←Int.natAbs_mul];exact Int.natAbs_dvd_natAbs.2 h
  have cc:Nat.Coprime (pz P).natAbs (px P).natAbs:=Nat.Coprime.symm hc;exact Int.natAbs_dvd_natAbs.1 (Nat.Coprime.dvd_of_dvd_mul_right cc g)
 refine fin ?_;generalize pz P=z,px P=x at *
 rcases h1 with h1 | h1
 ·rw [h1,Int.mul_zero] at e2
  unfold ah at e2
  rcases Int.mul_eq_zero.1 e2 with h | h
  ·exact absurd (by omega:z=0) hz
  exact hx3 ⟨-(a*x*z+b*z*z),φ⟩
 rw [h1,Int.mul_one] at e2;refine hx4 ⟨4*(x*x*x+a*x*z*z+b*z*z*z)*px (add a P P)+2*a*x*x*z+8*b*x*z*z - a*a*z*z*z,?_⟩
 have:bB a b x z=ah a b x z*px (add a P P):=by rw [e1,e2]
 unfold bB ah at this
 grind
theorem KN {a b x y:Int} (h:y*y=x*x*x+a*x+b) {d m:Int} (e1:bB a b x 1=d*m) (e2:ah a b x 1=d):y*y ∣ aN a b:=by
 have hg:ah a b x 1=4*(y*y):=by unfold ah;rw [h];grind
 have hf:bB a b x 1=(3*x*x+a)*(3*x*x+a) - 8*x*(y*y):=by unfold bB;rw [h];grind
 have hk:(3*x*x+a)*(3*x*x+a)=y*y*(4*m+8*x):=by
  have:(3*x*x+a)*(3*x*x+a)=4*(y*y)*m+8*x*(y*y):=by rw [←hg,e2,←e1,hf];omega
  rw [this];grind
 refine ⟨(3*x*x+4*a)*(4*m+8*x) - 27*(x*x*x+a*x - b),?_⟩
 have hid:aN a b=(3*x*x+4*a)*((3*x*x+a)*(3*x*x+a)) - 27*(x*x*x+a*x - b)*(x*x*x+a*x+b):=by unfold aN;grind
 rw [hid,hk,←h]
 grind
theorem gl {a b:Rat} (hd:4*a*a*a+27*b*b≠0) {P:r_} (h:On a b P) (m:Nat):∀ n,mul a (m+n) P=add a (mul a m P) (mul a n P)
 | 0=>(oZ a _).symm
 | n+1=>by
  show add a (mul a (m+n) P) P=add a (mul a m P) (add a (mul a n P) P)
  rw [gl hd h m n,add_assoc hd (lk hd h m) (lk hd h n) h]
theorem tn {a b:Rat} (hd:4*a*a*a+27*b*b≠0) {P:r_} (h:On a b P):∀ n,mul a n (add a P P)=mul a (n+n) P
 | 0=>rfl
 | n+1=>by
  show add a (mul a n (add a P P)) (add a P P)=_
  rw [tn hd h n,show n+1+(n+1)=(n+n)+2 from ω,gl hd h (n+n) 2];rfl
theorem yj {a b:Rat} (hd:4*a*a*a+27*b*b≠0) {P:r_} (h:On a b P):∀ k,K6 a k P=mul a (2 ^ k) P
 | 0=>rfl
 | k+1=>by
  show add a (K6 a k P) (K6 a k P)=_
  rw [yj hd h k,←gl hd h,Nat.pow_succ,Nat.mul_two]
theorem Ij {a b:Rat} (hd:4*a*a*a+27*b*b≠0) {P Q:r_} (h1:On a b P) (h2:On a b Q) (h:add a P Q=O):P=neg Q:=by
 have h3:=xG hd h2 h1;rw [add_comm hd h2 h1,h,oZ] at h3;exact h3.symm
theorem vX {a b:Rat} (hd:4*a*a*a+27*b*b≠0) {P:r_} (h:On a b P) {m:Nat} (hm:mul a m P=O):∀ n,mul a (m*n) P=O
 | 0=>rfl
 | n+1=>by rw [Nat.mul_succ,gl hd h,vX hd h hm n,hm];rfl
theorem GS {a b:Int} {P:r_} (h:On a b P) (hz:pz P≠0):∃ d:Int,pz P*pz P*pz P=d*d:=by
 cases P with
 | O=>exact absurd rfl hz
 | fin x y=>
 have hx:=uJ x;have hy:=uJ y;have cx:Int.gcd x.num x.den=1:=x.reduced;have cy:Int.gcd y.num y.den=1:=y.reduced
 have dx:(0:Int)<x.den:=by have:=x.den_pos;omega
 have dy:(0:Int)<y.den:=by have:=y.den_pos;omega
 have hq:(y.num:Rat)*y.num*((x.den:Int):Rat)*((x.den:Int):Rat)*((x.den:Int):Rat)=((x.num:Rat)*x.num*x.num+a*x.num*((x.den:Int):Rat)*((x.den:Int):Rat)+b*((x.den:Int):Rat)*((x.den:Int):Rat)*((x.den:Int):Rat))*((y.den:Int):Rat)*((y.den:Int):Rat):=by
  have ho:y*y=x*x*x+a*x+b:=h;rw [←hx,←hy];generalize ((x.den:Int):Rat)=z at *;generalize ((y.den:Int):Rat)=d at *
  have:y*d*(y*d)*z*z*z=(y*y)*d*d*z*z*z:=φ
  rw [this,ho]
  grind
 show ∃ d:Int,(x.den:Int)*x.den*x.den=d*d
 refine ⟨y.den,?_⟩
 have hi:y.num*y.num*(x.den:Int)*(x.den:Int)*(x.den:Int)=(x.num*x.num*x.num+a*x.num*(x.den:Int)*(x.den:Int)+b*(x.den:Int)*(x.den:Int)*(x.den:Int))*(y.den:Int)*(y.den:Int):=by exact_mod_cast hq
 clear hq hx hy h;generalize (x.den:Int)=z at *;generalize (y.den:Int)=d at *;generalize y.num=n,x.num=u at *
 have hN:Int.gcd (u*u*u+a*u*z*z+b*z*z*z) z=1:=by
  have e:u*u*u+a*u*z*z+b*z*z*z=u*u*u+(a*u*z+b*z*z)*z:=φ
  rw [e,Int.gcd_add_mul_right_left];unfold Int.gcd at *;rw [Int.natAbs_mul,Int.natAbs_mul];exact Nat.Coprime.mul_left (Nat.Coprime.mul_left cx cx) cx
 generalize u*u*u+a*u*z*z+b*z*z*z=N at *
 have c1:Nat.Coprime (z*z*z).natAbs N.natAbs:=by
  rw [Int.natAbs_mul,Int.natAbs_mul];have:Nat.Coprime z.natAbs N.natAbs:=Nat.Coprime.symm hN;exact Nat.Coprime.mul_left (Nat.Coprime.mul_left this this) this
 have c2:Nat.Coprime (d*d).natAbs (n*n).natAbs:=by
  rw [Int.natAbs_mul,Int.natAbs_mul];have:Nat.Coprime d.natAbs n.natAbs:=Nat.Coprime.symm cy;exact Nat.Coprime.mul_left (Nat.Coprime.mul_right this this) (Nat.Coprime.mul_right this this)
 have d1:(z*z*z).natAbs ∣ (d*d).natAbs:=by
  refine Nat.Coprime.dvd_of_dvd_mul_left c1 ?_;rw [←Int.natAbs_mul];exact Int.natAbs_dvd_natAbs.2 ⟨n*n,by rw [←Int.mul_assoc,←hi];grind⟩
 have d2:(d*d).natAbs ∣ (z*z*z).natAbs:=by
  refine Nat.Coprime.dvd_of_dvd_mul_left c2 ?_;rw [←Int.natAbs_mul]
  have e1:n*n*(z*z*z)=n*n*z*z*z:=φ
  exact Int.natAbs_dvd_natAbs.2 ⟨N,by rw [e1,hi];grind⟩
 have e:=Nat.dvd_antisymm d1 d2;have p1:0<=z*z*z:=Int.mul_nonneg (Int.mul_nonneg ω ω) ω;have p2:0<=d*d:=Int.mul_nonneg ω ω;omega
theorem Ek {z N:Int} (hz:0<z) (h:z*z ∣ N) (hN:0<N) (Wp:N<=1023):∃ m:Nat,m<32/\z=m/\m*m ∣ N.toNat:=by
 obtain ⟨m,rfl⟩:=Int.eq_ofNat_of_zero_le (Int.le_of_lt hz);obtain ⟨M,rfl⟩:=Int.eq_ofNat_of_zero_le (Int.le_of_lt hN)
 have hd:m*m ∣ M:=by exact_mod_cast h
 refine ⟨m,?_,rfl,by simpa using hd⟩;have hle:=Nat.le_of_dvd ω hd
 rcases Nat.lt_or_ge m 32 with q | q
 ·exact q
 have:=Nat.mul_le_mul q q;omega
theorem GD {a b:Int} (hd:aN a b≠0) {P:r_} (h:On a b P) (hz:pz P≠0) {k m:Nat} (hk:k=1∨k=2∨k=3∨k=5) (hm:mul a m P=O) (hs:2 ^ k+1=m∨2 ^ k=m+1):pz P=1:=by
 have hdb:K6 (a:Rat) k P=P∨K6 (a:Rat) k P=neg P:=by
  rw [yj (dP hd) h]
  rcases hs with hs | hs
  ·refine Or.inr (Ij (dP hd) (lk (dP hd) h _) h ?_)
   have:=gl (dP hd) h (2 ^ k) 1;rw [hs,hm] at this;exact this.symm
  refine Or.inl ?_;rw [hs,gl (dP hd) h m 1,hm];rfl
 have hx:px (K6 (a:Rat) k P)=px P/\pz (K6 (a:Rat) k P)=pz P:=by
  rcases hdb with e | e <;> rw [e]
  ·exact ⟨rfl,rfl⟩
  exact ⟨I4 P,I5 P⟩
 have hdv:=CY hd h hz hx.1 hx.2;have hnn:=EJ P;obtain ⟨d,hcu⟩:=GS h hz
 have h3:pz P≠3:=fun e=>by
  rw [e] at hcu
  have h1:d*d=27:=ω
  rcases Int.lt_or_le d 6 with q | q
  ·rcases Int.lt_or_le (-6) d with q2 | q2
   ·have:=aH (x:=d) (y:=d) (m:=5) (n:=5)
    omega
   have:=Int.mul_le_mul (show 6<=-d by omega) (show 6<=-d by omega) δ ω;rw [Int.neg_mul_neg] at this;omega
  have:=Int.mul_le_mul q q δ ω;omega
 generalize pz P=z at *
 have key:∀ N:Nat,0<N->N<=1023->z*z ∣ (N:Int)->(∀ m:Nat,m<32->m*m ∣ N->m=1∨m=3∨m=0)->z=1:=fun N h1 h2 h4 h5=>by
  obtain ⟨m,hm,rfl,hd⟩:=Ek ω h4 ω ω
  rcases h5 m hm (by simpa using hd) with e | e | e <;> omega
 rcases hk with rfl | rfl | rfl | rfl
 ·exact key 3 δ δ hdv δ
 ·exact key 15 δ δ hdv δ
 ·exact key 63 δ δ hdv δ
 exact key 1023 δ δ hdv δ
theorem Hd {P:r_} (h:P≠O):pz P≠0:=fun h0=>h (zW h0)
theorem AG {a b:Int} (hd:aN a b≠0):∀ n:Nat,1<=n->n<=12->∀ P:r_,On a b P->mul a n P=O->P=O∨pz P=1:=by
 have half:∀ m:Nat,(∀ P:r_,On a b P->mul a m P=O->P=O∨pz P=1)->∀ P:r_,On a b P->mul a (m+m) P=O->P=O∨pz P=1:=fun m ih P h hm=>by
  by_cases hO:P=O
  ·exact Or.inl hO
  refine Or.inr (DV hd h (Hd hO) ?_);rw [←tn (dP hd) h] at hm
  rcases ih _ (eS (dP hd) h h) hm with e | e
  ·rw [e];exact Or.inl rfl
  exact Or.inr e
 have odd:∀ k m:Nat,(k=1∨k=2∨k=3∨k=5)->(2 ^ k+1=m∨2 ^ k=m+1)->∀ P:r_,On a b P->mul a m P=O->P=O∨pz P=1:=fun k m hk hs P h hm=>by
  by_cases hO:P=O
  ·exact Or.inl hO
  exact Or.inr (GD hd h (Hd hO) hk hm hs)
 have h1:∀ P:r_,On a b P->mul a 1 P=O->P=O∨pz P=1:=fun P _ h=>Or.inl h
 have h2:=half 1 h1;have h3:=odd 1 3 δ δ;have h4:=half 2 h2;have h5:=odd 2 5 δ δ;have h6:=half 3 h3;have h7:=odd 3 7 δ δ;have h8:=half 4 h4;have h9:=odd 3 9 δ δ;have h10:=half 5 h5
 have h11:∀ P:r_,On a b P->mul a 11 P=O->P=O∨pz P=1:=fun P h hm=>odd 5 33 δ δ P h (vX (dP hd) h hm 3)
 have h12:=half 6 h6;intro n hn1 hn2
 match n,hn1,hn2 with
 | 1,_,_=>exact h1
 | 2,_,_=>exact h2
 | 3,_,_=>exact h3
 | 4,_,_=>exact h4
 | 5,_,_=>exact h5
 | 6,_,_=>exact h6
 | 7,_,_=>exact h7
 | 8,_,_=>exact h8
 | 9,_,_=>exact h9
 | 10,_,_=>exact h10
 | 11,_,_=>exact h11
 | 12,_,_=>exact h12
end r_
end M
end
section
open Go.RowKit open Gr M Rg Rw Wh
namespace M
noncomputable def gw (a b X Y E:Int):Bool:=good a b && aV a b X Y E
theorem lc {a b X Y E:Int} (h:gw a b X Y E=true):good a b=true/\aV a b X Y E=true:=by
 unfold gw at h
 rwa [Bool.and_eq_true] at h
noncomputable def cI (a b X Y E:Int):Sp:=gd (gw a b X Y E) (bU a b X E)
noncomputable def uj (a b X Y E:Int):Int:=pick (cI a b X Y E).isSome (bN a b X E:Nat)
theorem Jn (s:Sp):gd false s=none:=rfl
theorem nt {a b X Y E:Int} (hg:good a b=true) (hp:aV a b X Y E=true):LR (bU a b X E):=by
 obtain ⟨p1,p2,p3,p4,-,-⟩:=df (ae hg) hp;exact fg (ae hg) p1 p2 p3 p4
end M
namespace M
theorem rY {a b X Y E:Int} (hg:good a b=true) (h:aV a b X Y E=true):Lm a b X E=true:=by
 have hs:=dR hg h;unfold bU at hs
 cases hb:Lm a b X E with
 | true=>rfl
 | false=>rw [hb] at hs;simp at hs
end M
theorem nY (a b X Y E:Int) (w:World) :
  cB 22 #[.agg #[a,b],.agg #[X,Y,E]] w (.tuple #[.agg #[M.Kc (cI a b X Y E),M.Kf (cI a b X Y E),M.Kg (cI a b X Y E),M.Kh (cI a b X Y E)],uj a b X Y E,.bool (cI a b X Y E).isSome]):=by
 have PT:∀ W,cB 50 #[.agg #[a,b],.agg #[X,Y,E]] W (gw a b X Y E):=fun W=>kh a b X Y E W
 unfold cI uj cI;obtain ⟨wc,hw3,C,Q,R,B⟩:=dF w #[a,b] 24 #[X,Y,E] 47 #[(0:Int),(0:Int),(0:Int),(0:Int)] 34;have f_:=C.box.c0;have j_:=C.box.c1;have ⟨q0,q1,q2⟩:=Q.aM
 cases h0:gw a b X Y E with
 | false=>
  simp only [h0,Bool.true_and,Bool.false_and,Bool.and_false] at PT ⊢;replace PT:=KO PT;rw [Jn];go_enter func22,ntmps22
  go_wp2_with (first | (with_reducible refine G_ PT fun w4 hb4=>?_;replace ⟨B,C,Q,R⟩:=Kl hb4 B C Q R;have f_:=C.box.c0;have j_:=C.box.c1;(have ⟨q0,q1,q2⟩:=Q.aM);(have ⟨r0,r1,r2,r3,z0,z1,z2,z3,rl⟩:=R.aI)))
  exact KU results22 ⟨rfl,Lv B⟩
 | true=>
 simp only [h0,Bool.true_and,Bool.and_self] at PT ⊢;simp only [mQ];replace PT:=KO PT;obtain ⟨hg,hp1⟩:=lc h0;obtain ⟨p1,p2,p3,p4,-,-⟩:=df (ae hg) hp1
 have PR:=fun W=>mG a b X Y E W hg p1 p2 p3 p4
 have ht:=rY hg hp1;have hS:=dR hg hp1;have hok:M.LR (bU a b X E):=nt hg hp1;clear h0 hg hp1 p1 p2 p3 p4;have hsp:aJ (M.bL a b X E (M.bN a b X E)) (M.bH a b X E (M.bN a b X E))=true:=ht;rw [hS];rw [ht] at PR;clear ht hS hok;generalize M.bH a b X E (M.bN a b X E)=hi,M.bL a b X E (M.bN a b X E)=lo at *;generalize ((M.bN a b X E:Nat):Int)=kk at *
 have hin:M.Kc (some (lo,hi))=M.pn lo/\M.Kf (some (lo,hi))=M.pd lo/\M.Kg (some (lo,hi))=M.pn hi/\M.Kh (some (lo,hi))=M.pd hi:=⟨rfl,rfl,rfl,rfl⟩
 obtain ⟨y1,y2,y3,y4⟩:=hin;rw [y1,y2,y3,y4,show (some (lo,hi)).isSome=true from rfl,fH];clear y1 y2 y3 y4
 have PI:=fun W=>jD lo hi true W
 rw [hsp] at PI;simp only [Bool.and_self,fH] at PI;clear hsp;generalize M.pd hi=i4,M.pn hi=i3,M.pd lo=i2,M.pn lo=i1 at *;replace PR:=KO PR;replace PI:=KO PI;go_enter func22,ntmps22
 go_wp2_with (first | (with_reducible refine G_ PT fun w4 hb4=>?_;replace ⟨B,C,Q,R⟩:=Kl hb4 B C Q R;have f_:=C.box.c0;have j_:=C.box.c1;(have ⟨q0,q1,q2⟩:=Q.aM);(have ⟨r0,r1,r2,r3,z0,z1,z2,z3,rl⟩:=R.aI)) | (with_reducible refine G_ PR fun w7 KY=>?_;replace ⟨B,C,Q,R⟩:=Kl KY B C Q R;have f_:=C.box.c0;have j_:=C.box.c1;(have ⟨q0,q1,q2⟩:=Q.aM);(have ⟨r0,r1,r2,r3,z0,z1,z2,z3,rl⟩:=R.aI);have B0:=B;have XM:=B.size;replace B:=B.alloc XM (.cells #[lo,hi] 72);replace R:=R.alloc (.cells #[lo,hi] 72);have V:=aG.new w7 #[lo,hi] 72;(have ⟨r0,r1,r2,r3,z0,z1,z2,z3,rl⟩:=R.aI);(have ⟨v0,v1,_,_,_⟩:=V.box)) | (with_reducible refine G_ PI fun w8 Ko=>?_;replace ⟨B,R⟩:=Kt Ko B R;(have ⟨r0,r1,r2,r3,z0,z1,z2,z3,rl⟩:=R.aI);have B0:=B;have SV:=B.size;replace B:=B.alloc SV (.cells #[i1,i2,i3,i4] 34);replace R:=R.alloc (.cells #[i1,i2,i3,i4] 34);have I:=aG.new w8 #[i1,i2,i3,i4] 34;(have ⟨r0,r1,r2,r3,z0,z1,z2,z3,rl⟩:=R.aI);(have ⟨n0,n1,n2,n3,m0,m1,m2,m3,ml⟩:=I.aI)))
 exact KU results22 ⟨rfl,(KR (KR (KR (KR (B0) (by dsimp only;omega) _) (by dsimp only;omega) _) (by dsimp only;omega) _) (by dsimp only;omega) _).alloc (by simp only [aO];exact SV) _⟩
theorem oO (a b X Y E:Int) (w:World) :
  cB 23 #[.agg #[a,b],.agg #[X,Y,E]] w (.tuple #[.agg #[M.Kc (cI a b X Y E),M.Kf (cI a b X Y E),M.Kg (cI a b X Y E),M.Kh (cI a b X Y E)],uj a b X Y E,.bool (cI a b X Y E).isSome]):=by
 have PT:∀ W,cB 52 #[.agg #[a,b],.agg #[X,Y,E]] W (gw a b X Y E):=fun W=>jb a b X Y E W
 unfold cI uj cI;obtain ⟨wc,hw3,C,Q,R,B⟩:=dF w #[a,b] 24 #[X,Y,E] 47 #[(0:Int),(0:Int),(0:Int),(0:Int)] 34;have f_:=C.box.c0;have j_:=C.box.c1;have ⟨q0,q1,q2⟩:=Q.aM
 cases h0:gw a b X Y E with
 | false=>
  simp only [h0,Bool.true_and,Bool.false_and,Bool.and_false] at PT ⊢;replace PT:=KO PT;rw [Jn];go_enter func23,ntmps23
  go_wp2_with (first | (with_reducible refine G_ PT fun w4 hb4=>?_;replace ⟨B,C,Q,R⟩:=Kl hb4 B C Q R;have f_:=C.box.c0;have j_:=C.box.c1;(have ⟨q0,q1,q2⟩:=Q.aM);(have ⟨r0,r1,r2,r3,z0,z1,z2,z3,rl⟩:=R.aI)))
  exact KU results23 ⟨rfl,Lv B⟩
 | true=>
 simp only [h0,Bool.true_and,Bool.and_self] at PT ⊢;simp only [mQ];replace PT:=KO PT;obtain ⟨hg,hp1⟩:=lc h0;obtain ⟨p1,p2,p3,p4,-,-⟩:=df (ae hg) hp1
 have PR:=fun W=>ut a b X Y E W hg p1 p2 p3 p4
 have ht:=rY hg hp1;have hS:=dR hg hp1;have hok:M.LR (bU a b X E):=nt hg hp1;clear h0 hg hp1 p1 p2 p3 p4;have hsp:aJ (M.bL a b X E (M.bN a b X E)) (M.bH a b X E (M.bN a b X E))=true:=ht;rw [hS];rw [ht] at PR;clear ht hS hok;generalize M.bH a b X E (M.bN a b X E)=hi,M.bL a b X E (M.bN a b X E)=lo at *;generalize ((M.bN a b X E:Nat):Int)=kk at *
 have hin:M.Kc (some (lo,hi))=M.pn lo/\M.Kf (some (lo,hi))=M.pd lo/\M.Kg (some (lo,hi))=M.pn hi/\M.Kh (some (lo,hi))=M.pd hi:=⟨rfl,rfl,rfl,rfl⟩
 obtain ⟨y1,y2,y3,y4⟩:=hin;rw [y1,y2,y3,y4,show (some (lo,hi)).isSome=true from rfl,fH];clear y1 y2 y3 y4;simp only [fH] at PR;clear hsp;generalize M.pd hi=i4,M.pn hi=i3,M.pd lo=i2,M.pn lo=i1 at *;replace PR:=KO PR;go_enter func23,ntmps23
 go_wp2_with (first | (with_reducible refine G_ PT fun w4 hb4=>?_;replace ⟨B,C,Q,R⟩:=Kl hb4 B C Q R;have f_:=C.box.c0;have j_:=C.box.c1;(have ⟨q0,q1,q2⟩:=Q.aM);(have ⟨r0,r1,r2,r3,z0,z1,z2,z3,rl⟩:=R.aI)) | (with_reducible refine G_ PR fun w7 KY=>?_;replace ⟨B,R⟩:=Kt KY B R;(have ⟨r0,r1,r2,r3,z0,z1,z2,z3,rl⟩:=R.aI)))
 exact KU results23 ⟨rfl,Lv B⟩
theorem aG.rC {W:World} {g:Nat} {T:TypeId} {u v x:Value} (h:aG W g T #[u,v,x]) (a b c:Value):aG (((W.setCell ⟨g,0,none⟩ a).setCell ⟨g,1,none⟩ b).setCell ⟨g,2,none⟩ c) g T #[a,b,c]:=((h.set 0 a).set 1 b).set 2 c
theorem aG.bQ {W:World} {g:Nat} {T:TypeId} {u v x:Value} (h:aG W g T #[u,v,x]):W.cell? ⟨g,0,none⟩=some u/\W.cell? ⟨g,1,none⟩=some v/\W.cell? ⟨g,2,none⟩=some x/\W.frozen? ⟨g,0,none⟩=false/\W.frozen? ⟨g,1,none⟩=false/\W.frozen? ⟨g,2,none⟩=false:=⟨h.cell 0,h.cell 1,h.cell 2,h.Kx 0,h.Kx 1,h.Kx 2⟩
end
section
open Gr M Rg Rw Wh
namespace M
theorem HB.one {a b X Y E l h l' h':Int} (p:HB a b X Y E l h) (q:HB a b X Y E l' h'):l=l'/\h=h':=by
 have:=p.is.symm.trans q.is
 injection this with e
 injection e with e1 e2
 exact ⟨e1,e2⟩
end M
end
section
open Go.RowKit open Gr M Rg Rw Wh
theorem Z3 {p:Prop} (h:p:=by
 rcases Int.lt_or_le 0 n with q | q
 ·exact q
 have:=Int.mul_nonpos_of_nonpos_of_nonneg q (show 0<=t by omega);omega):p:=h
namespace M
theorem Hb {x:Int} (h1:-409600000<=x) (h2:x<=409600000):(1<=pd x/\pd x<=4096)/\(-1000000000<=pn x/\pn x<=1000000000)/\((0<pn x ↔ 0<x)/\(pn x<0 ↔ x<0)):=by
 obtain ⟨-,h3,h4,h5,h6,h7,h8,h9,h10⟩:=iF (bC h1 h2);refine ⟨⟨h3,h4⟩,⟨h9,h10⟩,?_⟩;generalize pn x=n,4096 / pd x=t at *;subst h6;refine ⟨⟨fun h=>Int.mul_pos h ω,fun h=>?_⟩,⟨fun h=>Int.mul_neg_of_neg_of_pos h ω,fun h=>?_⟩⟩
 ·exact Z3
 rcases Int.lt_or_le n 0 with q | q
 ·exact q
 have:=Int.mul_nonneg q (show 0<=t by omega);omega
end M
theorem EK (n1 d1 n2 d2:Int) (w:World) (h1:-1000000000<=n1) (h2:n1<=1000000000) (h3:0<=d1) (h4:d1<=4096) (h5:-1000000000<=n2) (h6:n2<=1000000000) (h7:0<=d2) (h8:d2<=4096) :
  cB 24 #[.agg #[n1,d1],.agg #[n2,d2]] w (decide (n1*d2<n2*d1)):=by
 have s1:=aH (x:=n1) (y:=d2) (m:=1000000000) (n:=4096);have s2:=aH (x:=n2) (y:=d1) (m:=1000000000) (n:=4096);generalize hp:n1*d2=p at *;generalize hq:n2*d1=q at *;obtain ⟨wc,hw3,C,D,B⟩:=dQ w #[n1,d1] 32 #[n2,d2] 32;have ⟨k0,k1,_,_,_⟩:=C.box;have ⟨k2,k3,_,_,_⟩:=D.box;go_enter func24,ntmps24
 go_wp2;exact KU results24 ⟨rfl,B⟩
theorem zY (x y:Int) (w:World) (h1:-409600000<=x) (h2:x<=409600000) (h3:-409600000<=y) (h4:y<=409600000) :
  cB 24 #[.agg #[M.pn x,M.pd x],.agg #[M.pn y,M.pd y]] w (decide (x<y)):=by
 obtain ⟨⟨a1,a2⟩,⟨a3,a4⟩,-⟩:=Hb h1 h2;obtain ⟨⟨b1,b2⟩,⟨b3,b4⟩,-⟩:=Hb h3 h4;have H:=EK (M.pn x) (M.pd x) (M.pn y) (M.pd y) w a3 a4 ω a2 b3 b4 ω b2
 have e:decide (M.pn x*M.pd y<M.pn y*M.pd x)=decide (x<y):=by simp only [J2 h1 h2 h3 h4]
 rwa [e] at H
end
section
open Go Go.RowKit open M Rg
theorem Um {p:Prop} (h:p:=by
 by_cases hik:i=k
 ·subst hik
  have:dH vals i v i=v:=if_pos rfl;rw [this];exact hvk n1
 rw [hko i hik] at hi;have:dH vals k v i=vals i:=if_neg hik;rw [this];exact hv i n1 hi):p:=h
theorem Zf {p:Prop} (h:p:=by intro l vals w' hl hI;obtain ⟨h1,h2⟩:=hI;rw [cl l C (fun c hc=>hl c (hcl c hc))] at h1;exact hF vals w' h1 (fun i hi n1=>h2 i n1 (hl i hi))):p:=h
namespace Rg
variable {P:Program} {Q:Exit->Act->World->Prop}
section
variable (P) (Q) (ops:Array Oper) (a0:Act) (T:List Value) (J:Nat->World->Prop) (C:List Nat)
def yP (o:Oper) (a:Act) (t:Nat):Prop:=
 match o.after.toList.find? (fun e=>Region.binds .any e && ((ops[e.on]?).bind (·.dst)) == some t) with
 | some e=>if e.on ∈ C then True else a.tmps[t]?=some (T.getD e.on undef)
 | none=>a.tmps[t]?=a0.tmps[t]?
def cF (k:Nat) (o:Oper):Prop:=
 if k ∈ C then ∀ (a:Act) (w:World),J (C.idxOf k) w->(∀ t ∈ o.looksAt ops,yP ops a0 T C o a t)->Region.wanted o (yielded ops a.tmps)=true/\o.wp P a w (fun a' w'=>(∃ v,a'=a.put o.dst v)/\J (C.idxOf k+1) w') Q
 else ∀ (a:Act) (w:World) (n:Nat),n<=C.length->J n w->(∀ t ∈ o.looksAt ops,yP ops a0 T C o a t)->Region.wanted o (yielded ops a.tmps)=true/\(execOp a.eval o).run P w=.ok (.value (T.getD k undef)) w
def CF:List Oper->Nat->Prop
 | [],_=>True
 | o :: os,k=>cF P Q ops a0 T J C k o/\CF os (k+1)
def JS (l:Nat->Bool) (vals:Nat->Value) (w:World):Prop:=
 J (cnt l C) w/\∀ i,i ∉ C->l i=true->vals i=T.getD i undef
end
theorem lW {l:Nat->Bool}:∀ C:List Nat,cnt l C<=C.length
 | []=>KT _
 | c :: cs=>by
  unfold cnt;have:=lW (l:=l) cs
  split
  ·simp only [List.length_cons];omega
  omega
theorem ET {ops:Array Oper} {a0:Act} {T:List Value} {J:Nat->World->Prop} {C:List Nat} (hC:fC ops C=true) :
  ∀ (os:List Oper) (k:Nat),(∀ i,os[i]?=ops[k+i]?)->CF P Q ops a0 T J C os k->jg P Q .any ops (JS T J C) a0 os k
 | [],_,_,_=>trivial
 | o :: os,k,hos,h=>by
  refine ⟨fun a w l vals hI hl hc Lf hr=>?_,ET hC os (k+1) (fun i=>by rw [show k+1+i=k+(i+1) by omega,←hos (i+1)];rfl) h.2⟩;obtain ⟨hB,hv⟩:=hI;have ho:ops[k]?=some o:=(hos 0).symm
  have hQ:∀ t ∈ o.looksAt ops,yP ops a0 T C o a t:=fun t ht=>by
   have:=hr t ht;unfold rd at this;unfold yP
   split
   ·rename_i e he
    rw [he] at this;have h2:=List.find?_some he;rw [Bool.and_eq_true] at h2
    split
    ·trivial
    rename_i n1
    replace this:a.tmps[t]?=some (vals e.on):=this;rw [this,hv _ n1 (Lf e (Array.mem_toList_iff.1 (List.mem_of_find?_eq_some he)) h2.1)]
   rename_i he
   rw [he] at this;exact this
  have hko:∀ j,j≠k->upd l k j=l j:=fun j hj=>if_neg hj
  have h1:=h.1;unfold cF at h1;unfold po
  have rest:∀ v,(k ∉ C->v=T.getD k undef)->∀ i,i ∉ C->upd l k i=true->dH vals k v i=T.getD i undef:=fun v hvk i n1 hi=>by
   exact Um
  by_cases e3:k ∈ C
  ·rw [if_pos e3] at h1
   obtain ⟨q1,q2⟩:=mI hc hl (fun c hcd=>ge ho Lf hcd) C hC e3;rw [q1] at hB;obtain ⟨hw,hwp⟩:=h1 a w hB hQ;rw [if_pos hw];refine Oper.wp_mono ?_ hwp;rintro a' w' ⟨⟨v,e⟩,h2⟩;exact ⟨v,e,by rw [q2];exact h2,rest v (fun h=>absurd e3 h)⟩
  rw [if_neg e3] at h1;obtain ⟨hw,hwp⟩:=h1 a w _ (lW C) hB hQ;rw [if_pos hw];unfold Oper.wp;rw [hwp];exact ⟨_,rfl,by rw [iq C e3];exact hB,rest _ (fun _=>rfl)⟩
theorem Hp {id:Nat} {ops:Array Oper} {a0:Act} {w:World} (J:Nat->World->Prop) (C:List Nat) (T:List Value)
  (hm:P.follows .mixedOrders=true) (hok:eo .any ops a0.tmps.size=true) (hC:fC ops C=true) (hcl:∀ c ∈ C,c<ops.size) (h0:J 0 { w with drawn:=w.drawn+1 })
  (hR:CF P Q ops a0 T J C ops.toList 0)
  (hF:∀ (vals:Nat->Value) (w':World),J C.length w'->(∀ i,i<ops.size->i ∉ C->vals i=T.getD i undef)->Q .normal (fill (fun _=>true) vals ops.toList 0 a0) w'):(Code.region id ops true).wp P Q a0 w:=by
 have c0:∀ C:List Nat,cnt (fun _=>false) C=0:=fun C=>by cases C <;> rfl
 have cl:∀ (l:Nat->Bool) (C:List Nat),(∀ c ∈ C,l c=true)->cnt l C=C.length:=fun l C=>by
  exact Up
 refine mf (JS T J C) hm hok (fun vals=>⟨?_,(fun _ _ h=>absurd h σ)⟩) (ET hC ops.toList 0 (fun i=>by rw [Nat.zero_add];exact Array.getElem?_toList) hR) ?_
 ·rw [c0]
  exact h0
 exact Zf
end Rg
end
section
open Go Go.RowKit open Gr M Rg Rw Wh
namespace Rg
variable {P:Program} {Q:Exit->Act->World->Prop}
section
variable (P) (Q) (ops:Array Oper) (a0:Act) (T:List Val) (w1:World) (ka ks:Nat) (Tn:TypeId) (xs ys:Array Value)
def aY (k:Nat) (o:Oper):Prop:=
 if k=ka then ∀ (a:Act) (w:World),Region.wanted o (yielded ops a.tmps)=true/\o.wp P a w (fun a' w'=>a'=a.put o.dst (.pointer (some ⟨w,0,none⟩))/\w'=w.alloc (.cells xs Tn)) Q
 else if k=ks then ∀ (a:Act) (w:World) (h:Nat),w1.heap.size<=h->aG w h Tn xs->(∀ t ∈ o.looksAt ops,yO ops a0 T ka ks h o a w t)->Region.wanted o (yielded ops a.tmps)=true/\o.wp P a w (fun a' w'=>(∃ v,a'=a.put o.dst v)/\aG w' h Tn ys/\Below w1 w w') Q
 else ∀ (a:Act) (w:World),Below w1 w1 w->(∀ t ∈ o.looksAt ops,ph ops a0 T ka ks o a w t)->Does P ops Q (LS T k) o a w
def CD:List Oper->Nat->Prop
 | [],_=>True
 | o :: os,k=>aY P Q ops a0 T w1 ka ks Tn xs ys k o/\CD os (k+1)
def Hw (l:Nat->Bool) (vals:Nat->Value) (w:World):Prop:=
 Below w1 w1 w/\(∀ i,i≠ka->i≠ks->l i=true->(LS T i).ok (vals i) w)/\(l ka=true->∃ h,w1.heap.size<=h/\vals ka=.pointer (some ⟨h,0,none⟩)/\aG w h Tn (if l ks=true then ys else xs))
end
theorem EQ {ops:Array Oper} {a0:Act} {T:List Val} {w1:World} {ka ks:Nat} {Tn:TypeId} {xs ys:Array Value}
  (hp:∀ j,j≠ka->j≠ks->(LS T j).pure=true) (hne:ka≠ks) (hE:iM ops ka ks=true) :
  ∀ (os:List Oper) (k:Nat),(∀ i,os[i]?=ops[k+i]?)->CD P Q ops a0 T w1 ka ks Tn xs ys os k->jg P Q .any ops (Hw T w1 ka ks Tn xs ys) a0 os k
 | [],_,_,_=>trivial
 | o :: os,k,hos,h=>by
  refine ⟨fun a w l vals hI hl hc Lf hr=>?_,EQ hp hne hE os (k+1) (fun i=>by rw [show k+1+i=k+(i+1) by omega,←hos (i+1)];rfl) h.2⟩;obtain ⟨hB,hv,hn⟩:=hI;have ho:ops[k]?=some o:=(hos 0).symm;have hsz:w1.heap.size<=w.heap.size:=hB.size
  have hQ:∀ t ∈ o.looksAt ops,ph ops a0 T ka ks o a w t:=fun t ht=>by
   have:=hr t ht;unfold rd at this;unfold ph
   split
   ·rename_i e he
    rw [he] at this;have h2:=List.find?_some he;rw [Bool.and_eq_true] at h2
    split
    ·trivial
    exact YR
   rename_i he
   rw [he] at this;exact this
  have hko:∀ j,j≠k->upd l k j=l j:=fun j hj=>if_neg hj
  have hkk:upd l k k=true:=if_pos rfl;have h1:=h.1;unfold aY at h1;unfold po
  by_cases e1:k=ka
  ·rw [if_pos e1] at h1
   obtain ⟨hw,hwp⟩:=h1 a w;rw [if_pos hw];refine Oper.wp_mono ?_ hwp;rintro a' w' ⟨rfl,rfl⟩;subst e1
   have hls:l ks=false:=by
    cases q:l ks
    ·rfl
    rw [dN hc hE q] at hl;cases hl
   refine ⟨_,rfl,?_,?_,fun _=>⟨w,hsz,if_pos rfl,?_⟩⟩
   ·exact hB.alloc hsz _
   ·intro i n1 n2 hi
    rw [hko i n1] at hi;have:dH vals k (.pointer (some ⟨w,0,none⟩)) i=vals i:=if_neg n1;exact Pj
   rw [hko ks (fun e=>hne e.symm),hls];exact aG.new w xs Tn
  rw [if_neg e1] at h1
  by_cases e2:k=ks
  ·rw [if_pos e2] at h1
   subst e2;obtain ⟨hh,Nv,Nw,hh3⟩:=hn (ge ho Lf hE);rw [hl] at hh3
   obtain ⟨hw,hwp⟩:=h1 a w hh Nv hh3 (fun t ht=>by
    exact YP)
   rw [if_pos hw];refine Oper.wp_mono ?_ hwp;rintro a' w' ⟨⟨v,e⟩,h2,h3⟩;refine ⟨v,e,?_,?_,fun _=>⟨hh,Nv,?_,?_⟩⟩
   ·exact hB.trans h3
   ·intro i n1 n2 hi
    rw [hko i n2] at hi;have:dH vals k v i=vals i:=if_neg n2;exact Pj
   ·have:dH vals k v ka=vals ka:=if_neg hne
    rw [this];exact Nw
   rw [hkk];exact h2
  rw [if_neg e2] at h1
  have rest:∀ (v:Value) (w':World),(LS T k).ok v w'->Below w w w'->Hw T w1 ka ks Tn xs ys (upd l k) (dH vals k v) w':=by
   intro v w' h2 h3;refine ⟨hB.trans (h3.mono hsz),?_,?_⟩
   ·intro i n1 n2 hi
    by_cases hik:i=k
    ·subst hik
     have:dH vals i v i=v:=if_pos rfl;rw [this];exact h2
    rw [hko i hik] at hi;have:dH vals k v i=vals i:=if_neg hik;exact Pj
   intro hi;rw [hko ka (fun e=>e1 e.symm)] at hi;obtain ⟨hh,Nv,Nw,hh3⟩:=hn hi;refine ⟨hh,Nv,?_,?_⟩
   ·have:dH vals k v ka=vals ka:=if_neg (fun e=>e1 e.symm)
    rw [this];exact Nw
   rw [hko ks (fun e=>e2 e.symm)];exact hh3.keep h3
  have hd:=h1 a w hB hQ;unfold Does at hd
  split
  ·rename_i hw
   rw [if_pos hw] at hd;refine Oper.wp_mono ?_ hd;rintro a' w' ⟨v,e,h2,h3⟩;exact ⟨v,e,rest v w' h2 h3⟩
  rename_i hw
  rw [if_neg hw] at hd;exact rest undef w hd (KS _ _)
theorem AK {id:Nat} {ops:Array Oper} {a0:Act} {w:World} (ka ks:Nat) (Tn:TypeId) (xs ys:Array Value) (T:List Val)
  (hm:P.follows .mixedOrders=true) (hok:eo .any ops a0.tmps.size=true) (hC:(iM ops ka ks && decide (ka<ops.size) && decide (ks<ops.size))=true)
  (hp:∀ j,j≠ka->j≠ks->(LS T j).pure=true) (hne:ka≠ks)
  (hR:CD P Q ops a0 T w ka ks Tn xs ys ops.toList 0)
  (hF:∀ (vals:Nat->Value) (w':World) (h:Nat),w.heap.size<=h->aG w' h Tn ys->vals ka=.pointer (some ⟨h,0,none⟩)->Below w w w'->(∀ i,i<ops.size->i≠ka->i≠ks->(LS T i).ok (vals i) w')->Q .normal (fill (fun _=>true) vals ops.toList 0 a0) w'):(Code.region id ops true).wp P Q a0 w:=by
 rw [Bool.and_eq_true,Bool.and_eq_true,decide_eq_true_eq,decide_eq_true_eq] at hC;obtain ⟨⟨hE,ha⟩,hs⟩:=hC;refine mf (Hw T w ka ks Tn xs ys) hm hok (fun vals=>⟨?_,(fun _ _ _ h=>absurd h σ),(fun h=>absurd h σ)⟩) (EQ hp hne hE ops.toList 0 (fun i=>by rw [Nat.zero_add];exact Array.getElem?_toList) hR) ?_
 ·exact (KS _ w).drew
 intro l vals w' hl hI;obtain ⟨h1,h2,h3⟩:=hI;obtain ⟨h,q1,q2,q3⟩:=h3 (hl ka ha);rw [hl ks hs,if_pos rfl] at q3;exact hF vals w' h q1 q3 q2 h1 (fun i hi n1 n2=>h2 i n1 n2 (hl i hi))
end Rg
end
section
open Go.RowKit open Gr M Rg Rw Wh
theorem Ei (lo hi:Int) (w:World) (h:aJ lo hi=true) :
  cB 54 #[.agg #[M.pn lo,M.pd lo,M.pn hi,M.pd hi]] w (.tuple #[.agg #[lo,hi],true]):=by
 obtain ⟨ab,a1,b1⟩:=bM h;obtain ⟨hk1,d1,d2,hm1,hp1,g1,g2,n1,n2⟩:=iF (bC (a:=lo) ω ω);obtain ⟨hk2,e1,e2,hm2,hp2,g3,g4,n3,n4⟩:=iF (bC (a:=hi) ω ω)
 have P1:=fun W=>jE (M.pn lo) (M.pd lo) W
 have P2:=fun W=>jE (M.pn hi) (M.pd hi) W
 rw [hk1] at P1;rw [hk2] at P2
 have PV:=fun W=>my lo hi W
 rw [h] at PV;replace PV:=KO PV;clear h;generalize M.pd hi=y2,M.pn hi=x2,M.pd lo=y1,M.pn lo=x1 at *
 have hy1:¬ y1=0:=ω
 have hy2:¬ y2=0:=ω
 have ht1:(4096:Int).tmod y1=0:=by rw [Int.tmod_eq_emod_of_nonneg ω];exact hm1
 have ht2:(4096:Int).tmod y2=0:=by rw [Int.tmod_eq_emod_of_nonneg ω];exact hm2
 have hq1:(4096:Int).tdiv y1=4096 / y1:=Int.tdiv_eq_ediv_of_nonneg ω;have hq2:(4096:Int).tdiv y2=4096 / y2:=Int.tdiv_eq_ediv_of_nonneg ω;generalize 4096 / y2=t2,4096 / y1=t1 at *;replace P1:=KO P1;replace P2:=KO P2;clear hk1 hk2 hm1 hm2;obtain ⟨wc,hw3,C,R2,B⟩:=dQ w #[x1,y1,x2,y2] 34 #[(0:Int),(0:Int)] 72;have ⟨r0,r1,r2,r3,_,_,_,_,_⟩:=C.aI;go_enter func54,ntmps54
 go_upto_region 3 with (first | (with_reducible refine G_ P1 fun w4 hb4=>?_;replace ⟨B,C,R2⟩:=Ky hb4 B C R2;(have ⟨r0,r1,r2,r3,_,_,_,_,_⟩:=C.aI);(have ⟨s0,s1,Vo,Vp,rl⟩:=R2.box)) | (with_reducible refine G_ P2 fun w5 hb5=>?_;replace ⟨B,C,R2⟩:=Ky hb5 B C R2;(have ⟨r0,r1,r2,r3,_,_,_,_,_⟩:=C.aI);(have ⟨s0,s1,Vo,Vp,rl⟩:=R2.box)))
 refine be 18 [.is (.pointer (some ⟨w,0,none⟩)),.is (.pointer (some ⟨w,0,none⟩)),.is x1,.is (.pointer (some ⟨w,0,none⟩)),.is (.pointer (some ⟨w,1,none⟩)),.is y1,.is t1,.is lo,.is (.pointer (some ⟨w,2,none⟩)),.is (.pointer (some ⟨w,2,none⟩)),.is x2,.is (.pointer (some ⟨w,2,none⟩)),.is (.pointer (some ⟨w,3,none⟩)),.is y2,.is t2,.is hi,.is (.agg #[lo,hi]),.new (w5.heap.size) 72 #[(0:Int),(0:Int)]] κ κ κ ⟨?_,?_,?_,?_,?_,?_,?_,?_,?_,?_,?_,?_,?_,?_,?_,?_,?_,?_,fun h_=>absurd h_ δ,trivial⟩ ?_
 all_goals try ((first | (refine Rg.b1 ?_;intro zZ w_ hB e) | (refine Rg.b2 ?_;intro zZ w_ hB e f));have kz:=aE hB r0;have kz:=aE hB r1;have ec:=Rg.ec zZ;have kz:=aE hB r2;have kz:=aE hB r3;(first | (go_simp;done) | (go_simp;exact Rg.wo ω) | (first | (go_simp;done) | (go_simp;rfl);done)))
 ·exact M4
 intro vals wh hB hv hne;have n4:(Rg.Val.new (w5.heap.size) 72 #[(0:Int),(0:Int)]).ok (vals 17) wh:=hv 17 δ;have Nl:vals 16=.agg #[lo,hi]:=hv 16 δ;simp only [bD,Rg.fill,Act.put,Nat.reduceAdd];clear hv;obtain ⟨g4,hg4,Xu,o4⟩:=n4;replace o4:aG wh g4 72 #[(0:Int),(0:Int)]:=o4;simp only [Xu,Nl];clear Xu Nl;have ⟨WV,WW,Wb,Wc,_⟩:=o4.box;unfold aU aU Oper.wp;go_simp
 have hB2:Below w5 w5 ((wh.setCell ⟨g4,0,none⟩ (.int .i64 lo)).setCell ⟨g4,1,none⟩ (.int .i64 hi)):=KR (KR hB hg4 _) hg4 _;have T:=aG.set2 o4 (.int .i64 lo) (.int .i64 hi);generalize ((wh.setCell ⟨g4,0,none⟩ (.int .i64 lo)).setCell ⟨g4,1,none⟩ (.int .i64 hi))=wi at *;clear WV WW Wb Wc o4 hB hne r0 r1 r2 r3 s0 s1 Vo Vp;replace ⟨B,R2⟩:=Kt hB2 B R2;clear hB2;have ⟨Qx,MH,_,_,_⟩:=T.box;have ⟨s0,s1,Vo,Vp,_⟩:=R2.box
 go_upto_region 4 with fail
 refine be 3 [.is (.agg #[lo,hi]),.is (.agg #[lo,hi]),.is true] κ κ κ ⟨?_,?_,?_,fun h_=>absurd h_ δ,fun h_=>absurd h_ δ,trivial⟩ ?_
 all_goals try ((refine Rg.b1 ?_;intro zZ w_ hB e);have kz:=aE hB Qx;have kz:=aE hB MH;(go_simp;done))
 ·refine Rg.o1 ?_;intro zZ w_ hB e
  have ef:=Rg.ef zZ;exact bO rfl γ (PV.out _)
 intro vals wj hB hv hne;have v_0:vals 0=.agg #[lo,hi]:=hv 0 δ;have Xv:vals 2=.bool true:=hv 2 δ;simp only [bD,Rg.fill,Act.put,Nat.reduceAdd];clear hv;simp only [v_0,Xv];clear v_0 Xv;replace ⟨B,R2⟩:=Kt hB B R2;have ⟨s2,s3,zf2,zf3,_⟩:=R2.box;clear hne hB;unfold aU aU aU Oper.wp;go_simp
 go_wp2;exact KU results54 ⟨rfl,Pf B⟩
end
section
open Go Go.RowKit open M Rg
theorem YV {p:Prop} (h:p:=by
 have:=hr t ht;unfold rd at this;unfold oX
 split
 ·rename_i e he
  rw [he] at this;have h2:=List.find?_some he;rw [Bool.and_eq_true] at h2;replace this:a.tmps[t]?=some (vals e.on):=this
  split
  ·exact this
  rename_i n1
  rw [this,hv _ n1 (Lf e (Array.mem_toList_iff.1 (List.mem_of_find?_eq_some he)) h2.1)]
 rename_i he
 rw [he] at this;exact this):p:=h
namespace Rg
variable {P:Program} {Q:Exit->Act->World->Prop}
section
variable (P) (Q) (ops:Array Oper) (a0:Act) (T:List Value) (J:Nat->(Nat->Value)->World->Prop) (C:List Nat)
def oX (o:Oper) (a:Act) (vals:Nat->Value) (t:Nat):Prop:=
 match o.after.toList.find? (fun e=>Region.binds .any e && ((ops[e.on]?).bind (·.dst)) == some t) with
 | some e=>if e.on ∈ C then a.tmps[t]?=some (vals e.on) else a.tmps[t]?=some (T.getD e.on undef)
 | none=>a.tmps[t]?=a0.tmps[t]?
def aw (k:Nat) (o:Oper):Prop:=
 if k ∈ C then ∀ (a:Act) (w:World) (vals:Nat->Value),J (C.idxOf k) vals w->(∀ t ∈ o.looksAt ops,oX ops a0 T C o a vals t)->Region.wanted o (yielded ops a.tmps)=true/\o.wp P a w (fun a' w'=>∃ v,a'=a.put o.dst v/\J (C.idxOf k+1) (dH vals k v) w') Q
 else ∀ (a:Act) (w:World) (n:Nat) (vals:Nat->Value),(n<=C.length/\(∀ c,c ∈ C->iM ops k c=true->n<=C.idxOf c)/\∀ c,c ∈ C->iM ops c k=true->C.idxOf c<n)->J n vals w->(∀ t ∈ o.looksAt ops,oX ops a0 T C o a vals t)->Region.wanted o (yielded ops a.tmps)=true/\(execOp a.eval o).run P w=.ok (.value (T.getD k undef)) w
def CB:List Oper->Nat->Prop
 | [],_=>True
 | o :: os,k=>aw P Q ops a0 T J C k o/\CB os (k+1)
def JP (l:Nat->Bool) (vals:Nat->Value) (w:World):Prop:=
 J (cnt l C) vals w/\∀ i,i ∉ C->l i=true->vals i=T.getD i undef
end
theorem qF {l:Nat->Bool} {c:Nat} (hl:l c=false):∀ C:List Nat,c ∈ C->cnt l C<=C.idxOf c
 | [],h=>by cases h
 | d :: cs,h=>by
  by_cases hd:d=c
  ·subst hd
   unfold cnt;rw [hl];simp
  have hm:c ∈ cs:=by
   rcases List.mem_cons.1 h with e | e
   ·exact absurd e.symm hd
   exact e
  have:=qF hl cs hm
  have e2:(d == c)=false:=by rw [beq_eq_false_iff_ne];exact hd
  rw [List.idxOf_cons,e2];unfold cnt
  split
  ·simp only [cond_false];omega
  omega
theorem Ci {ops:Array Oper} {l:Nat->Bool} {c:Nat} (hc:pc .any ops l) (hl:l c=true):∀ C:List Nat,fC ops C=true->c ∈ C->C.idxOf c<cnt l C
 | [],_,h=>by cases h
 | [d],_,h=>by
  rcases List.mem_cons.1 h with rfl | h
  ·unfold cnt;rw [hl];simp [cnt]
  cases h
 | d :: e :: cs,ho,h=>by
  unfold fC at ho;rw [Bool.and_eq_true,Bool.and_eq_true,decide_eq_true_eq] at ho;obtain ⟨⟨he,-⟩,ho⟩:=ho
  by_cases hd:d=c
  ·subst hd
   unfold cnt;rw [hl];simp
  have hm:c ∈ e :: cs:=by
   rcases List.mem_cons.1 h with q | q
   ·exact absurd q.symm hd
   exact q
  have ih:=Ci hc hl (e :: cs) ho hm
  have hle:l e=true:=by
   cases q:l e
   ·exfalso
    have z:cnt l (e :: cs)=0:=by unfold cnt;rw [q];rfl
    omega
   rfl
  have hld:=dN hc he hle
  have e2:(d == c)=false:=by rw [beq_eq_false_iff_ne];exact hd
  rw [List.idxOf_cons,e2]
  have:cnt l (d :: e :: cs)=cnt l (e :: cs)+1:=by rw [cnt];rw [if_pos hld]
  rw [this];simp only [cond_false];omega
theorem EL {ops:Array Oper} {a0:Act} {T:List Value} {J:Nat->(Nat->Value)->World->Prop} {C:List Nat} (hC:fC ops C=true) (hJ:∀ n v v' w,(∀ i ∈ C,v i=v' i)->J n v w->J n v' w) :
  ∀ (os:List Oper) (k:Nat),(∀ i,os[i]?=ops[k+i]?)->CB P Q ops a0 T J C os k->jg P Q .any ops (JP T J C) a0 os k
 | [],_,_,_=>trivial
 | o :: os,k,hos,h=>by
  refine ⟨fun a w l vals hI hl hc Lf hr=>?_,EL hC hJ os (k+1) (fun i=>by rw [show k+1+i=k+(i+1) by omega,←hos (i+1)];rfl) h.2⟩;obtain ⟨hB,hv⟩:=hI;have ho:ops[k]?=some o:=(hos 0).symm
  have hQ:∀ t ∈ o.looksAt ops,oX ops a0 T C o a vals t:=fun t ht=>by
   exact YV
  have hko:∀ j,j≠k->upd l k j=l j:=fun j hj=>if_neg hj
  have h1:=h.1;unfold aw at h1;unfold po
  have rest:∀ v,(k ∉ C->v=T.getD k undef)->∀ i,i ∉ C->upd l k i=true->dH vals k v i=T.getD i undef:=fun v hvk i n1 hi=>by
   exact Um
  by_cases e3:k ∈ C
  ·rw [if_pos e3] at h1
   obtain ⟨q1,q2⟩:=mI hc hl (fun c hcd=>ge ho Lf hcd) C hC e3;rw [q1] at hB;obtain ⟨hw,hwp⟩:=h1 a w vals hB hQ;rw [if_pos hw];refine Oper.wp_mono ?_ hwp;rintro a' w' ⟨v,e,h2⟩;exact ⟨v,e,by rw [q2];exact h2,rest v (fun h=>absurd e3 h)⟩
  rw [if_neg e3] at h1
  have hup:∀ c,c ∈ C->iM ops k c=true->cnt l C<=C.idxOf c:=fun c hcm he=>by
   have hlc:l c=false:=by
    cases q:l c
    ·rfl
    rw [dN hc he q] at hl;cases hl
   exact qF hlc C hcm
  obtain ⟨hw,hwp⟩:=h1 a w _ vals ⟨lW C,hup,fun c hcm he=>Ci hc (ge ho Lf he) C hC hcm⟩ hB hQ;rw [if_pos hw];unfold Oper.wp;rw [hwp];refine ⟨_,rfl,?_,rest _ (fun _=>rfl)⟩;rw [iq C e3];refine hJ _ _ _ _ (fun i hi=>?_) hB
  have:i≠k:=fun e=>e3 (by rw [←e];exact hi)
  exact (if_neg this).symm
theorem AJ {id:Nat} {ops:Array Oper} {a0:Act} {w:World} (J:Nat->(Nat->Value)->World->Prop) (C:List Nat) (T:List Value)
  (hm:P.follows .mixedOrders=true) (hok:eo .any ops a0.tmps.size=true) (hC:fC ops C=true) (hcl:∀ c ∈ C,c<ops.size) (hJ:∀ n v v' w,(∀ i ∈ C,v i=v' i)->J n v w->J n v' w)
  (h0:∀ vals,J 0 vals { w with drawn:=w.drawn+1 })
  (hR:CB P Q ops a0 T J C ops.toList 0)
  (hF:∀ (vals:Nat->Value) (w':World),J C.length vals w'->(∀ i,i<ops.size->i ∉ C->vals i=T.getD i undef)->Q .normal (fill (fun _=>true) vals ops.toList 0 a0) w'):(Code.region id ops true).wp P Q a0 w:=by
 have c0:∀ C:List Nat,cnt (fun _=>false) C=0:=fun C=>by cases C <;> rfl
 have cl:∀ (l:Nat->Bool) (C:List Nat),(∀ c ∈ C,l c=true)->cnt l C=C.length:=fun l C=>by
  exact Up
 refine mf (JP T J C) hm hok (fun vals=>⟨?_,(fun _ _ h=>absurd h σ)⟩) (EL hC hJ ops.toList 0 (fun i=>by rw [Nat.zero_add];exact Array.getElem?_toList) hR) ?_
 ·rw [c0]
  exact h0 vals
 exact Zf
theorem gJ {o:Oper} {a:Act} {w w2:World} {x:Value} {K:Value->World->Prop} (h:(execOp a.eval o).run P w=.ok (.value x) w2) (hK:K x w2):o.wp P a w (fun a' w'=>∃ v,a'=a.put o.dst v/\K v w') Q:=by
 unfold Oper.wp;rw [h];exact ⟨x,rfl,hK⟩
theorem rP {o:Oper} {a:Act} {w:World} {ob:Obj} {x:Value} {K:Value->World->Prop} (h:(execOp a.eval o).run P w=.ok (.value x) (w.alloc ob)) (hK:K x (w.alloc ob)):o.wp P a w (fun a' w'=>∃ v,a'=a.put o.dst v/\K v w') Q:=gJ h hK
theorem jk {o:Oper} {a:Act} {w:World} {f:FuncId} {args:Array Value} {K:Value->World->Prop} (h:(execOp a.eval o).run P w=.ok (.enter f args) w) (hc:Calls P f args w fun e w'=>∃ v,e=.returned v/\K v w'):o.wp P a w (fun a' w'=>∃ v,a'=a.put o.dst v/\K v w') Q:=by
 unfold Oper.wp;rw [h];refine Calls.mono hc ?_;rintro e w' ⟨v,rfl,h1⟩;exact ⟨v,rfl,h1⟩
theorem ie {o:Oper} {a:Act} {w w2:World} {s x:Operand} {ts:TypeId} {v u v2:Value} (ho:o.op=.call { callee:=.builtin .append,args:=#[s,x],argTypes:=#[ts,ts] }) (hs:a.eval s=v) (hx:a.eval x=u) (h:(Builtin.append_ #[ts,ts] o.type #[v,u]).run P w=.ok v2 w2):(execOp a.eval o).run P w=.ok (.value v2) w2:=by
 unfold execOp;simp only [ho,resolve,invoke,builtin,Sem.run_bind,Sem.run_pure,Result.andThen_ok,List.map_toArray,List.map_cons,List.map_nil,hs,hx,h]
theorem ur (w:World) (xs:Array Value) (T:TypeId) (i:Nat) (u:Value) (h:xs[i]?=some u):(w.alloc (.cells xs T)).cell? ⟨w,i,none⟩=some u:=by
 rw [World.cell?_alloc_at _ _ _ _ rfl];exact h
end Rg
namespace Rg
variable {P:Program} {Q:Exit->Act->World->Prop}
section
variable (P) (Q) (ops:Array Oper) (a0:Act) (T:List Value) (J:(Nat->Bool)->(Nat->Value)->World->Prop) (C:List Nat)
def ck (k:Nat) (o:Oper):Prop:=
 ∀ (a:Act) (w:World) (l:Nat->Bool) (vals:Nat->Value),J l vals w->l k=false->(∀ c,iM ops k c=true->l c=false)->(∀ c,iM ops c k=true->l c=true)->(∀ c d,iM ops c d=true->l d=true->l c=true)->(∀ t ∈ o.looksAt ops,oX ops a0 T C o a vals t)->Region.wanted o (yielded ops a.tmps)=true/\
  if k ∈ C then o.wp P a w (fun a' w'=>∃ v,a'=a.put o.dst v/\J (upd l k) (dH vals k v) w') Q else (execOp a.eval o).run P w=.ok (.value (T.getD k undef)) w
def yQ:List Oper->Nat->Prop
 | [],_=>True
 | o :: os,k=>ck P Q ops a0 T J C k o/\yQ os (k+1)
def JQ (l:Nat->Bool) (vals:Nat->Value) (w:World):Prop:=
 J l vals w/\∀ i,i ∉ C->l i=true->vals i=T.getD i undef
end
theorem EM {ops:Array Oper} {a0:Act} {T:List Value} {J:(Nat->Bool)->(Nat->Value)->World->Prop} {C:List Nat} (hJ:∀ l l' v v' w,(∀ i ∈ C,l i=l' i/\v i=v' i)->J l v w->J l' v' w) :
  ∀ (os:List Oper) (k:Nat),(∀ i,os[i]?=ops[k+i]?)->yQ P Q ops a0 T J C os k->jg P Q .any ops (JQ T J C) a0 os k
 | [],_,_,_=>trivial
 | o :: os,k,hos,h=>by
  refine ⟨fun a w l vals hI hl hc Lf hr=>?_,EM hJ os (k+1) (fun i=>by rw [show k+1+i=k+(i+1) by omega,←hos (i+1)];rfl) h.2⟩;obtain ⟨hB,hv⟩:=hI;have ho:ops[k]?=some o:=(hos 0).symm
  have hQ:∀ t ∈ o.looksAt ops,oX ops a0 T C o a vals t:=fun t ht=>by
   exact YV
  have hko:∀ j,j≠k->upd l k j=l j:=fun j hj=>if_neg hj
  have h1:=h.1;unfold ck at h1
  have rest:∀ v,(k ∉ C->v=T.getD k undef)->∀ i,i ∉ C->upd l k i=true->dH vals k v i=T.getD i undef:=fun v hvk i n1 hi=>by
   exact Um
  have hup:∀ c,iM ops k c=true->l c=false:=fun c he=>by
   cases q:l c
   ·rfl
   rw [dN hc he q] at hl;cases hl
  obtain ⟨hw,h1⟩:=h1 a w l vals hB hl hup (fun c he=>ge ho Lf he) (fun c d he hd=>dN hc he hd) hQ;unfold po;rw [if_pos hw]
  by_cases e3:k ∈ C
  ·rw [if_pos e3] at h1
   refine Oper.wp_mono ?_ h1;rintro a' w' ⟨v,e,h2⟩;exact ⟨v,e,h2,rest v (fun h=>absurd e3 h)⟩
  rw [if_neg e3] at h1;unfold Oper.wp;rw [h1];refine ⟨_,rfl,hJ l _ vals _ _ (fun i hi=>?_) hB,rest _ (fun _=>rfl)⟩
  have:i≠k:=fun e=>e3 (by rw [←e];exact hi)
  exact ⟨(hko i this).symm,(if_neg this).symm⟩
theorem FA {id:Nat} {ops:Array Oper} {a0:Act} {w:World} (J:(Nat->Bool)->(Nat->Value)->World->Prop) (C:List Nat) (T:List Value)
  (hm:P.follows .mixedOrders=true) (hok:eo .any ops a0.tmps.size=true) (hcl:∀ c ∈ C,c<ops.size) (hJ:∀ l l' v v' w,(∀ i ∈ C,l i=l' i/\v i=v' i)->J l v w->J l' v' w)
  (h0:∀ vals,J (fun _=>false) vals { w with drawn:=w.drawn+1 })
  (hR:yQ P Q ops a0 T J C ops.toList 0)
  (hF:∀ (vals:Nat->Value) (w':World),J (fun _=>true) vals w'->(∀ i,i<ops.size->i ∉ C->vals i=T.getD i undef)->Q .normal (fill (fun _=>true) vals ops.toList 0 a0) w'):(Code.region id ops true).wp P Q a0 w:=by
 refine mf (JQ T J C) hm hok (fun vals=>⟨h0 vals,(fun _ _ h=>absurd h σ)⟩) (EM hJ ops.toList 0 (fun i=>by rw [Nat.zero_add];exact Array.getElem?_toList) hR) ?_;intro l vals w' hl hI;obtain ⟨h1,h2⟩:=hI;exact hF vals w' (hJ l _ vals vals w' (fun i hi=>⟨hl i (hcl i hi),rfl⟩) h1) (fun i hi n1=>h2 i n1 (hl i hi))
end Rg
namespace Rg
variable {P:Program} {Q:Exit->Act->World->Prop}
section
variable (P) (Q) (ops:Array Oper) (a0:Act) (T:List Value) (Base:(Nat->Bool)->World->Prop) (F:Nat->Value->World->Prop) (Rel:World->World->Prop) (C:List Nat)
def bP (k:Nat) (o:Oper):Prop:=
 ∀ (a:Act) (w:World) (l:Nat->Bool) (vals:Nat->Value),Base l w->(∀ i ∈ C,l i=true->F i (vals i) w)->l k=false->(∀ c,iM ops k c=true->l c=false)->(∀ c,iM ops c k=true->l c=true)->(∀ c d,iM ops c d=true->l d=true->l c=true)->(∀ t ∈ o.looksAt ops,oX ops a0 T C o a vals t)->Region.wanted o (yielded ops a.tmps)=true/\
  if k ∈ C then o.wp P a w (fun a' w'=>∃ v,a'=a.put o.dst v/\Base (upd l k) w'/\F k v w'/\Rel w w') Q else (execOp a.eval o).run P w=.ok (.value (T.getD k undef)) w
def CG:List Oper->Nat->Prop
 | [],_=>True
 | o :: os,k=>bP P Q ops a0 T Base F Rel C k o/\CG os (k+1)
end
theorem zM {ops:Array Oper} {a0:Act} {T:List Value} {Base:(Nat->Bool)->World->Prop} {F:Nat->Value->World->Prop} {Rel:World->World->Prop} {C:List Nat} (hF:∀ i u w w',Rel w w'->F i u w->F i u w') :
  ∀ (os:List Oper) (k:Nat),CG P Q ops a0 T Base F Rel C os k->yQ P Q ops a0 T (fun l vals w=>Base l w/\∀ i ∈ C,l i=true->F i (vals i) w) C os k
 | [],_,_=>trivial
 | o :: os,k,h=>by
  refine ⟨fun a w l vals hJ hl hu hd hc hr=>?_,zM hF os (k+1) h.2⟩;have h1:=h.1;unfold bP at h1;obtain ⟨hw,h1⟩:=h1 a w l vals hJ.1 hJ.2 hl hu hd hc hr;refine ⟨hw,?_⟩
  by_cases hk:k ∈ C
  ·rw [if_pos hk] at h1 ⊢
   refine Oper.wp_mono ?_ h1;rintro a' w' ⟨v,e,h2,h3,h4⟩;refine ⟨v,e,h2,fun i hi hli=>?_⟩
   by_cases hik:i=k
   ·subst hik
    have:dH vals i v i=v:=if_pos rfl;rw [this];exact h3
   have e1:upd l k i=l i:=if_neg hik;have e2:dH vals k v i=vals i:=if_neg hik;rw [e1] at hli;rw [e2];exact hF i _ w w' h4 (hJ.2 i hi hli)
  rw [if_neg hk] at h1 ⊢;exact h1
theorem FB {id:Nat} {ops:Array Oper} {a0:Act} {w:World} (Base:(Nat->Bool)->World->Prop) (F:Nat->Value->World->Prop) (Rel:World->World->Prop) (C:List Nat) (T:List Value)
  (hm:P.follows .mixedOrders=true) (hok:eo .any ops a0.tmps.size=true) (hcl:∀ c ∈ C,c<ops.size) (hB:∀ l l' w,(∀ i ∈ C,l i=l' i)->Base l w->Base l' w) (hF:∀ i u w w',Rel w w'->F i u w->F i u w')
  (h0:Base (fun _=>false) { w with drawn:=w.drawn+1 })
  (hR:CG P Q ops a0 T Base F Rel C ops.toList 0)
  (hQ:∀ (vals:Nat->Value) (w':World),Base (fun _=>true) w'->(∀ i ∈ C,F i (vals i) w')->(∀ i,i<ops.size->i ∉ C->vals i=T.getD i undef)->Q .normal (fill (fun _=>true) vals ops.toList 0 a0) w'):(Code.region id ops true).wp P Q a0 w:=by
 refine FA (fun l vals w=>Base l w/\∀ i ∈ C,l i=true->F i (vals i) w) C T hm hok hcl (fun l l' v v' w h hJ=>⟨hB l l' w (fun i hi=>(h i hi).1) hJ.1,fun i hi hl=>?_⟩) (fun vals=>⟨h0,fun i _ h=>absurd h σ⟩) (zM hF _ _ hR) (fun vals w' hJ hv=>hQ vals w' hJ.1 (fun i hi=>hJ.2 i hi rfl) hv);have:=h i hi;rw [←this.2];exact hJ.2 i hi (this.1.trans hl)
def NJ:List (Nat × Nat)->(Nat->Bool)->Nat
 | [],_=>0
 | p :: C,l=>(bif l p.1 then p.2 else 0)+NJ C l
theorem tc {C:List (Nat × Nat)} {l l':Nat->Bool} (h:∀ p ∈ C,l p.1=l' p.1):NJ C l=NJ C l':=by
 induction C with
 | nil=>rfl
 | cons p C ih=>
 unfold NJ;rw [h p List.mem_cons_self,ih fun q hq=>h q (List.mem_cons_of_mem _ hq)]
theorem dA {C:List (Nat × Nat)} {l:Nat->Bool} {k:Nat} (h:∀ p ∈ C,p.1≠k):NJ C (upd l k)=NJ C l:=
 tc fun p hp=>if_neg (h p hp)
theorem xV:∀ (C:List (Nat × Nat)) (l:Nat->Bool),NJ C l<=NJ C fun _=>true
 | [],_=>KT _
 | p :: C,l=>by
  have:=xV C l;unfold NJ
  cases l p.1 <;> simp <;> omega
theorem Dj {C:List (Nat × Nat)} {l:Nat->Bool} {k c:Nat} (h:∀ p ∈ C,p.1=k->p.2=c) (hc:(C.filter fun p=>p.1 == k).length=1) (hl:l k=false):NJ C (upd l k)=NJ C l+c:=by
 induction C with
 | nil=>cases hc
 | cons p C ih=>
 unfold NJ
 by_cases hp:p.1=k
 ·have e1:upd l k p.1=true:=by rw [hp];exact if_pos rfl
  rw [e1,hp,hl,h p List.mem_cons_self hp];rw [List.filter_cons,if_pos (by simpa using hp),List.length_cons] at hc
  have hn:∀ q ∈ C,q.1≠k:=fun q hq he=>by
   have:q ∈ C.filter fun p=>p.1 == k:=List.mem_filter.2 ⟨hq,by simpa using he⟩
   have:0<(C.filter fun p=>p.1 == k).length:=List.length_pos_of_mem this;omega
  rw [dA hn];simp only [cond_true,cond_false];omega
 have e1:upd l k p.1=l p.1:=if_neg hp;rw [e1];rw [List.filter_cons,if_neg (by simpa using hp)] at hc;rw [ih (fun q hq=>h q (List.mem_cons_of_mem _ hq)) hc];omega
end Rg
end
section
open Go.RowKit open Gr M Rg
def DrR (X:List Nat) (W W':World):Prop:=∃ r ∈ X,W.grownBy W' (some r)
def Bx (X:List Nat) (m:Nat) (u:Value) (W:World):Prop:=
 ∃ (b:Nat) (l:List Int),u=.slice (some ⟨b,0,none⟩) m m/\l.length=m/\b ∉ X/\∀ (j:Nat) (x:Int),l[j]?=some x->W.cell? ⟨b,j,none⟩=some (.int .i64 x)
theorem Bx.keep {X:List Nat} {m:Nat} {u:Value} {W W':World} (h:Bx X m u W) (hR:DrR X W W'):Bx X m u W':=by
 obtain ⟨b,l,e,hl,h1,hc⟩:=h;obtain ⟨r,hr,hg⟩:=hR;exact ⟨b,l,e,hl,h1,fun j x hj=>iK hg (hc j x hj) fun h=>h1 (h ▸ hr)⟩
theorem Bx.new {X:List Nat} (W:World) (T:TypeId) (l:List Int) {m:Nat} (hm:l.length=m) (h1:∀ x ∈ X,x<W.heap.size):Bx X m (.slice (some ⟨W,0,none⟩) m m) (W.alloc (.cells (l.map (Value.int .i64)).toArray T)):=
 ⟨W,l,rfl,hm,fun h=>by have:=h1 _ h;omega,Ay W T l⟩
theorem DrR.self {X:List Nat} {r:Nat} (h:r ∈ X) (W:World):DrR X W W:=⟨r,h,eK W _⟩
theorem St.drew {w W:World} {g B n K:Nat} {v:Value} (h:St w W g B v n K):St w { W with drawn:=W.drawn+1 } g B v n K:=h.keep ((KS W W).drew)
end
section
open Go.RowKit open Gr M Rg Rw Wh
theorem BQ (X Y E:Int) (w:World) (h1:-4000000000000000000<=Y) (h2:Y<=4000000000000000000) :
  cB 83 #[.agg #[X,Y,E]] w (.agg #[X,(-Y:Int),E]):=by
 go_enter func83,ntmps83
 go_wp2;exact KU results83 ⟨rfl,LV⟩
theorem X8 {p:Prop} (h:p:=by
 go_loopw [2] (fun vi wq=>∃ (j:Nat) (p:M.LM),j<=k/\vi=.int .i64 ((k:Int) - j)/\Hid (M.Lq a X Z E j=some p)/\Below w w wq/\aG wq ko 47 #[p.1,p.2.1,p.2.2]/\aG wq w 24 #[a,b]/\aG wq (w.heap.size+1) 47 #[X,Z,E]/\aG wq (w.heap.size+1+1) 47 #[(0:Int),(0:Int),(0:Int)]) (fun vi _=>(intOf vi).toNat)
 case atStart=>exact ⟨0,(0,0,0),ω,congrArg (Value.int .i64) ω,KO rfl,B,O,C,Q,R⟩
 case round=>
 clear B O C Q R;obtain ⟨j,⟨px,py,pe⟩,hj,rfl,ht,B,O,C,Q,R⟩:=hrel;have W8:=HT.out j _ ht.out;have hnx:=iZ ht.out;replace PA:=PA.out _ W8;clear W8
 dsimp only at hnx PA O
 by_cases hlt:j<k
 ·have hgt:0<(k:Int) - j:=ω
  generalize dI a px py pe X Z E=o3,eD a px py pe X Z E=E3,ft a px py pe X Z E=Y3,eI a px py pe X Z E=X3 at *;replace PA:=KO PA;replace hnx:=KO hnx;have ⟨k0,k1,_,_,_⟩:=C.box;have ⟨q0,q1,q2⟩:=Q.aM;have ⟨o0,o1,o2⟩:=O.aM
  go_wp2_with fail
  with_reducible refine G_ PA fun wk OR=>?_
  have hzk:=(p_ B OR).size;have B0:=p_ B OR;replace B:=B0.alloc hzk (.cells #[X3,Y3,E3] 47);replace O:=(O.keep OR).alloc (.cells #[X3,Y3,E3] 47);replace C:=(C.keep OR).alloc (.cells #[X3,Y3,E3] 47);replace Q:=(Q.keep OR).alloc (.cells #[X3,Y3,E3] 47);replace R:=(R.keep OR).alloc (.cells #[X3,Y3,E3] 47);have S:=aG.new wk #[X3,Y3,E3] 47;clear k0 k1 q0 q1 q2 o0 o1 o2 OR
  cases o3 with
  | false=>
   have hno:res=none:=hres.out.symm.trans (kU (hnx.out.trans (if_neg δ)) k ω);subst hno;have ⟨x0,x1,x2,z0,z1,z2⟩:=R.bQ;go_wp2;exact KU results42 ⟨rfl,MN B⟩
  | true=>
  replace hnx:=KO (hnx.out.trans (if_pos rfl));have ⟨x0,x1,x2,z0,z1,z2⟩:=O.bQ;have ⟨s0,s1,s2⟩:=S.aM;go_wp2
  go_roundw
  case rel=>exact ⟨j+1,(X3,Y3,E3),ω,ν,hnx,MN B,O.rC _ _ _,((C.other ω _).other ω _).other ω _,((Q.other ω _).other ω _).other ω _,((R.other ω _).other ω _).other ω _⟩
  case measure=>simp [intOf];omega
 obtain rfl:j=k:=ω
 obtain rfl:res=some (px,py,pe):=hres.out.symm.trans ht.out;have ⟨x0,x1,x2,z0,z1,z2⟩:=R.bQ;have ⟨o0,o1,o2⟩:=O.aM
 have hz:¬ 0<(j:Int) - j:=ω
 go_wp2;exact KU results42 ⟨rfl,MN B⟩):p:=h
namespace M
abbrev LM:=Int × Int × Int
noncomputable def Lq (a X Y E:Int):Nat->Option LM
 | 0=>some (0,0,0)
 | n+1=>(Lq a X Y E n).bind fun p=>if dI a p.1 p.2.1 p.2.2 X Y E=true then some (eI a p.1 p.2.1 p.2.2 X Y E,ft a p.1 p.2.1 p.2.2 X Y E,eD a p.1 p.2.1 p.2.2 X Y E) else none
def pX (r:Option LM):Int:=(r.getD (0,0,0)).1
def pY (r:Option LM):Int:=(r.getD (0,0,0)).2.1
def pE (r:Option LM):Int:=(r.getD (0,0,0)).2.2
theorem kx (a b:Int):aV a b 0 0 0=true:=by
 unfold aV;simp
theorem jM {a b X Y E:Int} (hg:good a b=true) (hp:aV a b X Y E=true):∀ n p,Lq a X Y E n=some p->aV a b p.1 p.2.1 p.2.2=true
 | 0,p,h=>by
  cases h
  exact kx a b
 | n+1,p,h=>by
  unfold Lq at h
  cases hq:Lq a X Y E n with
  | none=>rw [hq] at h;cases h
  | some q=>
  rw [hq] at h;have hq2:=jM hg hp n q hq;simp only [Option.bind_some] at h
  split at h
  ·cases h
   exact nI (ae hg) hq2 hp
  cases h
theorem iZ {a X Y E:Int} {n:Nat} {p:LM} (h:Lq a X Y E n=some p):Lq a X Y E (n+1)=if dI a p.1 p.2.1 p.2.2 X Y E=true then some (eI a p.1 p.2.1 p.2.2 X Y E,ft a p.1 p.2.1 p.2.2 X Y E,eD a p.1 p.2.1 p.2.2 X Y E) else none:=by
 conv=>lhs;unfold Lq
 rw [h];rfl
theorem kU {a X Y E:Int} {n:Nat} (h:Lq a X Y E n=none):∀ k,n<=k->Lq a X Y E k=none
 | 0,hk=>by
  obtain rfl:n=0:=ω
  exact h
 | k+1,hk=>by
  by_cases e:n=k+1
  ·rw [←e];exact h
  conv=>lhs;unfold Lq
  rw [kU h k ω];rfl
def Qc (n Y:Int):Int:=if n<0 then -Y else Y
noncomputable def jZ (a X Y E n:Int):Option LM:=Lq a X (Qc n Y) E n.natAbs
end M
theorem ky (a b X Y E n:Int) (w:World) (hg:M.good a b=true) (hp:aV a b X Y E=true) (hn1:-1000000<=n) (hn2:n<=1000000) :
  cB 42 #[.agg #[a,b],.agg #[X,Y,E],n] w (.tuple #[.agg #[M.pX (jZ a X Y E n),M.pY (jZ a X Y E n),M.pE (jZ a X Y E n)],.bool (jZ a X Y E n).isSome]):=by
 obtain ⟨r1,r2,r3,r4,y1,y2⟩:=df (ae hg) hp
 have PO:=fun W=>BQ X Y E W ω ω
 have hm:=mb hp
 obtain ⟨k,hk⟩:∃ k:Nat,k=n.natAbs:=⟨_,rfl⟩
 obtain ⟨Z,hZ⟩:∃ Z,Z=M.Qc n Y:=⟨_,rfl⟩
 have hpz:aV a b X Z E=true:=by
  rw [hZ];unfold M.Qc
  split
  ·exact hm
  exact hp
 have PA:=fun (p:M.LM) (h:aV a b p.1 p.2.1 p.2.2=true) W=>uE a b p.1 p.2.1 p.2.2 X Z E W hg h hpz
 have HT:=jM hg hpz
 have hr:jZ a X Y E n=M.Lq a X Z E k:=by unfold jZ;rw [←hZ,←hk]
 rw [hr]
 obtain ⟨res,hres⟩:∃ r,M.Lq a X Z E k=r:=⟨_,rfl⟩
 rw [hres]
 have hkb:k<=1000000:=ω
 clear r1 r2 r3 r4 y1 y2 hm hg hp hpz hr;replace PA:=KO PA;replace HT:=KO HT;replace hres:=KO hres;obtain ⟨wc,hw3,C,Q,R,B⟩:=dF w #[a,b] 24 #[X,Y,E] 47 #[(0:Int),(0:Int),(0:Int)] 47;have ⟨k0,k1,_,_,_⟩:=C.box;have ⟨q0,q1,q2,m0,m1,m2⟩:=Q.bQ
 by_cases hneg:n<0
 ·have hzy:-Y=Z:=by rw [hZ];unfold M.Qc;exact (if_pos hneg).symm
  rw [hzy] at PO;replace PO:=KO PO;clear hzy
  have hkn:(k:Int)=-n:=ω
  clear hZ hk;go_enter func42,ntmps42
  go_wp2_with fail
  with_reducible refine G_ PO fun w4 hb4=>?_
  replace ⟨B,C,Q,R⟩:=Kl hb4 B C Q R;clear k0 k1 q0 q1 q2 m0 m1 m2 hb4;have ⟨q0,q1,q2,m0,m1,m2⟩:=Q.bQ;replace B:Below w w (((w4.setCell ⟨w.heap.size+1,0,none⟩ (.int .i64 X)).setCell ⟨w.heap.size+1,1,none⟩ (.int .i64 Z)).setCell ⟨w.heap.size+1,2,none⟩ (.int .i64 E)):=MN B;replace C:=((C.other (k:=w.heap.size+1) (i:=0) ω (.int .i64 X)).other (k:=w.heap.size+1) (i:=1) ω (.int .i64 Z)).other (k:=w.heap.size+1) (i:=2) ω (.int .i64 E);replace R:=((R.other (k:=w.heap.size+1) (i:=0) ω (.int .i64 X)).other (k:=w.heap.size+1) (i:=1) ω (.int .i64 Z)).other (k:=w.heap.size+1) (i:=2) ω (.int .i64 E);replace Q:=Q.rC (.int .i64 X) (.int .i64 Z) (.int .i64 E)
  go_upto_region 4 with fail
  clear q0 q1 q2 m0 m1 m2;generalize (((w4.setCell ⟨w.heap.size+1,0,none⟩ (.int .i64 X)).setCell ⟨w.heap.size+1,1,none⟩ (.int .i64 Z)).setCell ⟨w.heap.size+1,2,none⟩ (.int .i64 E))=wd at *;have O:=aG.new wd #[(0:Int),(0:Int),(0:Int)] 47;have UD:=B.size;have hQl:=Q.lt;have hRl:=R.lt;have hCl:=C.lt;replace B:=B.alloc UD (.cells #[(0:Int),(0:Int),(0:Int)] 47);replace C:=C.alloc (.cells #[(0:Int),(0:Int),(0:Int)] 47);replace Q:=Q.alloc (.cells #[(0:Int),(0:Int),(0:Int)] 47);replace R:=R.alloc (.cells #[(0:Int),(0:Int),(0:Int)] 47);go_wp2;generalize wd.heap.size=ko at *
  exact X8
 obtain rfl:Z=Y:=by rw [hZ];unfold M.Qc;exact if_neg hneg
 have hkn:(k:Int)=n:=ω
 clear hZ hk PO;go_enter func42,ntmps42
 go_upto_region 4 with fail
 clear k0 k1 q0 q1 q2 m0 m1 m2;have O:=aG.new wc #[(0:Int),(0:Int),(0:Int)] 47;have UD:=B.size;have hQl:=Q.lt;have hRl:=R.lt;have hCl:=C.lt;replace B:=B.alloc UD (.cells #[(0:Int),(0:Int),(0:Int)] 47);replace C:=C.alloc (.cells #[(0:Int),(0:Int),(0:Int)] 47);replace Q:=Q.alloc (.cells #[(0:Int),(0:Int),(0:Int)] 47);replace R:=R.alloc (.cells #[(0:Int),(0:Int),(0:Int)] 47);go_wp2;generalize wc.heap.size=ko at *
 exact X8
namespace M
noncomputable def rR (a X Y E:Int):Nat->Nat->Option Nat
 | 0,_=>none
 | f+1,n=>match Lq a X Y E n with
  | none=>none
  | some p=>if p.2.2=0 then some n else rR a X Y E f (n+1)
noncomputable def mZ (a X Y E:Int):Option Nat:=rR a X Y E 12 1
theorem sU {a X Y E:Int} {f n:Nat} (h:Lq a X Y E n=none):rR a X Y E (f+1) n=none:=by
 unfold rR;rw [h]
theorem nw {a X Y E:Int} {f n:Nat} {p:LM} (h:Lq a X Y E n=some p):rR a X Y E (f+1) n=if p.2.2=0 then some n else rR a X Y E f (n+1):=by
 conv=>lhs;unfold rR
 rw [h]
end M
theorem qs (a b X Y E:Int) (w:World) (hg:M.good a b=true) (hp:aV a b X Y E=true) :
  cB 107 #[.agg #[a,b],.agg #[X,Y,E]] w (.tuple #[.int .i64 ((mZ a X Y E).getD 0:Nat),.bool (mZ a X Y E).isSome]):=by
 have PA:=fun (p:M.LM) (h:aV a b p.1 p.2.1 p.2.2=true) W=>iA a b p.1 p.2.1 p.2.2 X Y E W hg h hp
 have HT:=jM hg hp;unfold mZ
 obtain ⟨res,hres⟩:∃ r,rR a X Y E 12 1=r:=⟨_,rfl⟩
 rw [hres];replace hres:=KO hres;replace PA:=KO PA;replace HT:=KO HT
 have hno:=KO fun (f n:Nat) (h:M.Lq a X Y E n=none)=>sU (f:=f) h
 have hyes:=KO fun (f n:Nat) (p:M.LM) (h:M.Lq a X Y E n=some p)=>nw (f:=f) h
 have hnext:=KO fun (n:Nat) (p:M.LM) (h:M.Lq a X Y E n=some p)=>iZ h
 clear hg hp;obtain ⟨wc,hw3,C,Q,B⟩:=dQ w #[a,b] 24 #[X,Y,E] 47;have O:=aG.new wc #[(0:Int),(0:Int),(0:Int)] 47;have UD:=B.size;have hQl:=Q.lt;replace B:=B.alloc UD (.cells #[(0:Int),(0:Int),(0:Int)] 47);replace C:=C.alloc (.cells #[(0:Int),(0:Int),(0:Int)] 47);replace Q:=Q.alloc (.cells #[(0:Int),(0:Int),(0:Int)] 47);go_enter func107,ntmps107
 go_wp2;generalize wc.heap.size=ko at *
 go_loopw [7] (fun vi wq=>∃ (j:Nat) (p:M.LM),1<=j/\j<=13/\vi=.int .i64 j/\Hid (M.Lq a X Y E (j - 1)=some p)/\Hid (rR a X Y E (13 - j) j=res)/\Below w w wq/\aG wq ko 47 #[p.1,p.2.1,p.2.2]/\aG wq w 24 #[a,b]/\aG wq (w.heap.size+1) 47 #[X,Y,E]) (fun vi _=>13 - (intOf vi).toNat)
 case atStart=>exact ⟨1,(0,0,0),ω,ω,rfl,KO rfl,hres,B,O,C,Q⟩
 case round=>
 clear B O C Q hres;obtain ⟨j,⟨px,py,pe⟩,hj1,hj,rfl,ht,hres,B,O,C,Q⟩:=hrel
 by_cases hlt:j<=12
 ·obtain ⟨m,hm⟩:∃ m,13 - j=m+1:=⟨12 - j,ω⟩
  have hm2:13 - (j+1)=m:=ω
  rw [hm] at hres;have hnx:=hnext.out _ _ ht.out;rw [show j - 1+1=j from ω] at hnx;replace PA:=PA.out _ (HT.out _ _ ht.out);replace hno:=hno.out m j;replace hyes:=hyes.out m j
  have hj2:j+1 - 1=j:=ω
  dsimp only at hnx PA O
  generalize dI a px py pe X Y E=o3,eD a px py pe X Y E=E3,ft a px py pe X Y E=Y3,eI a px py pe X Y E=X3 at *;have ⟨c0,c1,_,_,_⟩:=C.box;have ⟨q0,q1,q2⟩:=Q.aM;have ⟨o0,o1,o2⟩:=O.aM;replace PA:=KO PA;clear ht hnext
  cases o3 with
  | false=>
   obtain rfl:=hres.out.symm.trans (hno (hnx.trans (if_neg δ)));clear hno hyes hres hnx
   go_wp2_with (with_reducible refine G_ PA fun w4 hb4=>?_;have MG:=(p_ B hb4).size;replace B:=(p_ B hb4).alloc MG (.cells #[X3,Y3,E3] 47))
   go_ret2;exact ⟨rfl,B⟩
  | true=>
  replace hnx:=hnx.trans (if_pos rfl);have hst:=hres.out.symm.trans (hyes _ hnx)
  dsimp only at hst
  replace hnx:=KO hnx;clear hno hyes hres
  by_cases he:E3=0
  ·obtain rfl:=hst.trans (if_pos he)
   clear hst hm hm2;subst he
   go_wp2_with (with_reducible refine G_ PA fun w4 hb4=>?_;have MG:=(p_ B hb4).size;replace B:=(p_ B hb4).alloc MG (.cells #[X3,Y3,(0:Int)] 47);have V:=aG.new w4 #[X3,Y3,(0:Int)] 47;(have ⟨v0,v1,v2⟩:=V.aM))
   go_ret2;exact ⟨rfl,B⟩
  have hres:=KO (hst.trans (if_neg he)).symm;rw [←hm2] at hres;rw [←hj2] at hnx;clear hst hm hm2 hj2
  have heb:(E3 == 0)=false:=by simpa using he
  have hol:=O.lt
  go_wp2_with (with_reducible refine G_ PA fun w4 hb4=>?_;have MG:=(p_ B hb4).size;replace B:=(p_ B hb4).alloc MG (.cells #[X3,Y3,E3] 47);replace C:=(C.keep hb4).alloc (.cells #[X3,Y3,E3] 47);replace Q:=(Q.keep hb4).alloc (.cells #[X3,Y3,E3] 47);replace O:=(O.keep hb4).alloc (.cells #[X3,Y3,E3] 47);have V:=aG.new w4 #[X3,Y3,E3] 47;(have ⟨v0,v1,v2⟩:=V.aM);(have ⟨o0,o1,o2,z0,z1,z2⟩:=O.bQ))
  go_roundw
  case rel=>exact ⟨j+1,(X3,Y3,E3),ω,ω,ν,hnx,hres,MN B,O.rC _ _ _,((C.other ω _).other ω _).other ω _,((Q.other ω _).other ω _).other ω _⟩
  case measure=>simp [intOf];omega
 obtain rfl:j=13:=ω
 obtain rfl:res=none:=hres.out.symm;go_wp2;go_ret2;exact ⟨rfl,B⟩
end
section
open Go.RowKit Go.Shelf open Gr M Rg Rw Wh
theorem YO {p:Prop} (h:p:=by
 obtain ⟨a,cap,rfl,h1,h2,h3⟩:=h;refine ⟨a,cap,rfl,?_⟩
 cases l with
 | nil=>exact Or.inl rfl
 | cons p l=>
 obtain ⟨g,x,e,-⟩:=h3 0 σ;refine Or.inr ⟨g,e,fun i y hy=>?_⟩;obtain ⟨g2,x2,e2,-,hx2,hc⟩:=h3 i (List.getElem?_eq_some_iff.1 hy).1;rw [e] at e2
 injection e2 with e2
 injection e2 with e2
 subst e2;rw [hy] at hx2;obtain rfl:=Option.some.inj hx2.out;exact ⟨hc 0 _ rfl,hc 1 _ rfl,hc 2 _ rfl⟩):p:=h
theorem Uw {p:Prop} (h:p:=by
 clear hcase
 go_wp2_with fail
 go_quiet (fail)
 go_wp2
 go_roundw
 case rel=>exact ⟨i+1,ω,ν,hnx,mF B _,Q⟩
 case measure=>simp [intOf];omega):p:=h
theorem ZZ {p:Prop} (h:p:=by
 go_roundw
 case rel=>exact ⟨j+1,ω,congrArg (Value.int .i64) hxn.out,KO (by rw [hys.out,hnx.out];exact hown6),hb6⟩
 case measure=>simp [intOf];omega):p:=h
namespace M
theorem EV {n:Int} (h:jF n=true):0<=rt n/\rt n*rt n=n:=by
 unfold rt;rw [h];unfold jF at h;simp only [Bool.and_eq_true,decide_eq_true_eq,beq_iff_eq] at h;exact ⟨(iU h.1).1,h.2⟩
noncomputable def gW (a b x:Int):List LM:=
 if jF (cv a b x 1)=true then (if rt (cv a b x 1)=0 then [(x,0,1)] else if (aN a b).tmod (rt (cv a b x 1)*rt (cv a b x 1))=0 then [(x,-rt (cv a b x 1),1),(x,rt (cv a b x 1),1)] else []) else []
noncomputable def di (a b:Int):Nat->List LM
 | 0=>[]
 | n+1=>di a b n ++ gW a b ((n:Int) - 3000)
noncomputable def iC (a:Int) (p:LM):Bool:=(mZ a p.1 p.2.1 p.2.2).isSome
noncomputable def oV (a b:Int):List LM:=(0,0,0) :: (di a b 6001).filter (iC a)
theorem xH (a b x:Int):(gW a b x).length<=2:=by
 unfold gW
 split
 ·split
  ·simp
  split <;> simp
 simp
theorem lU (a b:Int):∀ n,(di a b n).length<=2*n
 | 0=>KT _
 | n+1=>by
  have h1:=lU a b n;have h2:=xH a b ((n:Int) - 3000)
  show (di a b n ++ gW a b ((n:Int) - 3000)).length<=2*(n+1)
  rw [List.length_append];omega
theorem AX {a b x:Int} (h1:-10000<=x) (h2:x<=10000):∀ p ∈ gW a b x,aV a b p.1 p.2.1 p.2.2=true:=by
 unfold gW
 cases hs:jF (cv a b x 1) with
 | false=>intro p hp;simp at hp
 | true=>
 obtain ⟨r0,hr⟩:=EV hs
 have ok:∀ y,y*y=cv a b x 1->aV a b x y 1=true:=fun y hy=>by
  unfold aV;rw [if_neg δ];simp only [Bool.and_eq_true,beq_iff_eq,decide_eq_true_eq];exact ⟨⟨⟨iB.2 ⟨h1,h2⟩,rfl⟩,by unfold M.gcd;simp⟩,hy⟩
 rw [if_pos rfl]
 split
 ·rename_i h0
  intro p hp;obtain rfl:=List.mem_singleton.1 hp;exact ok 0 (by rw [←hr,h0])
 split
 ·intro p hp
  simp only [List.mem_cons,List.not_mem_nil,or_false] at hp
  rcases hp with rfl | rfl
  ·exact ok _ (by rw [Int.neg_mul_neg];exact hr)
  exact ok _ hr
 intro p hp;simp at hp
theorem rc {a b:Int}:∀ n:Nat,n<=6001->∀ p ∈ di a b n,aV a b p.1 p.2.1 p.2.2=true
 | 0,_,p,hp=>by simp [di] at hp
 | n+1,hn,p,hp=>by
  rcases List.mem_append.1 (show p ∈ di a b n ++ gW a b ((n:Int) - 3000) from hp) with h | h
  ·exact rc n ω p h
  exact AX ω ω p h
theorem Ct {a b x:Int} (ha1:-1000<=a) (ha2:a<=1000) (hb1:-10000<=b) (hb2:b<=10000) (hx1:-3000<=x) (hx2:x<=3000):cv a b x 1<=30000000000:=by
 have e:cv a b x 1=x*x*x+a*x+b:=by unfold cv;grind
 have s1:=aH (x:=x) (y:=x) (m:=3000) (n:=3000);have s2:=aH (x:=x*x) (y:=x) (m:=9000000) (n:=3000);have s3:=aH (x:=a) (y:=x) (m:=1000) (n:=3000);omega
end M
def N7:Rw.Enc (Int × Int × Int) where
 t:=47
 k:=3
 cells:=fun q=>[.int .i64 q.1,.int .i64 q.2.1,.int .i64 q.2.2]
 len:=fun _=>rfl
 one:=fun x u hu=>by simp only [List.mem_cons,List.not_mem_nil,or_false] at hu;rcases hu with rfl | rfl | rfl <;> rfl
 pos:=δ
theorem Ii:(prog.info? 47).map (fun i=>(i.zero,i.size,i.bytes))=some (some (.agg #[(0:Int),(0:Int),(0:Int)]),3,24):=κ
theorem tO:Rw.Fits prog N7 25:=⟨Tryz.underlying25,by
 obtain ⟨i0,hi,hz0,hz1,hz2⟩:=info_parts Ii
 exact ⟨i0,_,hi,hz0,hz1,ω,rfl⟩⟩
theorem Rw.Seen.ptx {w:World} {hi:Nat} {v:Value} {l:List Pt} (h:Rw.Seen N7 w hi v l):jT w v l:=by
 exact YO
theorem tS {w:World} {H:Nat} (x y z:Int) (hH:w.heap.size=H):Rw.From N7 (w.alloc (.cells #[x,y,z] 47)) (some ⟨H,0,none⟩) [(x,y,z)]:=Rw.From.lit N7 w (x,y,z) H hH
theorem Fe {w:World} {H:Nat} (x y z x2 y2 z2:Int) (hH:w.heap.size=H):Rw.From N7 (w.alloc (.cells #[x,y,z,x2,y2,z2] 47)) (some ⟨H,0,none⟩) [(x,y,z),(x2,y2,z2)]:=by
 subst hH;intro j u hu;refine ⟨_,rfl,?_⟩
 have hadd:∀ b i:Nat,(⟨b,0,none⟩:Addr).add i=⟨b,i,none⟩:=fun b i=>by unfold Addr.add;split <;> simp_all
 have hu2:[Value.int .i64 x,.int .i64 y,.int .i64 z,.int .i64 x2,.int .i64 y2,.int .i64 z2][j]?=some u:=hu;rw [hadd,World.cell?_alloc_at _ _ _ _ rfl]
 show (List.toArray _)[j]?=some u
 rw [List.getElem?_toArray];exact hu2
theorem jT.sL {W W':World} {r:Option Nat} {A:Option Addr} {n c:Nat} {l:List Pt} (h:jT W (.slice A n c) l) (hg:W.grownBy W' r) (hn:∀ k,r=some k->A≠some ⟨k,0,none⟩):jT W' (.slice A n c) l:=by
 obtain ⟨a,cap,e,h⟩:=h;cases e
 refine ⟨_,_,rfl,?_⟩
 rcases h with h | ⟨g,rfl,h⟩
 ·exact Or.inl h
 refine Or.inr ⟨g,rfl,fun k p hp=>?_⟩
 have hne:some g≠r:=fun e=>hn g e.symm rfl
 obtain ⟨h1,h2,h3⟩:=h k p hp;exact ⟨hg.cell h1 hne,hg.cell h2 hne,hg.cell h3 hne⟩
theorem mF {B:Nat} {a w:World} (h:Below B a w) (n:Nat):Below B a (w.drewN n):=⟨h.os,h.tape,h.output,h.size,h.block⟩
theorem aG.sL {W W':World} {g:Nat} {r:Option Nat} {T:TypeId} {xs:Array Value} (h:aG W g T xs) (hg:W.grownBy W' r) (hn:∀ k,r=some k->g≠k):aG W' g T xs:=
 (hg.block g h.lt fun e=>by
  cases r with
  | none=>cases e
  | some k=>exact hn k rfl (Option.some.inj e)).trans h
theorem tD (a b:Int) (w:World) (hg:M.good a b=true) :
  Calls prog 106 #[.agg #[a,b]] w fun e w'=>∃ v',e=.returned v'/\Rw.Own N7 w' w v' (di a b 6001)/\Below w w w':=by
 obtain ⟨ha1,ha2,hb1,hb2⟩:=ag (ae hg)
 have PV:=KO fun (x:Int) (h1:-3000<=x) (h2:x<=3000) W=>ir a b x 1 W ha1 ha2 hb1 hb2 ω ω ω ω
 have HB:=KO fun (x:Int) (h1:-3000<=x) (h2:x<=3000)=>Ct (a:=a) (b:=b) (x:=x) ha1 ha2 hb1 hb2 h1 h2
 have PC:=fun W=>tK a b W (ae hg)
 have hdb:=yf (ae hg)
 have hlen:=KO fun n=>lU a b n
 have hat:∀ x,gW a b x=if jF (M.cv a b x 1)=true then (if M.rt (M.cv a b x 1)=0 then [(x,0,1)] else if (aN a b).tmod (M.rt (M.cv a b x 1)*M.rt (M.cv a b x 1))=0 then [(x,-M.rt (M.cv a b x 1),1),(x,M.rt (M.cv a b x 1),1)] else []) else []:=fun _=>rfl
 replace hat:=KO hat;clear hg ha1 ha2 hb1 hb2;generalize aN a b=dd at *;replace PC:=KO PC;obtain ⟨wc,hw3,C,B⟩:=cJ w #[a,b] 24;have hlt0:=C.lt;go_enter func106,ntmps106
 go_wp2
 go_loopw [3,4] (fun vs vi wq=>∃ j:Nat,j<=6001/\vi=.int .i64 ((j:Int) - 3000)/\Hid (Rw.Own N7 wq wc vs (di a b j))/\Below wc wc wq) (fun _ vi _=>(3001 - intOf vi).toNat)
 case atStart=>exact ⟨0,ω,rfl,KO (Rw.Own.nil N7 _ _),KS _ _⟩
 case round=>
 obtain ⟨j,hj,rfl,hown,hbr⟩:=hrel;have Ny:=hbr.size;obtain ⟨A,cap,rfl,-,-,-⟩:=hown.out.seen
 by_cases hlt:j<6001
 ·obtain ⟨x,hx⟩:∃ x:Int,x=(j:Int) - 3000:=⟨_,rfl⟩
  have hx1:-3000<=x:=ω
  have hx2:x<=3000:=ω
  have hnx:di a b (j+1)=di a b j ++ gW a b x:=by rw [hx];rfl
  have hxn:x+1=((j+1:Nat):Int) - 3000:=ω
  have hlj:=hlen.out j;rw [hat.out x] at hnx;replace PV:=PV.out x hx1 hx2;replace HB:=HB.out x hx1 hx2;rw [←hx];replace hx:=KO hx;replace hxn:=KO hxn
  have hrt:=fun h=>EV (n:=M.cv a b x 1) h
  have hrn:=fun h=>EU (n:=M.cv a b x 1) h
  have PX:=fun W=>mN (M.cv a b x 1) W ω
  generalize M.cv a b x 1=c at *;generalize di a b j=xs,jF c=s,M.rt c=r at *
  obtain ⟨ys,hys⟩:∃ l,di a b (j+1)=l:=⟨_,rfl⟩
  rw [hys] at hnx;replace hys:=KO hys;have C2:=C.keep hbr;have ⟨k0,k1,_,_,_⟩:=C2.box;replace PV:=KO PV
  obtain ⟨N,hN⟩:∃ N,N=xs.length:=⟨_,rfl⟩
  rw [←hN] at hown hlj ⊢;replace hN:=KO hN
  cases s with
  | false=>
   obtain rfl:=hrn rfl;rw [if_neg δ,List.append_nil] at hnx;subst hnx;clear hrt hrn;replace PX:=KO PX
   go_wp2_with (first | (with_reducible refine G_ PV fun w4 hb4=>?_) | (with_reducible refine Kw (PX.out _) ?_))
   go_roundw
   case rel=>exact ⟨j+1,ω,congrArg (Value.int .i64) hxn.out,KO (by rw [hys.out];exact hown.out.below hb4),hbr.trans (hb4.mono Ny)⟩
   case measure=>simp [intOf];omega
  | true=>
  obtain ⟨r0,hrr⟩:=hrt rfl;rw [if_pos rfl] at hnx;clear hrt hrn;replace PX:=KO PX
  have hrb:r<=200000:=by
   rcases Int.lt_or_le 200000 r with q | q
   ·have:=Int.mul_le_mul (show 200001<=r by omega) (show 200001<=r by omega) δ r0
    omega
   exact q
  by_cases h0:r=0
  ·subst h0
   rw [if_pos rfl] at hnx;clear hrr;replace hnx:=KO hnx
   go_wp2_with (first | (with_reducible refine G_ PV fun w4 hb4=>?_;have MG:=hb4.size) | (with_reducible refine Kw (PX.out _) ?_) | (at_builtin;refine Rw.push tO (W:=wc) wc.heap.size [(x,0,1)] _ _ (some ⟨_,0,none⟩) 1 1 (by rfl) (by rfl) (.tmp 24) (.tmp 27) (by rfl) (by rfl) (by rfl) (tS x 0 1 σ) ((hown.out.below hb4).alloc _) ((hbr.trans (hb4.mono Ny)).alloc ω _) (by simp;omega) (by have:=hN.out;simp;omega) ?_;intro v6 w6 hown6 hb6))
   exact ZZ
  rw [if_neg h0] at hnx
  have Va:1<=r:=ω
  have hr0:(r == 0)=false:=by simpa using h0
  have hq1:1<=r*r:=Int.le_trans δ (Int.mul_le_mul Va Va δ r0);have hq2:=aH (x:=r) (y:=r) (m:=200000) (n:=200000)
  have hqz:¬ r*r=0:=ω
  have hqb:(r*r == 0)=false:=by simpa using hqz
  by_cases ht:dd.tmod (r*r)=0
  ·rw [if_pos ht] at hnx
   replace hnx:=KO hnx
   have htb:(dd.tmod (r*r) == 0)=true:=by simpa using ht
   clear hrr
   go_wp2_with (first | (with_reducible refine G_ PV fun w4 hb4=>?_;have MG:=hb4.size;have C3:=C2.keep hb4;(have ⟨l0,l1,_,_,_⟩:=C3.box)) | (with_reducible refine Kw (PX.out _) ?_) | (with_reducible refine G_ PC fun w7 KY=>?_;have XM:=KY.size) | (at_builtin;refine Rw.push tO (W:=wc) wc.heap.size [(x,-r,1),(x,r,1)] _ _ (some ⟨_,0,none⟩) 2 2 (by rfl) (by rfl) (.tmp 37) (.tmp 45) (by rfl) (by rfl) (by rfl) (Fe x (-r) 1 x r 1 σ) (((hown.out.below hb4).below KY).alloc _) (((hbr.trans (hb4.mono Ny)).trans (KY.mono ω)).alloc ω _) (by simp;omega) (by have:=hN.out;simp;omega) ?_;intro v6 w6 hown6 hb6))
   exact ZZ
  rw [if_neg ht,List.append_nil] at hnx;subst hnx
  have htb:(dd.tmod (r*r) == 0)=false:=by simpa using ht
  clear hrr
  go_wp2_with (first | (with_reducible refine G_ PV fun w4 hb4=>?_;have MG:=hb4.size;have C3:=C2.keep hb4;(have ⟨l0,l1,_,_,_⟩:=C3.box)) | (with_reducible refine Kw (PX.out _) ?_) | (with_reducible refine G_ PC fun w7 KY=>?_;have XM:=KY.size))
  go_roundw
  case rel=>exact ⟨j+1,ω,congrArg (Value.int .i64) hxn.out,KO (by rw [hys.out];exact (hown.out.below hb4).below KY),(hbr.trans (hb4.mono Ny)).trans (KY.mono ω)⟩
  case measure=>simp [intOf];omega
 obtain rfl:j=6001:=ω
 go_wp2;go_ret;exact ⟨_,rfl,hown.out.down B.size,p_ B hbr⟩
theorem pC (a b:Int) (w:World) (hg:M.good a b=true) :
  Calls prog 56 #[.agg #[a,b]] w fun e w'=>∃ v',e=.returned v'/\jT w' v' (oV a b)/\(oV a b).length<=12100/\Below w w w':=by
 have PK:=KO fun W=>tD a b W hg
 have PO:=KO fun (p:M.LM) (h:aV a b p.1 p.2.1 p.2.2=true) W=>qs a b p.1 p.2.1 p.2.2 W hg h
 have hall:=rc (a:=a) (b:=b) 6001 (KT _);have hlen:=lU a b 6001;have hto:oV a b=(0,0,0) :: (di a b 6001).filter (iC a):=rfl;rw [hto]
 have hti:∀ p:M.LM,iC a p=(mZ a p.1 p.2.1 p.2.2).isSome:=fun _=>rfl
 generalize di a b 6001=cs at *;replace hti:=KO hti;replace hall:=KO hall;clear hg hto;obtain ⟨wc,hw3,C,B⟩:=cJ w #[a,b] 24;have hC0:=C.lt;have hown:Rw.Own N7 (wc.alloc (.cells #[(0:Int),(0:Int),(0:Int)] 47)) wc (.slice (some ⟨wc,0,none⟩) 1 1) [(0,0,0)]:=Rw.Own.Ju N7 (0,0,0) wc wc (KT _);have hbl:=bA wc (.cells #[(0:Int),(0:Int),(0:Int)] 47);have C1:=C.keep hbl;have ⟨k0,k1,_,_,_⟩:=C1.box;go_enter func56,ntmps56
 have hz1:=hbl.size
 have hl1:wc.heap.size<(wc.alloc (.cells #[(0:Int),(0:Int),(0:Int)] 47)).heap.size:=by rw [KQ];omega
 generalize hw1:wc.alloc (.cells #[(0:Int),(0:Int),(0:Int)] 47)=w1 at *
 go_wp2_with ((with_reducible refine (PK.out _).mono ?_);rintro e w4 ⟨v4,rfl,hc4,hb4⟩;(obtain ⟨A4,cap4,rfl,-,-,-⟩:=hc4.seen))
 have hpv:=hc4.seen.ptx;have RQ:=hc4.lt;have MG:=hb4.size
 obtain ⟨N,hN⟩:∃ N,N=cs.length:=⟨_,rfl⟩
 rw [←hN] at hpv hlen ⊢;replace hN:=KO hN;replace hown:=hown.below hb4;replace B:=(p_ B hbl).trans (hb4.mono (by have:=B.size;omega));replace C:=(C.keep hbl).keep hb4
 have hap:∀ k,A4=some ⟨k,0,none⟩->wc.heap.size<k/\k<w4.heap.size:=fun k hk=>by
  subst hk;have:=RQ k rfl;omega
 clear RQ hw1 k0 k1 PK hbl C1 hw3;have Nz:=B.size;replace hap:=KO hap
 go_loopw [3,13] (fun vs vi wq=>∃ i:Nat,i<=N/\vi=.int .i64 i/\Hid (Rw.Own N7 wq wc vs ((0,0,0) :: (cs.take i).filter (iC a)))/\Hid (∀ k,vs.ownBlock=some k->A4≠some ⟨k,0,none⟩)/\Hid (jT wq (.slice A4 N cap4) cs)/\w4.heap.size<=wq.heap.size/\Below w w wq/\aG wq w 24 #[a,b]) (fun _ vi _=>N - (intOf vi).toNat)
 case atStart=>exact ⟨0,ω,rfl,KO hown,KO (fun k hk e=>by have h1:=hap.out k e;have h2:wc.heap.size=k:=Option.some.inj hk;omega),KO hpv,KT _,B,C⟩
 case round=>
 clear B C hown hpv;obtain ⟨i,hi,rfl,hown,hne,hpv,UE,B,C⟩:=hrel
 by_cases hlt:i<N
 ·obtain ⟨p,hpi⟩:∃ p,cs[i]?=some p:=⟨_,List.getElem?_eq_getElem (by have:=hN.out;omega)⟩
  obtain ⟨g,rfl,hpa⟩:∃ g,A4=some ⟨g,0,none⟩/\gy wr g cs:=by
   obtain ⟨A,cap,e,h⟩:=hpv.out;cases e
   rcases h with h | h
   ·rw [h] at hpi;cases hpi
   exact h
  obtain ⟨d0,d1,d2⟩:=hpa i p hpi;have hgb:=hap.out g rfl;replace PO:=PO.out p (hall.out p (List.mem_of_getElem? hpi));have hq:=hti.out p
  have htk:(cs.take (i+1)).filter (iC a)=(cs.take i).filter (iC a) ++ (if iC a p=true then [p] else []):=by
   rw [List.take_add_one,hpi,List.filter_append];simp only [Option.toList_some,List.filter_cons,List.filter_nil]
  obtain ⟨X,Y,E⟩:=p
  dsimp only at PO d0 d1 d2 hq
  rw [←hq] at PO;clear hq hpi hpa;generalize (mZ a X Y E).getD 0=od,iC a (X,Y,E)=tq at *;have Ny:=B.size
  have hfl:((0,0,0) :: (cs.take i).filter (iC a)).length<=12100:=by
   have:=List.length_filter_le (iC a) (cs.take i);rw [List.length_cons]
   have h2:(cs.take i).length<=cs.length:=by rw [List.length_take];omega
   have:=hN.out;omega
  replace hpv:=hpv.out;have B2:=B.alloc Ny (.cells #[X,Y,E] 47);have V:=aG.new wr #[X,Y,E] 47;have C2:=C.alloc (.cells #[X,Y,E] 47);have hown2:=hown.out.alloc (.cells #[X,Y,E] 47);have hpv2:=hpv.below (bA wr (.cells #[X,Y,E] 47))
  have hz2:wr.heap.size<=(wr.alloc (.cells #[X,Y,E] 47)).heap.size:=by rw [KQ];omega
  have ⟨k0,k1,_,_,_⟩:=C2.box;have ⟨v0,v1,v2⟩:=V.aM;have hvw:=V.lt
  have hie:(i:Int)<(N:Int):=ω
  replace PO:=KO PO;replace hpv2:=KO hpv2;replace hown2:=KO hown2;replace htk:=KO htk
  obtain ⟨ys,hys⟩:∃ l,(0,0,0) :: (cs.take i).filter (iC a)=l:=⟨_,rfl⟩
  rw [hys] at hown hown2 hfl;replace hys:=KO hys;clear hpv
  cases tq with
  | false=>
   go_wp2_with (with_reducible refine G_ PO fun w5 hb5=>?_)
   go_roundw
   case rel=>exact ⟨i+1,ω,ν,KO (by rw [htk.out,if_neg δ,List.append_nil,hys.out];exact hown2.out.below hb5),hne,KO (hpv2.out.below hb5),by have:=hb5.size;omega,p_ B2 hb5,C2.keep hb5⟩
   case measure=>simp [intOf];omega
  | true=>
  obtain ⟨Av,cv,rfl,-,-,-⟩:=hown.out.seen
  obtain ⟨M0,hM0⟩:∃ m,m=ys.length:=⟨_,rfl⟩
  rw [←hM0] at hown hown2 hfl hne ⊢;replace hM0:=KO hM0
  go_wp2_with (first | (with_reducible refine G_ PO fun w5 hb5=>?_;have hz5:=hb5.size;have V2:=V.keep hb5;(have ⟨u0,u1,u2⟩:=V2.aM)) | (at_builtin;refine sZ tO wc.heap.size [(X,Y,E)] ys _ ⟨_,0,none⟩ 1 1 (by rfl) (by rfl) (.tmp 24) (.tmp 26) (by rfl) (by rfl) (by rfl) (tS X Y E σ) ((hown2.out.below hb5).alloc _) (by simp;omega) (by have:=hM0.out;simp;omega) ?_;intro v6 w6 hown6 Mu RP))
  have Vc:=Mu.size;rw [KQ] at Vc;have hfr:=hown6
  go_roundw
  case rel=>
   refine ⟨i+1,ω,ν,KO (by rw [htk.out,if_pos trivial,←List.cons_append,hys.out];exact hown6),KO ?_,KO (((hpv2.out.below hb5).below (bA _ _)).sL Mu ?_),ω,?_,((C2.keep hb5).alloc _).sL Mu ?_⟩
   ·intro k hk e
    rcases RP with h | h
    ·exact hne.out k (by rw [←h];exact hk) e
    rw [h] at hk;have h1:=Option.some.inj hk;rw [KQ] at h1
    have h2:g=k:=by cases e;rfl
    omega
   ·exact fun k hk=>hne.out k hk
   ·exact Below.grown ((p_ B2 hb5).alloc ω _) Mu (by rw [KQ];omega) (fun k hk=>by have:=(hown2.out.lt k hk).1;omega)
   exact fun k hk=>by have:=(hown2.out.lt k hk).1;omega
  case measure=>simp [intOf];omega
 obtain rfl:i=N:=ω
 have hfull:cs.take i=cs:=by rw [hN.out,List.take_length]
 rw [hfull] at hown;go_wp2;go_ret;refine ⟨_,rfl,hown.out.seen.ptx,?_,B⟩;have:=List.length_filter_le (iC a) cs;have:=hN.out;omega
theorem Ap (X Y E:Int) (v:Value) (l:List M.LM) (w:World) (hv:jT w v l) (hl:l.length<=12100) :
  Calls prog 105 #[v,.agg #[X,Y,E]] w fun e w'=>∃ r:Int,e=.returned (.int .i64 r)/\decide (0<=r)=decide ((X,Y,E) ∈ l)/\Below w w w':=by
 obtain ⟨A,cap,rfl,hv⟩:=hv
 obtain ⟨N,hN⟩:∃ N,N=l.length:=⟨_,rfl⟩
 rw [←hN] at hl ⊢;replace hN:=KO hN;replace hv:=KO hv;obtain ⟨wc,hw3,Q,B⟩:=cJ w #[X,Y,E] 47;go_enter func105,ntmps105
 go_wp2
 go_loopw [8] (fun vi wq=>∃ i:Nat,i<=N/\vi=.int .i64 i/\Hid (∀ p ∈ l.take i,(X,Y,E)≠p)/\Below w w wq/\aG wq w 47 #[X,Y,E]) (fun vi _=>N - (intOf vi).toNat)
 case atStart=>exact ⟨0,ω,rfl,KO (fun p hp=>by simp at hp),B,Q⟩
 case round=>
 clear B Q;obtain ⟨i,hi,rfl,hno,B,Q⟩:=hrel
 by_cases hlt:i<N
 ·obtain ⟨p,hpi⟩:∃ p,l[i]?=some p:=⟨_,List.getElem?_eq_getElem (by have:=hN.out;omega)⟩
  obtain ⟨g,rfl,hpa⟩:∃ g,A=some ⟨g,0,none⟩/\gy w g l:=by
   rcases hv.out with h | h
   ·rw [h] at hpi;cases hpi
   exact h
  have hmem:=List.mem_of_getElem? hpi;obtain ⟨d0,d1,d2⟩:=hpa.below B i p hpi
  have hie:(i:Int)<(N:Int):=ω
  have ⟨q0,q1,q2⟩:=Q.aM
  have htk:l.take (i+1)=l.take i ++ [p]:=by rw [List.take_add_one,hpi];rfl
  clear hpa hpi
  by_cases he:(X,Y,E)=p
  ·subst he
   clear htk
   dsimp only at d0 d1 d2
   replace hmem:=KO hmem
   go_wp2_with fail
   go_quiet (fail)
   go_wp2;go_ret;exact ⟨_,rfl,by rw [decide_eq_true hmem.out];exact decide_eq_true ω,mF B _⟩
  have hnx:Hid (∀ q ∈ l.take (i+1),(X,Y,E)≠q):=KO (fun q hq=>by
   rw [htk] at hq
   rcases List.mem_append.1 hq with h | h
   ·exact hno.out q h
   rw [List.mem_singleton.1 h];exact he)
  obtain ⟨x,y,z⟩:=p
  dsimp only at d0 d1 d2
  have hcase:¬ (X=x/\Y=y/\E=z):=fun ⟨h1,h2,h3⟩=>he (by rw [h1,h2,h3])
  clear hmem htk he
  by_cases h1:X=x
  ·by_cases h2:Y=y
   ·have h3:¬ E=z:=fun h=>hcase ⟨h1,h2,h⟩
    exact Uw
   exact Uw
  exact Uw
 obtain rfl:i=N:=ω
 have hall:(X,Y,E) ∉ l:=fun h=>hno.out _ (by rw [hN.out,List.take_length];exact h) rfl
 replace hall:=KO hall;go_wp2;go_ret;exact ⟨_,rfl,by rw [decide_eq_false hall.out];decide,B⟩
theorem tJ (X Y E:Int) (v:Value) (l:List M.LM) (w:World) (hv:jT w v l) (hl:l.length<=12100) :
  cB 55 #[v,.agg #[X,Y,E]] w (decide ((X,Y,E) ∈ l)):=by
 have PI:=KO fun W (h:jT W v l)=>Ap X Y E v l W h hl
 obtain ⟨wc,hw3,Q,B⟩:=cJ w #[X,Y,E] 47;have hv2:=KO (hv.below B);have ⟨q0,q1,q2⟩:=Q.aM;obtain ⟨A,cap,rfl,-⟩:=hv;generalize l.length=n at *;go_enter func55,ntmps55
 go_wp2_with (go_at_call 105;(refine (PI.out _ hv2.out).mono ?_);rintro e w4 ⟨r,rfl,hr,hb4⟩;replace B:=p_ B hb4)
 go_ret;exact ⟨rfl,B⟩
end
section
open Go.RowKit open Gr M Rg Rw Wh
namespace M
theorem wB {a b x y:Int} (h1:-10000<=x) (h2:x<=10000) (h:y*y=cv a b x 1):aV a b x y 1=true:=by
 unfold aV;rw [if_neg δ];simp only [Bool.and_eq_true,beq_iff_eq,decide_eq_true_eq];exact ⟨⟨⟨iB.2 ⟨h1,h2⟩,rfl⟩,by unfold M.gcd;simp⟩,h⟩
theorem zg {n:Int} (h:0<=n) (h2:n<=4000000000000000000):0<=root n/\root n<=2000000000/\root n*root n<=n:=by
 obtain ⟨r0,r1,r2⟩:=iU h;refine ⟨r0,?_,r1⟩
 rcases Int.lt_or_le 2000000000 (root n) with q | q
 ·have:=Int.mul_le_mul (show 2000000001<=root n by omega) (show 2000000001<=root n by omega) δ r0
  omega
 exact q
end M
theorem xN (n:Int) (w:World) (h1:0<=n) (h2:n<=4000000000000000000) :
  cP 153 #[n] w (M.root n*M.root n == n):=by
 have PR:=KO fun W=>qQ n W h1 h2
 obtain ⟨r0,r1,r2⟩:=zg h1 h2;generalize M.root n=r at *;have hs:=aH (x:=r) (y:=r) (m:=2000000000) (n:=2000000000);generalize hq:r*r=q at *;go_enter func153,ntmps153
 go_wp2_with (go_at_call 87;(refine (PR.out _).mono ?_);rintro e w' ⟨rfl,rfl⟩)
 go_ret;exact ⟨rfl,rfl⟩
def O0 (w:World) (base:Nat) (A:Option Addr) (l:List M.LM):Prop:=
 ∀ (k:Nat) (p:M.LM),l[k]?=some p->∃ g,A=some ⟨g,0,none⟩/\base<=g/\w.cell? ⟨g,k*3,none⟩=some (.int .i64 p.1)/\w.cell? ⟨g,k*3+1,none⟩=some (.int .i64 p.2.1)/\w.cell? ⟨g,k*3+2,none⟩=some (.int .i64 p.2.2)
theorem O0.nil (w:World) (base:Nat):O0 w base none []:=fun k p h=>by simp at h
theorem O0.below {w w':World} {base:Nat} {A:Option Addr} {l:List M.LM} (h:O0 w base A l) (hb:Below w w w'):O0 w' base A l:=fun k p hp=>by
 obtain ⟨g,h1,h2,h3,h4,h5⟩:=h k p hp;exact ⟨g,h1,h2,aE hb h3,aE hb h4,aE hb h5⟩
noncomputable def M.WZ (a b e x:Int):List M.LM:=if jF (M.cv a b x e)=true then (if M.rt (M.cv a b x e)=0 then [(x,0,e)] else [(x,-M.rt (M.cv a b x e),e),(x,M.rt (M.cv a b x e),e)]) else []
theorem O0.of {W w:World} {base:Nat} {l:List M.LM} {vs:List Value} (hb:base<=W.heap.size) (hw:w=W.alloc (.cells vs.toArray 47)) (hv:vs=l.flatMap fun p=>[.int .i64 p.1,.int .i64 p.2.1,.int .i64 p.2.2]) (hl:l.length<=2):O0 w base (some ⟨W,0,none⟩) l:=fun k p hp=>by
 subst hw hv;have V:=aG.new W (l.flatMap fun p=>[Value.int .i64 p.1,.int .i64 p.2.1,.int .i64 p.2.2]).toArray 47;refine ⟨_,rfl,hb,?_⟩
 match l,k,hl,hp with
 | p :: l,0,_,hp=>cases hp;exact ⟨V.cell 0,V.cell 1,V.cell 2⟩
 | q :: p :: l,1,_,hp=>cases hp;exact ⟨V.cell 3,V.cell 4,V.cell 5⟩
 | q :: p :: r :: l,k,h,hp=>simp at h
 | [q],k+1,_,hp=>simp at hp
 | [q,p],k+2,_,hp=>simp at hp
theorem EB (a b e x:Int) (w:World) (hg:M.good a b=true) (he1:1<=e) (he2:e<=20) (hx1:-10000<=x) (hx2:x<=10000) :
  Calls prog 111 #[.agg #[a,b],x,e] w fun r w'=>∃ (A:Option Addr) (cp:Nat),r=.returned (.slice A (M.WZ a b e x).length cp)/\O0 w' w A (M.WZ a b e x)/\Below w w w':=by
 obtain ⟨ha1,ha2,hb1,hb2⟩:=ag (ae hg)
 have PV:=fun W=>sY a b x e W ha1 ha2 hb1 hb2 hx1 hx2 ω he2
 obtain ⟨c1,c2⟩:=rh (e:=e) ha1 ha2 hb1 hb2 hx1 hx2 ω he2;unfold M.WZ;generalize M.cv a b x e=c at *;replace PV:=KO PV;clear hg ha1 ha2 hb1 hb2;obtain ⟨wc,hw3,C,B⟩:=cJ w #[a,b] 24;have ⟨k0,k1,_,_,_⟩:=C.box
 rcases Int.lt_or_le c 0 with hc | hc
 ·rw [vR hc,if_neg δ]
  go_enter func111,ntmps111
  go_wp2_with (with_reducible refine G_ PV fun w1 hb1=>?_;replace B:=p_ B hb1)
  go_ret;exact ⟨none,0,rfl,O0.nil _ _,B⟩
 have PS:=fun W=>xN c W hc ω
 have PR:=fun W=>qQ c W hc ω
 obtain ⟨r0,r1,r2⟩:=zg hc ω
 have hn:¬ c<0:=ω
 have hq:jF c=(M.root c*M.root c == c):=by unfold jF;rw [decide_eq_true hc];rfl
 unfold M.rt;rw [hq];generalize M.root c=r at *;replace PR:=KO PR
 by_cases hs:r*r=c
 ·rw [show (r*r == c)=true from beq_iff_eq.2 hs] at PS ⊢
  simp only [if_true];replace PS:=KO PS;clear r2 hq
  have hr0:r=0 ↔ c=0:=⟨fun h=>by rw [←hs,h];rfl,fun h=>by rcases Int.mul_eq_zero.1 (hs.trans h) with h | h <;> exact h⟩
  by_cases h0:c=0
  ·rw [if_pos (hr0.2 h0)]
   subst h0;clear hs r1 r0 PR hr0;go_enter func111,ntmps111
   go_wp2_with (first | (with_reducible refine G_ PV fun w1 hb1=>?_;replace B:=p_ B hb1) | (with_reducible refine Kw (PS.out _) ?_))
   go_ret;exact ⟨_,_,rfl,O0.of B.size rfl rfl σ,B.alloc B.size _⟩
  rw [if_neg (fun h=>h0 (hr0.1 h))];clear hs hr0;go_enter func111,ntmps111
  go_wp2_with (first | (with_reducible refine G_ PV fun w1 hb1=>?_;replace B:=p_ B hb1) | (with_reducible refine Kw (PS.out _) ?_) | (with_reducible refine Kw (PR.out _) ?_))
  go_ret;exact ⟨_,_,rfl,O0.of B.size rfl rfl σ,B.alloc B.size _⟩
 rw [show (r*r == c)=false from beq_eq_false_iff_ne.2 hs] at PS ⊢;rw [if_neg δ];replace PS:=KO PS;go_enter func111,ntmps111
 go_wp2_with (first | (with_reducible refine G_ PV fun w1 hb1=>?_;replace B:=p_ B hb1) | (with_reducible refine Kw (PS.out _) ?_))
 go_ret;exact ⟨none,0,rfl,O0.nil _ _,B⟩
theorem GN (a b x:Int) (w:World) (hg:M.good a b=true) (hx1:-200<=x) (hx2:x<=200) :
  Calls prog 111 #[.agg #[a,b],x,(1:Int)] w fun e w'=>∃ (A:Option Addr) (l:List M.LM) (cp:Nat),e=.returned (.slice A l.length cp)/\l.length<=2/\O0 w' w A l/\(∀ p ∈ l,aV a b p.1 p.2.1 p.2.2=true)/\Below w w w':=by
 refine (EB a b 1 x w hg δ δ ω ω).mono ?_;rintro e w1 ⟨A,cp,rfl,hl,hb⟩
 have HO:=fun y (h:y*y=M.cv a b x 1)=>wB (a:=a) (b:=b) (x:=x) (y:=y) ω ω h
 refine ⟨A,_,cp,rfl,?_,hl,?_,hb⟩
 ·unfold M.WZ;split <;> (try split) <;> simp
 unfold M.WZ;intro p hp
 split at hp
 ·rename_i h
  obtain ⟨-,hr⟩:=EV h
  split at hp
  ·rename_i h0
   obtain rfl:=List.mem_singleton.1 hp;exact HO 0 (by rw [←hr,h0])
  simp only [List.mem_cons,List.not_mem_nil,or_false] at hp
  rcases hp with rfl | rfl
  ·exact HO _ (by rw [Int.neg_mul_neg];exact hr)
  exact HO _ hr
 cases hp
theorem Lg {p:Prop} (h:p:=by (first | (go_simp;done) | (go_simp;exact Rg.wr ω ω) | (go_simp;omega) | (go_simp;rfl) | (go_simp;exact ⟨rfl,rfl⟩))):p:=h
theorem R8 {p:Prop} (h:p:=by
 unfold Oper.wp;go_simp
 all_goals first | exact OM | exact OM.1 | exact ⟨undef,OM⟩ | exact ⟨_,rfl,OM⟩):p:=h
theorem ZU {p:Prop} (h:p:=by
 unfold bP
 intro zZ w_ l_ d_ Kp LU LB LK Kq Kb hr;refine ⟨rfl,?_⟩;rw [if_neg δ];have e6:zZ.tmps[6]?=some (.int .i64 (j:Int)):=hr 6 δ;go_simp):p:=h
theorem aG.bf {W W':World} {g r:Nat} {T:TypeId} {xs:Array Value} (h:aG W g T xs) (hg:W.grownBy W' (some r)) (hn:g≠r):aG W' g T xs:=(hg.block g h.lt (by simpa using hn)).trans h
theorem St.up {w W:World} {g B n K K':Nat} {v:Value} (h:St w W g B v n K) (hK:K<=K'):St w W g B v n K':=⟨h.cur.mono hK,h.gr,h.lt⟩
theorem St.aQ {w W:World} {g B n K c o:Nat} {v:Value} (h:St w W g B v n K) (hc:w.heap.size<=c) (hg:g≠c) (hB:B<=c) (x:Value):St w (W.setCell ⟨c,o,none⟩ x) g B v n K:=
 ⟨h.cur.keepR (Gr.set (eK W (some c)) o x) hg hB,oL h.gr hc _,h.lt⟩
theorem aG.Hi {W:World} {g:Nat} {T:TypeId} {u v x:Value} (h:aG W g T #[u,v,x]) (y1 y2 y3:Value):aG (((W.setCell ⟨g,0,none⟩ y1).setCell ⟨g,1,none⟩ y2).setCell ⟨g,2,none⟩ y3) g T #[y1,y2,y3]:=((h.set 0 y1).set 1 y2).set 2 y3
def Ml (wr:World) (g B:Nat) (v:Value) (n K:Nat) (W:World):Prop:=dh W g B v n K/\wr.grownBy W (some g)
theorem Ml.keep {wr W W':World} {g B n K:Nat} {v:Value} (h:Ml wr g B v n K W) (hb:Below W W W'):Ml wr g B v n K W':=⟨h.1.keep hb,dl h.2 (bT hb _)⟩
theorem Ml.call {wr W W':World} {g B n K K':Nat} {v:Value} (h:Ml wr g B v n K W) (hc:dh W' g B v n K') (hg:W.grownBy W' (some g)):Ml wr g B v n K' W':=⟨hc,dl h.2 hg⟩
theorem Ml.put {wr W:World} {g B n K h:Nat} {v:Value} (q:Ml wr g B v n K W) (hg:g≠h) (hB:B<=h) (hw:wr.heap.size<=h) (o:Nat) (x:Value):Ml wr g B v n K (W.setCell ⟨h,o,none⟩ x):=
 ⟨q.1.keepR (Gr.set (eK W (some h)) o x) hg hB,oL q.2 hw _⟩
theorem Ml.start {w wr:World} {g B n K:Nat} {v:Value} (st:St w wr g B v n K):Ml wr g B v n K wr.drew:=⟨st.drew.cur,mR (eK wr _) 1⟩
theorem aG.qv {W:World} {k i:Nat} {x:Value} {L:List (Nat × TypeId × Array Value)} (h:∀ y ∈ L,aG W y.1 y.2.1 y.2.2) (hk:∀ y ∈ L,k<y.1):∀ y ∈ L,aG (W.setCell ⟨k,i,none⟩ x) y.1 y.2.1 y.2.2:=fun y hy=>(h y hy).other (by have:=hk y hy;omega) x
structure QG (w:World) (g B:Nat) (v:Value) (n K r1 r2:Nat) (L:List (Nat × TypeId × Array Value)) (T1 T2:TypeId) (xs ys:Array Value) (W:World):Prop where
 rd:Ml w g B v n K W
 hV:∀ x ∈ L,aG W x.1 x.2.1 x.2.2
 R:aG W r1 T1 xs
 Q:aG W r2 T2 ys
 hn:w.heap.size<=r1/\r1<r2/\g≠r1/\g≠r2/\B<=r1
 hL:∀ x ∈ L,r2<x.1
theorem QG.drew {w W:World} {g B n K r1 r2:Nat} {v:Value} {L:List (Nat × TypeId × Array Value)} {T1 T2:TypeId} {xs ys:Array Value} (h:QG w g B v n K r1 r2 L T1 T2 xs ys W):QG w g B v n K r1 r2 L T1 T2 xs ys W.drew:=
 ⟨h.rd.keep (KS _ _).drew,h.hV,h.R,h.Q,h.hn,h.hL⟩
theorem QG.put1 {w W:World} {g B n K r1 r2:Nat} {v:Value} {L:List (Nat × TypeId × Array Value)} {T1 T2:TypeId} {u1 u2:Value} {ys:Array Value} (h:QG w g B v n K r1 r2 L T1 T2 #[u1,u2] ys W) (x y:Value):QG w g B v n K r1 r2 L T1 T2 #[x,y] ys ((W.setCell ⟨r1,0,none⟩ x).setCell ⟨r1,1,none⟩ y):=by
 have hn:=h.hn
 have hL:∀ y ∈ L,r1<y.1:=fun y hy=>Nat.lt_trans hn.2.1 (h.hL y hy)
 exact ⟨(h.rd.put ω ω ω 0 _).put ω ω ω 1 _,aG.qv (aG.qv h.hV hL) hL,h.R.set2 _ _,(h.Q.other ω _).other ω _,hn,h.hL⟩
theorem QG.J4 {w W:World} {g B n K r1 r2:Nat} {v:Value} {L:List (Nat × TypeId × Array Value)} {T1 T2:TypeId} {u1 u2 u3:Value} {xs:Array Value} (h:QG w g B v n K r1 r2 L T1 T2 xs #[u1,u2,u3] W) (x y z:Value):QG w g B v n K r1 r2 L T1 T2 xs #[x,y,z] (((W.setCell ⟨r2,0,none⟩ x).setCell ⟨r2,1,none⟩ y).setCell ⟨r2,2,none⟩ z):=by
 have hn:=h.hn;have hL:=h.hL;exact ⟨((h.rd.put ω ω ω 0 _).put ω ω ω 1 _).put ω ω ω 2 _,aG.qv (aG.qv (aG.qv h.hV hL) hL) hL,((h.R.other ω _).other ω _).other ω _,h.Q.Hi _ _ _,hn,hL⟩
def H3 (w:World) (g B:Nat) (v:Value) (n K:Nat) (e:Ending) (w':World):Prop:=
 ∃ a b X Y E:Int,e=.returned (.tuple #[.agg #[a,b],.agg #[X,Y,E]])/\Hid (M.good a b=true/\aV a b X Y E=true)/\dh w' g B v n K/\w.grownBy w' (some g)
def AO (w:World) (g B:Nat) (v:Value) (n K:Nat) (e:Ending) (w':World):Prop:=
 ∃ X Y E:Int,e=.returned (.agg #[X,Y,E])/\dh w' g B v n K/\w.grownBy w' (some g)
theorem ei.keepW {w w':World} {B n:Nat} {v:Value} (h:ei w B v n) (hb:Below B w w'):ei w' B v n:=by
 obtain ⟨A,cap,e,hn,hx⟩:=h;refine ⟨A,cap,e,hn,fun j hj=>?_⟩;obtain ⟨gb,ob,b,e,hgb,hc,h1,h2⟩:=hx j hj;exact ⟨gb,ob,b,e,hgb,(hb.cell (p:=⟨gb,ob+j,none⟩) hgb).trans hc,h1,h2⟩
theorem ei.HY {w:World} {B B' n:Nat} {v:Value} (h:ei w B v n) (hB:B<=B'):ei w B' v n:=by
 obtain ⟨A,cap,e,hn,hx⟩:=h;refine ⟨A,cap,e,hn,fun j hj=>?_⟩;obtain ⟨gb,ob,b,e,hgb,hc,h1,h2⟩:=hx j hj;exact ⟨gb,ob,b,e,ω,hc,h1,h2⟩
theorem St.Jw {w W:World} {v:Value} {n:Nat} (h:ei w w v n) (hb:Below w w W) (T:TypeId) :
  St w (W.alloc (.cells #[v,(0:Int),.int .u64 0] T)) W w v n 0:=by
 have hb2:Below w w (W.alloc (.cells #[v,(0:Int),.int .u64 0] T)):=hb.alloc hb.size _;refine ⟨⟨0,KT _,⟨h.keepW hb2,hb.size,?_,?_,⟨0,?_⟩,by simp [go_sem],by simp [go_sem],by rw [KQ];omega⟩⟩,bT hb2 _,hb.size⟩
 all_goals (rw [World.cell?_alloc_at _ _ _ _ rfl];rfl)
theorem Ml.below {w W:World} {g B n K:Nat} {v:Value} (h:Ml w g B v n K W) (hg:w.heap.size<=g):Below w w W:=cw h.2 (KT _) fun k hk=>by cases hk;exact hg
theorem M.DD {x y a b:Int} (h1:-200<=x) (h2:x<=200) (hb:b=y*y - x*x*x - a*x):aV a b x y 1=true:=
 wB ω ω (by rw [hb];unfold M.cv;grind)
theorem BM (g B:Nat) (v:Value) (n K:Nat) (w:World) (h:dh w g B v n K) (hk:K<=700000000) :
  Calls prog 151 #[.pointer (some ⟨g,0,none⟩)] w (H3 w g B v n (K+20)):=by
 have hl:=h.size;obtain ⟨wc,hw3,R,Q,BB⟩:=dQ w #[(0:Int),(0:Int)] 24 #[(0:Int),(0:Int),(0:Int)] 47;have st:=(St.start h).keep BB;have hB:=st.lt;have hwc:=BB.size
 have nR:w.heap.size≠g:=ω
 have nQ:w.heap.size+1≠g:=ω
 clear h BB;go_enter func151,ntmps151
 go_wp2_with fail
 refine (gt g B v n _ 6 _ st.cur ω ω ω).mono ?_;rintro e X6 ⟨x,rfl,⟨x_lo,x_hi⟩,Kb,KZ⟩;replace st:=st.call Kb KZ;have sz_x:=KZ.size;replace R:=R.bf KZ nR;replace Q:=Q.bf KZ nQ
 by_cases x0:x=0
 ·subst x0
  have L1:=(aG.new X6 #[(0:Int),(4:Int),(0:Int),(1:Int),(4:Int),(0:Int),(-1:Int),(0:Int),(-43:Int),(166:Int),(0:Int),(-432:Int)] 24).alloc (.cells #[(0:Int),(2:Int),(1:Int),(2:Int),(3:Int),(1:Int),(2:Int),(4:Int),(1:Int),(1:Int),(0:Int),(1:Int),(3:Int),(8:Int),(1:Int),(12:Int),(36:Int),(1:Int)] 47);have L2:=aG.new (X6.alloc (.cells #[(0:Int),(4:Int),(0:Int),(1:Int),(4:Int),(0:Int),(-1:Int),(0:Int),(-43:Int),(166:Int),(0:Int),(-432:Int)] 24)) #[(0:Int),(2:Int),(1:Int),(2:Int),(3:Int),(1:Int),(2:Int),(4:Int),(1:Int),(1:Int),(0:Int),(1:Int),(3:Int),(8:Int),(1:Int),(12:Int),(36:Int),(1:Int)] 47;rw [KQ] at L2;have zx:=st.size;have zy:=st.le;have zq:=Q.lt;replace st:=st.alloc (.cells #[(0:Int),(4:Int),(0:Int),(1:Int),(4:Int),(0:Int),(-1:Int),(0:Int),(-43:Int),(166:Int),(0:Int),(-432:Int)] 24);replace R:=R.alloc (.cells #[(0:Int),(4:Int),(0:Int),(1:Int),(4:Int),(0:Int),(-1:Int),(0:Int),(-43:Int),(166:Int),(0:Int),(-432:Int)] 24);replace Q:=Q.alloc (.cells #[(0:Int),(4:Int),(0:Int),(1:Int),(4:Int),(0:Int),(-1:Int),(0:Int),(-43:Int),(166:Int),(0:Int),(-432:Int)] 24);replace st:=st.alloc (.cells #[(0:Int),(2:Int),(1:Int),(2:Int),(3:Int),(1:Int),(2:Int),(4:Int),(1:Int),(1:Int),(0:Int),(1:Int),(3:Int),(8:Int),(1:Int),(12:Int),(36:Int),(1:Int)] 47);replace R:=R.alloc (.cells #[(0:Int),(2:Int),(1:Int),(2:Int),(3:Int),(1:Int),(2:Int),(4:Int),(1:Int),(1:Int),(0:Int),(1:Int),(3:Int),(8:Int),(1:Int),(12:Int),(36:Int),(1:Int)] 47);replace Q:=Q.alloc (.cells #[(0:Int),(2:Int),(1:Int),(2:Int),(3:Int),(1:Int),(2:Int),(4:Int),(1:Int),(1:Int),(0:Int),(1:Int),(3:Int),(8:Int),(1:Int),(12:Int),(36:Int),(1:Int)] 47)
  have n1:X6.heap.size≠g:=ω
  have n2:X6.heap.size+1≠g:=ω
  go_wp2_with fail
  refine (gt g B v n _ 6 _ st.cur ω ω ω).mono ?_;rintro e w_k ⟨k,rfl,⟨k_lo,k_hi⟩,Kb,KZ⟩;replace st:=st.call Kb KZ;have sz_k:=KZ.size;replace R:=R.bf KZ nR;replace Q:=Q.bf KZ nQ;replace L1:=L1.bf KZ n1;replace L2:=L2.bf KZ n2;generalize X6.heap.size=G at *
  obtain ⟨j,rfl⟩:∃ j:Nat,k=j:=⟨k.toNat,ω⟩
  obtain ⟨a,b,X,Y,q0,q1,q2,q3,q4,hp⟩:∃ a b X Y:Int,(#[(0:Int),(4:Int),(0:Int),(1:Int),(4:Int),(0:Int),(-1:Int),(0:Int),(-43:Int),(166:Int),(0:Int),(-432:Int)]:Array Value)[j*2]?=some (.int .i64 a)/\(#[(0:Int),(4:Int),(0:Int),(1:Int),(4:Int),(0:Int),(-1:Int),(0:Int),(-43:Int),(166:Int),(0:Int),(-432:Int)]:Array Value)[j*2+1]?=some (.int .i64 b)/\(#[(0:Int),(2:Int),(1:Int),(2:Int),(3:Int),(1:Int),(2:Int),(4:Int),(1:Int),(1:Int),(0:Int),(1:Int),(3:Int),(8:Int),(1:Int),(12:Int),(36:Int),(1:Int)]:Array Value)[j*3]?=some (.int .i64 X)/\(#[(0:Int),(2:Int),(1:Int),(2:Int),(3:Int),(1:Int),(2:Int),(4:Int),(1:Int),(1:Int),(0:Int),(1:Int),(3:Int),(8:Int),(1:Int),(12:Int),(36:Int),(1:Int)]:Array Value)[j*3+1]?=some (.int .i64 Y)/\(#[(0:Int),(2:Int),(1:Int),(2:Int),(3:Int),(1:Int),(2:Int),(4:Int),(1:Int),(1:Int),(0:Int),(1:Int),(3:Int),(8:Int),(1:Int),(12:Int),(36:Int),(1:Int)]:Array Value)[j*3+2]?=some (.int .i64 1)/\Hid (M.good a b=true/\aV a b X Y 1=true):=by
   have hj:j<6:=ω
   match j,hj with
   | 0,_=>exact ⟨0,4,0,2,rfl,rfl,rfl,rfl,rfl,KO δ⟩
   | 1,_=>exact ⟨0,1,2,3,rfl,rfl,rfl,rfl,rfl,KO δ⟩
   | 2,_=>exact ⟨4,0,2,4,rfl,rfl,rfl,rfl,rfl,KO δ⟩
   | 3,_=>exact ⟨(-1),0,1,0,rfl,rfl,rfl,rfl,rfl,KO δ⟩
   | 4,_=>exact ⟨(-43),166,3,8,rfl,rfl,rfl,rfl,rfl,KO δ⟩
   | 5,_=>exact ⟨0,(-432),12,36,rfl,rfl,rfl,rfl,rfl,KO δ⟩
  generalize (#[(0:Int),(4:Int),(0:Int),(1:Int),(4:Int),(0:Int),(-1:Int),(0:Int),(-43:Int),(166:Int),(0:Int),(-432:Int)]:Array Value)=xs1 at *;generalize (#[(0:Int),(2:Int),(1:Int),(2:Int),(3:Int),(1:Int),(2:Int),(4:Int),(1:Int),(1:Int),(0:Int),(1:Int),(3:Int),(8:Int),(1:Int),(12:Int),(36:Int),(1:Int)]:Array Value)=xs2 at *
  go_upto_region 6 with fail
  have TW:QG w g B v n _ w (w.heap.size+1) [(G,24,xs1),(G+1,47,xs2)] 24 47 _ _ _:=⟨⟨st.cur,st.gr⟩,fun x hx=>(by rcases List.mem_cons.1 hx with rfl | hx;exact L1;rcases List.mem_cons.1 hx with rfl | hx;exact L2;cases hx),R,Q,⟨KT _,ω,ω,ω,ω⟩,fun x hx=>(by rcases List.mem_cons.1 hx with rfl | hx;(show w.heap.size+1<G;omega);rcases List.mem_cons.1 hx with rfl | hx;(show w.heap.size+1<G+1;omega);cases hx)⟩
  clear st R Q L1 L2;refine FB (fun l W=>QG w g B v n (K+2+2) w (w.heap.size+1) [(G,24,xs1),(G+1,47,xs2)] 24 47 (bif l 8 then #[a,b] else #[(0:Int),(0:Int)]) (bif l 9 then #[X,Y,(1:Int)] else #[(0:Int),(0:Int),(0:Int)]) W) (fun _ _ _=>True) (fun _ _=>True) [8,9] [.slice (some ⟨G,0,none⟩) 6 6,.int .i64 (j:Int),.pointer (some ⟨G,j*2,none⟩),.agg #[a,b],.slice (some ⟨G+1,0,none⟩) 6 6,.int .i64 (j:Int),.pointer (some ⟨G+1,j*3,none⟩),.agg #[X,Y,(1:Int)],undef,undef] κ κ δ (fun l l2 W h q=>by rw [←h 8 δ,←h 9 δ];exact q) (fun _ _ _ _ _ _=>trivial) TW.drew ⟨?_,?_,?_,?_,?_,?_,?_,?_,?_,?_,trivial⟩ ?_
  ·unfold bP
   intro zZ w_ l_ d_ Kp LU LB LK Kq Kb hr;refine ⟨rfl,?_⟩;rw [if_neg δ];have e4:zZ.tmps[4]?=some (.slice (some ⟨G,0,none⟩) 6 6):=hr 4 δ;go_simp
  ·exact ZU
  ·unfold bP
   intro zZ w_ l_ d_ Kp LU LB LK Kq Kb hr;refine ⟨rfl,?_⟩;rw [if_neg δ];have e33:zZ.tmps[33]?=some (.slice (some ⟨G,0,none⟩) 6 6):=hr 33 δ;have e34:zZ.tmps[34]?=some (.int .i64 (j:Int)):=hr 34 δ
   have TP:(j:Int)<6:=ω
   have We:j<6:=ω
   exact Lg
  ·unfold bP
   intro zZ w_ l_ d_ Kp LU LB LK Kq Kb hr;refine ⟨rfl,?_⟩;rw [if_neg δ];have e35:zZ.tmps[35]?=some (.pointer (some ⟨G,j*2,none⟩)):=hr 35 δ;have Ke:aG w_ G 24 xs1:=Kp.hV (G,24,xs1) σ;have k0:=(Ke.cell (j*2)).trans q0;have k1:=(Ke.cell (j*2+1)).trans q1
   exact Lg
  ·unfold bP
   intro zZ w_ l_ d_ Kp LU LB LK Kq Kb hr;refine ⟨rfl,?_⟩;rw [if_neg δ];have e5:zZ.tmps[5]?=some (.slice (some ⟨G+1,0,none⟩) 6 6):=hr 5 δ;go_simp
  ·exact ZU
  ·unfold bP
   intro zZ w_ l_ d_ Kp LU LB LK Kq Kb hr;refine ⟨rfl,?_⟩;rw [if_neg δ];have e37:zZ.tmps[37]?=some (.slice (some ⟨G+1,0,none⟩) 6 6):=hr 37 δ;have e38:zZ.tmps[38]?=some (.int .i64 (j:Int)):=hr 38 δ
   have TP:(j:Int)<6:=ω
   have We:j<6:=ω
   exact Lg
  ·unfold bP
   intro zZ w_ l_ d_ Kp LU LB LK Kq Kb hr;refine ⟨rfl,?_⟩;rw [if_neg δ];have e39:zZ.tmps[39]?=some (.pointer (some ⟨G+1,j*3,none⟩)):=hr 39 δ;have Ke:aG w_ (G+1) 47 xs2:=Kp.hV (G+1,47,xs2) σ;have k0:=(Ke.cell (j*3)).trans q2;have k1:=(Ke.cell (j*3+1)).trans q3;have k2:=(Ke.cell (j*3+2)).trans q4
   exact Lg
  ·unfold bP
   intro zZ w_ l_ d_ Kp LU LB LK Kq Kb hr;have e2:zZ.tmps[2]?=some (.pointer (some ⟨w,0,none⟩)):=hr 2 δ;have e36:zZ.tmps[36]?=some (.agg #[a,b]):=hr 36 δ;refine ⟨rfl,?_⟩;rw [if_pos δ];have q_:=Kp;simp only [LB,cond_false] at q_;have OM:=And.intro (q_.put1 (.int .i64 a) (.int .i64 b)) (And.intro True.intro True.intro)
   skip
   have ⟨WV,WW,Wb,Wc,_⟩:=q_.R.box;exact R8
  ·unfold bP
   intro zZ w_ l_ d_ Kp LU LB LK Kq Kb hr;have e3:zZ.tmps[3]?=some (.pointer (some ⟨w.heap.size+1,0,none⟩)):=hr 3 δ;have e40:zZ.tmps[40]?=some (.agg #[X,Y,(1:Int)]):=hr 40 δ;refine ⟨rfl,?_⟩;rw [if_pos δ];have q_:=Kp;simp only [LB,cond_false] at q_;have OM:=And.intro (q_.J4 (.int .i64 X) (.int .i64 Y) (.int .i64 1)) (And.intro True.intro True.intro);have ⟨WV,WW,c2_,Wb,Wc,f2_⟩:=q_.Q.bQ;exact R8
  intro vals wz Kp hF hv;simp only [bD,Rg.fill,Act.put,Nat.reduceAdd];simp only [cond_true] at Kp;obtain ⟨⟨Kb,KZ⟩,-,R,Q,-,-⟩:=Kp;have ⟨Sq,Sr,B_,C_,Ss⟩:=R.box;have ⟨Q_0,Q_1,Q_2,Qz,Q0,Q3⟩:=Q.bQ;have Q_l:=Q.lt;go_wp2;exact KU results151 ⟨a,b,X,Y,1,rfl,hp,Kb.mono ω,KZ⟩
 by_cases x1:x=1
 ·subst x1
  have ⟨Sq,Sr,B_,C_,Ss⟩:=R.box;have ⟨Q_0,Q_1,Q_2,Qz,Q0,Q3⟩:=Q.bQ;have Q_l:=Q.lt;go_wp2;exact KU (v:=.tuple #[.agg #[(-16:Int),(16:Int)],.agg #[(0:Int),(4:Int),(1:Int)]]) results151 ⟨(-16),16,0,4,1,rfl,KO δ,(((((st.aQ (c:=w.heap.size) (o:=0) ω ω ω (.int .i64 (-16))).aQ (c:=w.heap.size) (o:=1) ω ω ω (.int .i64 16)).aQ (c:=w.heap.size+1) (o:=0) ω ω ω (.int .i64 0)).aQ (c:=w.heap.size+1) (o:=1) ω ω ω (.int .i64 4)).aQ (c:=w.heap.size+1) (o:=2) ω ω ω (.int .i64 1)).cur.mono ω,(((((st.aQ (c:=w.heap.size) (o:=0) ω ω ω (.int .i64 (-16))).aQ (c:=w.heap.size) (o:=1) ω ω ω (.int .i64 16)).aQ (c:=w.heap.size+1) (o:=0) ω ω ω (.int .i64 0)).aQ (c:=w.heap.size+1) (o:=1) ω ω ω (.int .i64 4)).aQ (c:=w.heap.size+1) (o:=2) ω ω ω (.int .i64 1)).gr⟩
 by_cases x2:x=2
 ·subst x2
  have ⟨Sq,Sr,B_,C_,Ss⟩:=R.box;have ⟨Q_0,Q_1,Q_2,Qz,Q0,Q3⟩:=Q.bQ;have Q_l:=Q.lt;go_wp2;exact KU (v:=.tuple #[.agg #[(-25:Int),(0:Int)],.agg #[(-4:Int),(6:Int),(1:Int)]]) results151 ⟨(-25),0,(-4),6,1,rfl,KO δ,(((((st.aQ (c:=w.heap.size) (o:=0) ω ω ω (.int .i64 (-25))).aQ (c:=w.heap.size) (o:=1) ω ω ω (.int .i64 0)).aQ (c:=w.heap.size+1) (o:=0) ω ω ω (.int .i64 (-4))).aQ (c:=w.heap.size+1) (o:=1) ω ω ω (.int .i64 6)).aQ (c:=w.heap.size+1) (o:=2) ω ω ω (.int .i64 1)).cur.mono ω,(((((st.aQ (c:=w.heap.size) (o:=0) ω ω ω (.int .i64 (-25))).aQ (c:=w.heap.size) (o:=1) ω ω ω (.int .i64 0)).aQ (c:=w.heap.size+1) (o:=0) ω ω ω (.int .i64 (-4))).aQ (c:=w.heap.size+1) (o:=1) ω ω ω (.int .i64 6)).aQ (c:=w.heap.size+1) (o:=2) ω ω ω (.int .i64 1)).gr⟩
 have b0:(x == 0)=false:=by simpa using x0
 have b1:(x == 1)=false:=by simpa using x1
 have b2:(x == 2)=false:=by simpa using x2
 go_wp2_with fail
 refine (gt g B v n _ 21 _ st.cur ω ω ω).mono ?_;rintro e w_x3 ⟨x3,rfl,⟨x3_lo,x3_hi⟩,Kb,KZ⟩;replace st:=st.call Kb KZ;have sz_x3:=KZ.size;replace R:=R.bf KZ nR;replace Q:=Q.bf KZ nQ
 go_wp2_with fail
 refine (gt g B v n _ 31 _ st.cur ω ω ω).mono ?_;rintro e w_y3 ⟨y3,rfl,⟨y3_lo,y3_hi⟩,Kb,KZ⟩;replace st:=st.call Kb KZ;have sz_y3:=KZ.size;replace R:=R.bf KZ nR;replace Q:=Q.bf KZ nQ
 go_wp2_with fail
 refine (gt g B v n _ 31 _ st.cur ω ω ω).mono ?_;rintro e Uc ⟨a3,rfl,⟨a3_lo,a3_hi⟩,Kb,KZ⟩;replace st:=st.call Kb KZ;have sz_a3:=KZ.size;replace R:=R.bf KZ nR;replace Q:=Q.bf KZ nQ
 go_upto_region 13 with fail
 have hx1:-10<=x3 - 10:=ω
 have hx2:x3 - 10<=10:=ω
 have hy1:-15<=y3 - 15:=ω
 have hy2:y3 - 15<=15:=ω
 have ha1:-15<=a3 - 15:=ω
 have ha2:a3 - 15<=15:=ω
 clear x0 x1 x2 b0 b1 b2;generalize a3 - 15=a,y3 - 15=Y,x3 - 10=X at *;have m1:=aH (x:=Y) (y:=Y) (m:=15) (n:=15);have m2:=aH (x:=X) (y:=X) (m:=10) (n:=10);have m3:=aH (x:=X*X) (y:=X) (m:=100) (n:=10);have m4:=aH (x:=a) (y:=X) (m:=15) (n:=10)
 have hpt:∀ b,b=Y*Y - X*X*X - a*X->aV a b X Y 1=true:=fun b hb=>DD ω ω hb
 replace hpt:=KO hpt;have E:=aG.new Uc #[a,(Y*Y - X*X*X - a*X:Int)] 24;have zx:=st.size;have zy:=st.le;have zq:=Q.lt;replace st:=st.alloc (.cells #[a,(Y*Y - X*X*X - a*X:Int)] 24);replace R:=R.alloc (.cells #[a,(Y*Y - X*X*X - a*X:Int)] 24);replace Q:=Q.alloc (.cells #[a,(Y*Y - X*X*X - a*X:Int)] 24)
 have nE:Uc.heap.size≠g:=ω
 have HG:=fun w=>jo a (Y*Y - X*X*X - a*X) w
 replace hpt:=KO (hpt.out _ rfl);have ⟨E_0,E_1,E_f0,E_f1,E_l⟩:=E.box
 go_wp2_with fail
 generalize Y*Y - X*X*X - a*X=b,Uc.heap.size=G at *
 cases hg:M.good a b <;> rw [hg] at HG <;> replace HG:=KO HG <;> replace hg:=KO hg
 all_goals
  refine (HG.out _).mono ?_;rintro e w9 ⟨rfl,Kr⟩;replace ⟨st,R,Q,E⟩:=Kl Kr st R Q E;have ⟨Sq,Sr,B_,C_,Ss⟩:=R.box;have ⟨Q_0,Q_1,Q_2,Qz,Q0,Q3⟩:=Q.bQ;have Q_l:=Q.lt;have ⟨E_0,E_1,E_f0,E_f1,E_l⟩:=E.box;go_wp2
 ·skip
  exact KU (v:=.tuple #[.agg #[(-2:Int),(1:Int)],.agg #[(0:Int),(1:Int),(1:Int)]]) results151 ⟨(-2),1,0,1,1,rfl,KO δ,(((((st.aQ (c:=w.heap.size) (o:=0) ω ω ω (.int .i64 (-2))).aQ (c:=w.heap.size) (o:=1) ω ω ω (.int .i64 1)).aQ (c:=w.heap.size+1) (o:=0) ω ω ω (.int .i64 0)).aQ (c:=w.heap.size+1) (o:=1) ω ω ω (.int .i64 1)).aQ (c:=w.heap.size+1) (o:=2) ω ω ω (.int .i64 1)).cur.mono ω,(((((st.aQ (c:=w.heap.size) (o:=0) ω ω ω (.int .i64 (-2))).aQ (c:=w.heap.size) (o:=1) ω ω ω (.int .i64 1)).aQ (c:=w.heap.size+1) (o:=0) ω ω ω (.int .i64 0)).aQ (c:=w.heap.size+1) (o:=1) ω ω ω (.int .i64 1)).aQ (c:=w.heap.size+1) (o:=2) ω ω ω (.int .i64 1)).gr⟩
 skip
 exact KU results151 ⟨a,b,X,Y,1,rfl,KO ⟨hg.out,hpt.out⟩,(((((st.aQ (c:=w.heap.size) (o:=0) ω ω ω (.int .i64 a)).aQ (c:=w.heap.size) (o:=1) ω ω ω (.int .i64 b)).aQ (c:=w.heap.size+1) (o:=0) ω ω ω (.int .i64 X)).aQ (c:=w.heap.size+1) (o:=1) ω ω ω (.int .i64 Y)).aQ (c:=w.heap.size+1) (o:=2) ω ω ω (.int .i64 1)).cur.mono ω,(((((st.aQ (c:=w.heap.size) (o:=0) ω ω ω (.int .i64 a)).aQ (c:=w.heap.size) (o:=1) ω ω ω (.int .i64 b)).aQ (c:=w.heap.size+1) (o:=0) ω ω ω (.int .i64 X)).aQ (c:=w.heap.size+1) (o:=1) ω ω ω (.int .i64 Y)).aQ (c:=w.heap.size+1) (o:=2) ω ω ω (.int .i64 1)).gr⟩
end
section
open Gr M Rg Rw Wh
namespace M
theorem pV {a b X Y E:Int} (hg:good a b=true) (hp:aV a b X Y E=true):∀ n p,Lq a X Y E n=some p->da p.1 p.2.1 p.2.2=r_.mul a n (da X Y E)
 | 0,p,h=>by
  cases h
  exact uF 0 0
 | n+1,p,h=>by
  cases hq:Lq a X Y E n with
  | none=>
   have:=kU hq (n+1) ω;rw [this] at h;cases h
  | some q=>
  rw [iZ hq] at h
  split at h
  ·rename_i hk
   cases h
   have ih:=pV hg hp n q hq;have:=sv hg (jM hg hp n q hq) hp hk;rw [ih] at this;exact this
  cases h
theorem zJ {a X Y E:Int}:∀ (f n k:Nat),rR a X Y E f n=some k->n<=k/\k<n+f/\∃ p,Lq a X Y E k=some p/\p.2.2=0
 | 0,n,k,h=>by cases h
 | f+1,n,k,h=>by
  cases ht:Lq a X Y E n with
  | none=>rw [sU ht] at h;cases h
  | some p=>
  rw [nw ht] at h
  split at h
  ·rename_i he
   cases h
   exact ⟨KT _,ω,p,ht,he⟩
  obtain ⟨h1,h2,h3⟩:=zJ f (n+1) k h;exact ⟨ω,ω,h3⟩
theorem zK {a b X Y E:Int} (hg:good a b=true) (hp:aV a b X Y E=true) (h:(mZ a X Y E).isSome=true):∃ n:Nat,1<=n/\n<=12/\r_.mul a n (da X Y E)=.O:=by
 obtain ⟨n,hn⟩:=Option.isSome_iff_exists.1 h;obtain ⟨h1,h2,p,h3,h4⟩:=zJ 12 1 n hn;refine ⟨n,h1,ω,?_⟩;rw [←pV hg hp n p h3,h4];exact uF _ _
theorem uq {a b:Int} {p:LM}:∀ (m j:Nat),j<m->p ∈ gW a b ((j:Int) - 3000)->p ∈ di a b m
 | 0,j,h,_=>ω
 | m+1,j,h,hp=>by
  refine List.mem_append.2 ?_
  by_cases e:j=m
  ·subst e;exact Or.inr hp
  exact Or.inl (uq m j ω hp)
theorem Cq {a b X Y:Int} (ha1:-1000<=a) (ha2:a<=1000) (hb1:-10000<=b) (hb2:b<=10000) (h:Y*Y=X*X*X+a*X+b) (hd:Y*Y<=10000000000):-3000<=X/\X<=3000:=by
 have Ni:0<=Y*Y:=by rcases Int.le_total 0 Y with q | q;exact Int.mul_nonneg q q;exact Int.mul_nonneg_of_nonpos_of_nonpos q q
 have key:∀ t:Int,3001<=t->27000000000<=t*t*t - 1000*t - 10000:=fun t ht=>by
  have h1:9000000<=t*t:=Int.le_trans δ (Int.mul_le_mul (show 3000<=t by omega) (show 3000<=t by omega) δ ω);have h2:=Int.mul_le_mul (show 8999000<=t*t - 1000 by omega) ht δ ω
  have e:t*t*t - 1000*t=(t*t - 1000)*t:=φ
  omega
 constructor
 ·rcases Int.lt_or_le X (-3000) with q | q
  ·have h1:=key (-X) ω
   have e:-X*-X*-X=-(X*X*X):=φ
   have h2:a*X<=1000*-X:=by
    have h5:a*X=(-a)*(-X):=by rw [Int.neg_mul_neg]
    rw [h5];exact Int.mul_le_mul_of_nonneg_right ω ω
   omega
  exact q
 rcases Int.lt_or_le 3000 X with q | q
 ·have h1:=key X ω
  have h2:-(1000*X)<=a*X:=by
   have h6:=Int.mul_le_mul_of_nonneg_right (show -1000<=a by omega) (show 0<=X by omega);omega
  omega
 exact q
theorem Ew {a b X Y E:Int} (hg:good a b=true) (hp:aV a b X Y E=true) (hE:E≠0) (h:(mZ a X Y E).isSome=true):(X,Y,E) ∈ di a b 6001:=by
 obtain ⟨n,hn1,hn2,hm⟩:=zK hg hp h;have hd:=Am hg;have hon:=gH hp;obtain ⟨hx,hz⟩:=ED hp hE;obtain ⟨hX,hE1,hc,hY⟩:=kN hp hE;obtain ⟨ha1,ha2,hb1,hb2⟩:=ag (ae hg)
 have hO:da X Y E≠.O:=fun e=>by rw [e] at hz;have:E*E≠0:=Int.mul_ne_zero hE hE;exact this hz.symm
 have h1:r_.pz (da X Y E)=1:=(r_.AG hd n hn1 hn2 _ hon hm).resolve_left hO
 have hE2:E=1:=by
  rw [hz] at h1
  rcases Int.lt_or_le 1 E with q | q
  ·have:=Int.mul_le_mul (show 2<=E by omega) (show 2<=E by omega) δ ω
   omega
  omega
 subst hE2
 have hcv:Y*Y=X*X*X+a*X+b:=by rw [hY];unfold cv;grind
 have hdv:Y=0∨Y*Y ∣ aN a b:=by
  obtain ⟨d,hd0,-,e1,e2⟩:=r_.uz hd hon;rw [hx,h1] at e1 e2
  have hm2:r_.mul a n (r_.add a (da X Y 1) (da X Y 1))=.O:=by
   rw [r_.tn (r_.dP hd) hon,r_.gl (r_.dP hd) hon,hm];rfl
  rcases r_.AG hd n hn1 hn2 _ (r_.eS (r_.dP hd) hon hon) hm2 with q | q
  ·rw [q] at e2
   have e3:ah a b X 1=0:=by rw [e2];show d*0=0;omega
   left
   have e4:ah a b X 1=4*(Y*Y):=by unfold ah;rw [hcv];grind
   have e5:Y*Y=0:=ω
   rcases Int.mul_eq_zero.1 e5 with q | q <;> exact q
  rw [q,Int.mul_one] at e2;exact Or.inr (r_.KN hcv e1 e2)
 have hbd:=yf (ae hg)
 have hyb:Y*Y<=10000000000:=by
  rcases hdv with q | q
  ·rw [q];decide
  have h2:=Int.natAbs_dvd_natAbs.2 q;have h3:=Nat.le_of_dvd ω h2
  have Ni:0<=Y*Y:=by rcases Int.le_total 0 Y with q | q;exact Int.mul_nonneg q q;exact Int.mul_nonneg_of_nonpos_of_nonpos q q
  omega
 obtain ⟨x1,x2⟩:=Cq ha1 ha2 hb1 hb2 hcv hyb;refine uq 6001 (X+3000).toNat ω ?_
 have hxe:((X+3000).toNat:Int) - 3000=X:=ω
 rw [hxe];unfold gW;have K8:jF (cv a b X 1)=true:=mV hY;rw [if_pos K8]
 have hrt:rt (cv a b X 1)=Y∨rt (cv a b X 1)=-Y:=by
  rcases Int.le_total 0 Y with q | q
  ·exact Or.inl (uL q hY)
  exact Or.inr (uL ω (by rw [Int.neg_mul_neg];exact hY))
 by_cases h0:Y=0
 ·have:rt (cv a b X 1)=0:=by rcases hrt with q | q <;> omega
  rw [if_pos this,h0];exact List.mem_singleton.2 rfl
 have hne:rt (cv a b X 1)≠0:=by rcases hrt with q | q <;> omega
 have hrr:rt (cv a b X 1)*rt (cv a b X 1)=Y*Y:=by
  rcases hrt with q | q <;> rw [q]
  exact Int.neg_mul_neg _ _
 rw [if_neg hne,if_pos (by rw [hrr];exact Int.tmod_eq_zero_of_dvd (hdv.resolve_left h0))];simp only [List.mem_cons,Prod.mk.injEq,true_and,and_true,List.not_mem_nil,or_false]
 rcases hrt with q | q <;> omega
theorem Jz (a:Int):(mZ a 0 0 0).isSome=true:=by
 have h0:Lq a 0 0 0 0=some (0,0,0):=rfl
 have h1:Lq a 0 0 0 1=some (0,0,0):=by
  rw [iZ h0];rfl
 unfold mZ;rw [nw h1];rfl
theorem Ez {a b X Y E:Int} (hg:good a b=true) (hp:aV a b X Y E=true):decide ((X,Y,E) ∈ oV a b)=(mZ a X Y E).isSome:=by
 unfold oV
 cases h:(mZ a X Y E).isSome with
 | true=>
  refine decide_eq_true ?_
  by_cases hE:E=0
  ·obtain ⟨rfl,rfl⟩:=I1 hp hE
   subst hE;exact List.mem_cons_self
  exact List.mem_cons_of_mem _ (List.mem_filter.2 ⟨Ew hg hp hE h,h⟩)
 | false=>
 refine decide_eq_false fun hm=>?_
 rcases List.mem_cons.1 hm with q | q
 ·cases q
  rw [Jz] at h;cases h
 have:=(List.mem_filter.1 q).2;unfold iC at this;rw [h] at this;cases this
end M
end
section
open Go.RowKit open Gr M Rg Rw Wh
namespace M
theorem vw {n:Int} (h1:-144<=n) (h2:n<=144):pn (n*4096)=n/\pd (n*4096)=1:=by
 have hg:M.gcd (n*4096) 4096=4096:=by
  unfold M.gcd Int.gcd;rw [Int.natAbs_mul]
  show ((Nat.gcd (n.natAbs*4096) 4096:Nat):Int)=4096
  rw [Nat.gcd_mul_left_left];rfl
 have hf:=pJ (a:=n*4096) (g:=4096) (q:=1) (n:=n) hg δ δ rfl
 have ho:iw n 1=true:=by
  unfold iw;simp [M.ins,M.gcd]
  omega
 rw [ho,if_pos rfl] at hf;unfold pn pd;rw [hf];exact ⟨rfl,rfl⟩
end M
theorem Ao (p:Int × Int) (n:Int) (w:World) (hp:aJ p.1 p.2=true) (h1:-144<=n) (h2:n<=144) :
  cB 47 #[.agg #[M.Kc (some p),M.Kf (some p),M.Kg (some p),M.Kh (some p)],n] w (.tuple #[.agg #[M.Kc (cn (some (n*4096,n*4096)) (some p)),M.Kf (cn (some (n*4096,n*4096)) (some p)),M.Kg (cn (some (n*4096,n*4096)) (some p)),M.Kh (cn (some (n*4096,n*4096)) (some p))],.bool (cn (some (n*4096,n*4096)) (some p)).isSome]):=by
 have PM:=fun W=>qZ (n*4096,n*4096) p W (by unfold aJ;simp;omega) hp
 obtain ⟨k1,k2⟩:=vw h1 h2;have e1:M.Kc (some (n*4096,n*4096))=n:=k1;have e2:M.Kf (some (n*4096,n*4096))=1:=k2;have e3:M.Kg (some (n*4096,n*4096))=n:=k1;have e4:M.Kh (some (n*4096,n*4096))=1:=k2;rw [e1,e2,e3,e4] at PM;clear e1 e2 e3 e4 k1 k2 hp;generalize cn (some (n*4096,n*4096)) (some p)=r at *
 have PI:=KO fun W=>tR n W
 generalize r.isSome=fr,M.Kh r=k4,M.Kh (some p)=i4,M.Kg r=k3,M.Kg (some p)=i3,M.Kf r=k2,M.Kf (some p)=i2,M.Kc r=k1,M.Kc (some p)=i1 at *;replace PM:=KO PM;obtain ⟨wc,hw3,Q,R,B⟩:=dQ w #[i1,i2,i3,i4] 34 #[(0:Int),(0:Int),(0:Int),(0:Int)] 34;have ⟨q0,q1,q2,q3,_,_,_,_,_⟩:=Q.aI;go_enter func47,ntmps47
 go_wp2
 go_upto_region 1 with fail
 refine be 9 [.is n,.is (.agg #[n,(1:Int)]),.is n,.is (.agg #[n,(1:Int)]),.is (.agg #[n,(1:Int),n,(1:Int)]),.is (.agg #[i1,i2,i3,i4]),.is (.tuple #[.agg #[k1,k2,k3,k4],fr]),.is (.agg #[k1,k2,k3,k4]),.is fr] κ κ κ ⟨?_,?_,?_,?_,?_,?_,?_,?_,?_,fun h_=>absurd h_ δ,fun h_=>absurd h_ δ,trivial⟩ ?_
 all_goals try ((first | (refine Rg.b1 ?_;intro zZ w_ hB e) | (refine Rg.b2 ?_;intro zZ w_ hB e f));have kz:=aE hB q0;have kz:=aE hB q1;have kz:=aE hB q2;have kz:=aE hB q3;(first | (go_simp;done) | (first | (go_simp;done) | (go_simp;rfl);done)))
 ·refine Rg.o1 ?_;intro zZ w_ hB e
  have ef:=Rg.ef zZ;exact bO rfl γ (PI.out _)
 ·refine Rg.o1 ?_;intro zZ w_ hB e
  have ef:=Rg.ef zZ;exact bO rfl γ (PI.out _)
 ·intro _ zZ w_ hB hr
  have e10:=Rg.A_ (hr 10 δ);have e11:=Rg.A_ (hr 11 δ);have ef:=Rg.ef zZ;exact bO rfl γ (PM.out _)
 intro vals wz hB hv hne;have Mi:vals 7=.agg #[k1,k2,k3,k4]:=hv 7 δ;have Od:vals 8=.bool fr:=hv 8 δ;simp only [bD,Rg.fill,Act.put,Nat.reduceAdd];clear hv;simp only [Mi,Od];clear Mi Od;replace ⟨R,B⟩:=Kt hB R B;have ⟨r0,r1,r2,r3,z0,z1,z2,z3,rl⟩:=R.aI;unfold aU aU Oper.wp;go_simp
 first | unfold aU | skip
 go_wp2;exact KU results47 ⟨rfl,Lv B⟩
def gC (w:World) (base:Nat) (v:Value) (rows:M.LD):Prop:=∃ vs,bj w base v vs rows
theorem gC.below {w w':World} {base:Nat} {v:Value} {rows:M.LD} (h:gC w base v rows) (hb:Below w w w'):gC w' base v rows:=h.elim fun vs k=>⟨vs,k.below hb⟩
theorem gC.base {w:World} {base base':Nat} {v:Value} {rows:M.LD} (h:gC w base v rows) (hb:base'<=base):gC w base' v rows:=h.elim fun vs k=>⟨vs,k.base hb⟩
theorem gC.nil (w:World) (base:Nat):gC w base (.slice none 0 0) []:=⟨[],bj.nil w base⟩
theorem gC.at {w:World} {base:Nat} {v:Value} {rows:M.LD} (h:gC w base v rows) {i j:Nat} {r:List (Int × Int)} {q:Int × Int} (hr:rows[i]?=some r) (hq:r[j]?=some q) :
  ∃ (g cap g2 cap2:Nat),v=.slice (some ⟨g,0,none⟩) rows.length cap/\w.cell? ⟨g,i,none⟩=some (.slice (some ⟨g2,0,none⟩) r.length cap2)/\w.cell? ⟨g2,j*2,none⟩=some (.int .i64 q.1)/\w.cell? ⟨g2,j*2+1,none⟩=some (.int .i64 q.2):=by
 obtain ⟨vs,h⟩:=h;obtain ⟨a,cap,rfl,-,hv⟩:=h.view;obtain ⟨g,u,r',rfl,-,h1,-,h2,h3⟩:=hv i (List.getElem?_eq_some_iff.1 hr).1
 have e:r'=r:=by
  have:=h1.out;rw [hr] at this;exact (Option.some.inj this).symm
 subst e
 rcases h3.forms with ⟨-,h4⟩ | ⟨g2,cap2,rfl,-,-,-,-⟩
 ·rw [h4] at hq;cases hq
 have hc:=fun t (ht:t<2)=>(h3.cellAt rfl (j*2+t) _ ((Rw.flat_get EP r' j t q hq ht).trans (List.getElem?_eq_getElem (by rw [EP.len];exact ht)))).1
 exact ⟨g,cap,g2,cap2,rfl,h2,hc 0 δ,hc 1 δ⟩
def cG (xs:List (Int × Int)):Array Value:=(xs.flatMap EP.cells).toArray
def gQ (W:World) (gm n:Nat) (rows:M.LD):Prop:=
 rows.length=n/\aG W gm 70 ((List.range n).map fun i=>Value.slice (some ⟨gm+1+i,0,none⟩) n n).toArray/\∀ (i:Nat) (r:List (Int × Int)),rows[i]?=some r->r.length=n/\aG W (gm+1+i) 72 (cG r)
theorem gQ.below {W W':World} {gm n:Nat} {rows:M.LD} (h:gQ W gm n rows) (hb:Below W W W'):gQ W' gm n rows:=
 ⟨h.1,h.2.1.keep hb,fun i r hr=>⟨(h.2.2 i r hr).1,(h.2.2 i r hr).2.keep hb⟩⟩
theorem gQ.row {W:World} {gm n:Nat} {rows:M.LD} (h:gQ W gm n rows) {i:Nat} (hi:i<n):W.cell? ⟨gm,i,none⟩=some (.slice (some ⟨gm+1+i,0,none⟩) n n):=by
 refine (h.2.1.cell i).trans ?_;rw [List.getElem?_toArray,List.getElem?_map,List.getElem?_range hi];rfl
theorem gQ.mat {W:World} {gm n base:Nat} {rows:M.LD} (h:gQ W gm n rows) (hb:base<=gm) (hn:n<=1000000):gC W base (.slice (some ⟨gm,0,none⟩) n n) rows:=by
 obtain ⟨h1,h2,h3⟩:=h;refine ⟨(List.range n).map fun i=>Value.slice (some ⟨gm+1+i,0,none⟩) n n,?_,?_,?_,?_⟩
 ·rw [h1]
  refine ⟨σ,Or.inr ⟨gm,n,_,rfl,hb,h2,KT _,by unfold maxLen;omega,σ,List.take_of_length_le σ⟩⟩
 ·simp [h1]
 ·intro i u r hu hr
  have hi:i<n:=by rw [←h1];exact (List.getElem?_eq_some_iff.1 hr).1
  rw [List.getElem?_map,List.getElem?_range hi] at hu;have hu:Value.slice (some ⟨gm+1+i,0,none⟩) n n=u:=Option.some.inj hu;subst hu;obtain ⟨k1,k2⟩:=h3 i r hr;refine ⟨cr EP r,Or.inr ⟨gm+1+i,n,_,by rw [k1],ω,k2,ω,by unfold maxLen;omega,?_,?_⟩⟩
  ·unfold cG;rw [List.size_toArray,cr,k1]
  exact List.take_of_length_le (Nat.le_of_eq (cr EP r))
 rw [List.pairwise_map];refine List.Pairwise.imp ?_ (List.nodup_range (n:=n));intro a b hab g hg hg';simp only [Value.ownBlock,Option.some.injEq] at hg hg';exact hab ω
theorem uK {r:List (Int × Int)} {j:Nat} (q:Int × Int) (hj:j<r.length):((cG r).setIfInBounds (j*2) (.int .i64 q.1)).setIfInBounds (j*2+1) (.int .i64 q.2)=cG (r.set j q):=by
 have hl:(r.flatMap EP.cells).length=r.length*2:=cr EP r;have hz:(cG r).size=r.length*2:=hl
 apply Array.ext_getElem?
 intro t;have hs:=vG EP r j q hj t;have hk:EP.k=2:=rfl;rw [hk] at hs
 show _=(cG (r.set j q))[t]?
 have e1:(cG (r.set j q))[t]?=((r.set j q).flatMap EP.cells)[t]?:=List.getElem?_toArray;have e2:(cG r)[t]?=(r.flatMap EP.cells)[t]?:=List.getElem?_toArray;rw [e1,hs,Array.getElem?_setIfInBounds,Array.getElem?_setIfInBounds,Array.size_setIfInBounds,hz,e2]
 by_cases h1:j*2+1=t
 ·subst h1
  rw [if_pos rfl,if_pos ω,if_pos ω]
  have:j*2+1 - j*2=1:=ω
  rw [this];rfl
 rw [if_neg h1]
 by_cases h2:j*2=t
 ·subst h2
  rw [if_pos rfl,if_pos ω,if_pos ω]
  have:j*2 - j*2=0:=ω
  rw [this];rfl
 rw [if_neg h2,if_neg ω]
theorem gQ.put {W:World} {gm n:Nat} {rows:M.LD} (h:gQ W gm n rows) {i j:Nat} {r:List (Int × Int)} (hr:rows[i]?=some r) (hj:j<n) (q:Int × Int):gQ ((W.setCell ⟨gm+1+i,j*2,none⟩ (.int .i64 q.1)).setCell ⟨gm+1+i,j*2+1,none⟩ (.int .i64 q.2)) gm n (rows.set i (r.set j q)):=by
 obtain ⟨h1,h2,h3⟩:=h;obtain ⟨k1,k2⟩:=h3 i r hr;refine ⟨by rw [List.length_set];exact h1,(h2.other ω _).other ω _,fun i' r' hr'=>?_⟩
 by_cases hi:i=i'
 ·subst hi
  rw [List.getElem?_set_self (List.getElem?_eq_some_iff.1 hr).1] at hr';have e:=Option.some.inj hr';subst e;refine ⟨by rw [List.length_set];exact k1,?_⟩;rw [←uK q ω];exact (k2.set _ _).set _ _
 rw [List.getElem?_set_ne hi] at hr';obtain ⟨m1,m2⟩:=h3 i' r' hr';exact ⟨m1,(m2.other ω _).other ω _⟩
theorem gQ.cells {W:World} {gm n:Nat} {rows:M.LD} (h:gQ W gm n rows) {i j:Nat} {r:List (Int × Int)} {q:Int × Int} (hr:rows[i]?=some r) (hq:r[j]?=some q):W.cell? ⟨gm+1+i,j*2,none⟩=some (.int .i64 q.1)/\W.cell? ⟨gm+1+i,j*2+1,none⟩=some (.int .i64 q.2)/\W.frozen? ⟨gm+1+i,j*2,none⟩=false/\W.frozen? ⟨gm+1+i,j*2+1,none⟩=false/\gm+1+i<W.heap.size:=by
 obtain ⟨k1,k2⟩:=h.2.2 i r hr
 have hc:=fun t (ht:t<2)=>(k2.cell (j*2+t)).trans ((List.getElem?_toArray (xs:=r.flatMap EP.cells) (i:=j*2+t)).trans ((Rw.flat_get EP r j t q hq ht).trans (List.getElem?_eq_getElem (by rw [EP.len];exact ht))))
 exact ⟨hc 0 δ,hc 1 δ,k2.Kx _,k2.Kx _,k2.lt⟩
theorem Y7 {p:Prop} (h:p:=by
 have hc:n=0∨n=1∨n=2∨n=3∨n=4:=ω
 rcases hc with rfl | rfl | rfl | rfl | rfl <;> (simp [madeCells,cG,EP,Value.cells,Array.range_succ,(show Array.range 0=#[] from rfl),List.replicate])):p:=h
theorem Dr (n:Nat) (hn:n<=4):madeCells (Value.agg #[(0:Int),(0:Int)]).cells (n*2)=cG (List.replicate n (0,0)):=by
 exact Y7
theorem Az (n:Nat) (hn:n<=4):madeCells (Value.slice none 0 0).cells (n*1)=(List.replicate n (Value.slice none 0 0)).toArray:=by
 exact Y7
theorem Fy (w:World) (n:Nat) (hn:n<=4):(Instr.makeSlice 70 (.int .i64 (n:Int)) (.int .i64 (n:Int))).run prog w=.ok (.slice (some ⟨w,0,none⟩) n n) (w.alloc (.cells (cG (List.replicate n (0,0))) 72)):=by
 obtain ⟨i0,hi,hz0,hz1,hz2⟩:=info_parts Dc;have hr:=run_make (P:=prog) w 70 72 i0 _ Tryz.underlying70 hi hz0 .i64 .i64 n n ω (Int.le_refl _) (by rw [hz2];omega) ω;rw [hz1] at hr;rw [Int.toNat_natCast,Dr n hn] at hr;exact hr
theorem Ds (w:World) (n:Nat) (hn:n<=4):(Instr.makeSlice 67 (.int .i64 (n:Int)) (.int .i64 (n:Int))).run prog w=.ok (.slice (some ⟨w,0,none⟩) n n) (w.alloc (.cells (List.replicate n (Value.slice none 0 0)).toArray 70)):=by
 obtain ⟨i0,hi,hz0,hz1,hz2⟩:=info_parts Dd;have hr:=run_make (P:=prog) w 67 70 i0 _ Tryz.underlying67 hi hz0 .i64 .i64 n n ω (Int.le_refl _) (by rw [hz2];omega) ω;rw [hz1] at hr;rw [Int.toNat_natCast,Az n hn] at hr;exact hr
namespace M
noncomputable def spc (s:Sp):Int × Int:=(Kd s,Kj s)
noncomputable def cf (a b:Int) (l:List Pt):LD:=if Ld a b l=true then (List.range l.length).map (fun i=>(List.range l.length).map fun j=>spc (ent a b l i j)) else []
end M
def gv (gm n k:Nat):Array Value:=((List.range n).map fun i=>if i<k then Value.slice (some ⟨gm+1+i,0,none⟩) n n else Value.slice none 0 0).toArray
theorem wK (gm n:Nat):gv gm n 0=(List.replicate n (Value.slice none 0 0)).toArray:=by
 unfold gv
 congr 1
 simp [List.map_const']
theorem wJ {gm n k:Nat} (hk:k<n):(gv gm n k).setIfInBounds k (.slice (some ⟨gm+1+k,0,none⟩) n n)=gv gm n (k+1):=by
 unfold gv
 apply Array.ext_getElem?
 intro t;rw [Array.getElem?_setIfInBounds];simp only [List.size_toArray,List.length_map,List.length_range,List.getElem?_toArray,List.getElem?_map]
 by_cases h:k=t
 ·subst h
  rw [if_pos rfl,if_pos hk,List.getElem?_range hk];simp
 rw [if_neg h]
 rcases Nat.lt_or_ge t n with q | q
 ·rw [List.getElem?_range q]
  simp only [Option.map_some]
  congr 1
  by_cases h2:t<k
  ·rw [if_pos h2,if_pos ω]
  rw [if_neg h2,if_neg ω]
 rw [List.getElem?_eq_none (by simp;omega)];rfl
theorem BV {gm n k:Nat} (hk:k<n):(gv gm n k)[k]?=some (.slice none 0 0):=by
 unfold gv;rw [List.getElem?_toArray,List.getElem?_map,List.getElem?_range hk];simp
namespace M
def done (i k:Nat) (x y:Nat):Bool:=decide (min x y<i) || (decide (min x y=i) && decide (max x y<k))
def eC (n:Nat) (p:Nat->Bool) (f:Nat->Int × Int):List (Int × Int):=(List.range n).map fun j=>if p j then f j else (0,0)
def eB (n:Nat) (P:Nat->Nat->Bool) (f:Nat->Nat->Int × Int):LD:=(List.range n).map fun i=>eC n (P i) (f i)
noncomputable def fe (a b:Int) (l:List Pt) (i j:Nat):Int × Int:=spc (ent a b l i j)
theorem jL (n:Nat) (p:Nat->Bool) (f:Nat->Int × Int):(eC n p f).length=n:=by unfold eC;rw [List.length_map,List.length_range]
theorem mw (n:Nat) (P:Nat->Nat->Bool) (f:Nat->Nat->Int × Int):(eB n P f).length=n:=by unfold eB;rw [List.length_map,List.length_range]
theorem fL {n i:Nat} (P:Nat->Nat->Bool) (f:Nat->Nat->Int × Int) (h:i<n):(eB n P f)[i]?=some (eC n (P i) (f i)):=by
 unfold eB;exact VJ
theorem gP {n j:Nat} (p:Nat->Bool) (f:Nat->Int × Int) (h:j<n):(eC n p f)[j]?=some (if p j then f j else (0,0)):=by
 unfold eC;exact VJ
theorem rH {n:Nat} {p q:Nat->Bool} {f:Nat->Int × Int} (h:∀ j,j<n->p j=q j):eC n p f=eC n q f:=by
 unfold eC
 refine List.map_congr_left fun j hj=>?_
 rw [h j (List.mem_range.1 hj)]
theorem Ep {n:Nat} {P Q:Nat->Nat->Bool} {f:Nat->Nat->Int × Int} (h:∀ i,i<n->∀ j,j<n->P i j=Q i j):eB n P f=eB n Q f:=by
 unfold eB
 refine List.map_congr_left fun i hi=>?_
 exact rH (h i (List.mem_range.1 hi))
theorem yJ {n j:Nat} {p q:Nat->Bool} {f:Nat->Int × Int} (hj:j<n) (h1:q j=true) (h2:∀ t,t≠j->t<n->q t=p t):(eC n p f).set j (f j)=eC n q f:=by
 apply List.ext_getElem?
 intro t
 rcases Nat.lt_or_ge t n with q1 | q1
 ·rw [gP q f q1]
  by_cases e:j=t
  ·subst e
   rw [List.getElem?_set_self (by rw [jL];exact q1),if_pos h1]
  rw [List.getElem?_set_ne e,gP p f q1,h2 t (fun h=>e h.symm) q1]
 rw [List.getElem?_eq_none (by rw [List.length_set,jL];exact q1),List.getElem?_eq_none (by rw [jL];exact q1)]
theorem rE {n i j:Nat} {P Q:Nat->Nat->Bool} {f:Nat->Nat->Int × Int} (hi:i<n) (hj:j<n) (h1:Q i j=true) (h2:∀ x y,¬ (x=i/\y=j)->x<n->y<n->Q x y=P x y):(eB n P f).set i ((eC n (P i) (f i)).set j (f i j))=eB n Q f:=by
 rw [yJ (p:=P i) (q:=Q i) (f:=f i) hj h1 (fun t ht htn=>h2 i t (fun h=>ht h.2) hi htn)]
 apply List.ext_getElem?
 intro t
 rcases Nat.lt_or_ge t n with q1 | q1
 ·rw [fL Q f q1]
  by_cases e:i=t
  ·subst e
   rw [List.getElem?_set_self (by rw [mw];exact q1)]
  rw [List.getElem?_set_ne e,fL P f q1,rH (p:=P t) (q:=Q t) (fun y hy=>(h2 t y (fun h=>e h.1.symm) q1 hy).symm)]
 rw [List.getElem?_eq_none (by rw [List.length_set,mw];exact q1),List.getElem?_eq_none (by rw [mw];exact q1)]
theorem Bk (n:Nat) (f:Nat->Nat->Int × Int):List.replicate n (List.replicate n ((0:Int),(0:Int)))=eB n (done 0 0) f:=by
 apply List.ext_getElem?
 intro t
 rcases Nat.lt_or_ge t n with q1 | q1
 ·rw [fL _ f q1,List.getElem?_replicate,if_pos q1]
  congr 1
  apply List.ext_getElem?
  intro y
  rcases Nat.lt_or_ge y n with q2 | q2
  ·rw [gP _ _ q2,List.getElem?_replicate,if_pos q2]
   simp [done]
  rw [List.getElem?_eq_none (by rw [List.length_replicate];exact q2),List.getElem?_eq_none (by rw [jL];exact q2)]
 rw [List.getElem?_eq_none (by rw [List.length_replicate];exact q1),List.getElem?_eq_none (by rw [mw];exact q1)]
def half (i k:Nat) (x y:Nat):Bool:=done i k x y || (decide (x=i) && decide (y=k))
def KJ (i k:Nat):Nat->Nat->Nat->Bool
 | 0=>done i k
 | 1=>half i k
 | _=>done i (k+1)
theorem qy {n i:Nat} (f:Nat->Nat->Int × Int) (hi:i<n):(eB n (done i i) f).set i ((eC n (done i i i) (f i)).set i (f i i))=eB n (done i (i+1)) f:=by
 refine rE hi hi (by simp [done]) fun x y h _ _=>?_
 unfold done
 by_cases h1:min x y<i
 ·simp [h1]
 have h3:¬ (min x y=i/\max x y<i+1):=fun ⟨a1,a2⟩=>h ω
 have h4:¬ (min x y=i/\max x y<i):=fun ⟨a1,a2⟩=>ω
 simp only [h1,decide_false,Bool.false_or,←Bool.decide_and,h3,h4]
theorem GQ {n i k:Nat} (f:Nat->Nat->Int × Int) (hi:i<k) (hk:k<n):(eB n (done i k) f).set i ((eC n (done i k i) (f i)).set k (f i k))=eB n (half i k) f:=
 rE ω hk (by simp [half]) fun x y h _ _=>by
  unfold half
  have:(decide (x=i) && decide (y=k))=false:=by rw [←Bool.decide_and,decide_eq_false_iff_not];exact h
  rw [this,Bool.or_false]
theorem GR {n i k:Nat} (f:Nat->Nat->Int × Int) (hs:f k i=f i k) (hi:i<k) (hk:k<n):(eB n (half i k) f).set k ((eC n (half i k k) (f k)).set i (f i k))=eB n (done i (k+1)) f:=by
 rw [←hs]
 refine rE hk ω (by simp [done];omega) fun x y h _ _=>?_
 unfold half done
 by_cases h1:min x y<i
 ·simp [h1]
 by_cases h2:x=i/\y=k
 ·obtain ⟨rfl,rfl⟩:=h2
  have e1:min x y=x:=ω
  have e2:max x y<y+1:=ω
  simp [e1,e2]
 have h3:(min x y=i/\max x y<k+1) ↔ (min x y=i/\max x y<k):=⟨fun ⟨a1,a2⟩=>⟨a1,ω⟩,fun ⟨a1,a2⟩=>⟨a1,ω⟩⟩
 simp only [h1,decide_false,Bool.false_or,←Bool.decide_and,h2,Bool.or_false,h3]
theorem Ag {n i:Nat} (f:Nat->Nat->Int × Int):eB n (done i n) f=eB n (done (i+1) (i+1)) f:=by
 refine Ep fun x hx y hy=>?_
 unfold done
 have h2:¬ (min x y=i+1/\max x y<i+1):=ω
 have h1:(min x y<i∨(min x y=i/\max x y<n)) ↔ min x y<i+1:=ω
 simp only [←Bool.decide_and,←Bool.decide_or,h2,decide_false,Bool.or_false,h1]
theorem DC {n:Nat} (f:Nat->Nat->Int × Int):eB n (done n n) f=(List.range n).map fun i=>(List.range n).map fun j=>f i j:=by
 unfold eB eC
 refine List.map_congr_left fun i hi=>List.map_congr_left fun j hj=>?_
 have:=List.mem_range.1 hi;have:=List.mem_range.1 hj;rw [if_pos];unfold done;rw [decide_eq_true (by omega:min i j<n)];rfl
theorem IY (a b:Int) (l:List Pt) (i j:Nat):fe a b l i j=fe a b l j i:=by unfold fe;rw [mM]
theorem vg {a b:Int} {l:List Pt} (h:Ld a b l=false):cf a b l=[]:=by unfold cf;rw [h];rfl
theorem BG {a b:Int} {l:List Pt} (h:Ld a b l=true):cf a b l=eB l.length (done l.length l.length) (fe a b l):=by rw [DC];unfold cf;rw [h];rfl
end M
theorem gQ.size {W:World} {gm n:Nat} {rows:M.LD} (h:gQ W gm n rows) (hn:0<n):gm+1+n<=W.heap.size:=by
 obtain ⟨h1,h2,h3⟩:=h
 have hl:n - 1<rows.length:=ω
 have:=(h3 (n - 1) _ (List.getElem?_eq_getElem hl)).2.lt;omega
def fM (w:World) (N:Nat) (a b x1 x2 x3:Int) (pb:Nat) (rows:M.LD) (W:World):Prop:=
 gQ W (w.heap.size+1) N rows/\aG W w 24 #[a,b]/\(w.heap.size+1+1+N<=pb/\aG W pb 47 #[x1,x2,x3])/\Below w w W
def iJ (w:World) (N sb:Nat) (q:Int × Int) (W:World):Prop:=w.heap.size+1+1+N<=sb/\aG W sb 72 #[q.1,q.2]
theorem fM.below {w W W':World} {N:Nat} {a b x1 x2 x3:Int} {pb:Nat} {rows:M.LD} (h:fM w N a b x1 x2 x3 pb rows W) (hb:Below W W W'):fM w N a b x1 x2 x3 pb rows W':=
 ⟨h.1.below hb,h.2.1.keep hb,⟨h.2.2.1.1,h.2.2.1.2.keep hb⟩,h.2.2.2.trans (hb.mono h.2.2.2.size)⟩
theorem iJ.below {w W W':World} {N sb:Nat} {q:Int × Int} (h:iJ w N sb q W) (hb:Below W W W'):iJ w N sb q W':=⟨h.1,h.2.keep hb⟩
theorem fM.put {w W:World} {N:Nat} {a b x1 x2 x3:Int} {pb:Nat} {rows rows':M.LD} {i j:Nat} {r:List (Int × Int)} {q:Int × Int} (h:fM w N a b x1 x2 x3 pb rows W) (hr:rows[i]?=some r) (hj:j<N) (he:rows.set i (r.set j q)=rows'):fM w N a b x1 x2 x3 pb rows' ((W.setCell ⟨w.heap.size+1+1+i,j*2,none⟩ (.int .i64 q.1)).setCell ⟨w.heap.size+1+1+i,j*2+1,none⟩ (.int .i64 q.2)):=by
 subst he
 have hi:i<N:=by rw [←h.1.1];exact (List.getElem?_eq_some_iff.1 hr).1
 have hp:=h.2.2.1.1;exact ⟨h.1.put hr hj q,(h.2.1.other ω _).other ω _,⟨hp,(h.2.2.1.2.other ω _).other ω _⟩,KR (KR h.2.2.2 (by show w.heap.size<=w.heap.size+1+1+i;omega) _) (by show w.heap.size<=w.heap.size+1+1+i;omega) _⟩
theorem iJ.put {w W:World} {N sb i j1 j2:Nat} {q:Int × Int} {u v:Value} (h:iJ w N sb q W) (hi:i<N):iJ w N sb q ((W.setCell ⟨w.heap.size+1+1+i,j1,none⟩ u).setCell ⟨w.heap.size+1+1+i,j2,none⟩ v):=by
 have hp:=h.1;exact ⟨hp,(h.2.other ω _).other ω _⟩
theorem Rz {p:Prop} (h:p:=by
 unfold cF
 rw [if_neg δ];intro zZ w_ n_ Li hJ hr;refine ⟨rfl,?_⟩;have e8:zZ.tmps[8]?=some (.int .i64 ((i:Nat):Int)):=hr 8 δ;go_simp):p:=h
theorem Uq {p:Prop} (h:p:=by
 unfold cF
 rw [if_neg δ];intro zZ w_ n_ Li hJ hr;refine ⟨rfl,?_⟩;have e6:zZ.tmps[6]?=some (.slice (some ⟨w.heap.size+1,0,none⟩) N N):=hr 6 δ;go_simp):p:=h
theorem Yz {p:Prop} (h:p:=by
 unfold cF
 rw [if_neg δ];intro zZ w_ n_ Li hJ hr;refine ⟨rfl,?_⟩;have e13:zZ.tmps[13]?=some (.pointer (some ⟨h_,0,none⟩)):=hr 13 δ;have k0:=hJ.2.2.box.c0;have k1:=hJ.2.2.box.c1;go_simp):p:=h
theorem U1 {p:Prop} (h:p:=by
 clear OO Qo;unfold Oper.wp;go_simp
 all_goals first | exact RJ | exact ⟨RJ,TU⟩):p:=h
theorem Zp {p:Prop} (h:p:=by
 unfold cF
 rw [if_neg δ];intro zZ w_ n_ Li hJ hr;refine ⟨rfl,?_⟩;have e12:zZ.tmps[12]?=some (.int .i64 ((k:Nat):Int)):=hr 12 δ;go_simp):p:=h
theorem wat7 {p:Prop} (h:p:=by
 unfold aY
 rw [if_neg δ,if_neg δ];intro zZ w_ hB hr;have e60:=Rg.A_ (hr 60 δ);exact aS rfl γ):p:=h
theorem wI (gm n:Nat):gv gm n n=((List.range n).map fun i=>Value.slice (some ⟨gm+1+i,0,none⟩) n n).toArray:=by
 unfold gv
 congr 1
 apply List.map_congr_left
 intro i hi;rw [if_pos (List.mem_range.1 hi)]
theorem fy (a b:Int) (v:Value) (l:List Pt) (w:World) (hx:dC w v l) (hg:M.good a b=true) (hn:l.length<=4) (hp:∀ p ∈ l,aV a b p.1 p.2.1 p.2.2=true) :
  Calls prog 29 #[.agg #[a,b],v] w fun e w'=>∃ mv,e=.returned (.tuple #[mv,M.Ld a b l])/\gC w' w mv (cf a b l)/\Below w w w':=by
 have hin:=ae hg;obtain ⟨sa,cap,rfl,hv⟩:=hx;have hv:=KO hv;have hp:=KO hp
 obtain ⟨N,hN⟩:∃ N,Hid (l.length=N):=⟨_,KO rfl⟩
 rw [hN.out] at hn ⊢
 have hmk:=fun W=>Fy W N hn
 have hms:=fun W=>Ds W N hn
 obtain ⟨wc,hw3,C,G,B⟩:=dQ w #[a,b] 24 (Array.replicate N (Value.slice none 0 0)) 70
 have hz:wc.heap.size=w.heap.size+1+1:=by rw [←hw3,KQ,KQ]
 have hr0:Array.replicate N (Value.slice none 0 0)=gv (w.heap.size+1) N 0:=by rw [wK,List.toArray_replicate]
 rw [hr0] at G;clear hr0;go_enter func29,ntmps29
 go_wp2
 go_loopw [20] (fun vk wr=>∃ k:Nat,k<=N/\vk=.int .i64 k/\aG wr (w.heap.size+1) 70 (gv (w.heap.size+1) N k)/\wr.heap.size=w.heap.size+1+1+k/\(∀ i,i<k->aG wr (w.heap.size+1+1+i) 72 (cG (List.replicate N (0,0))))/\aG wr w 24 #[a,b]/\Below w w wr) (fun vk _=>N - (intOf vk).toNat)
 case atStart=>exact ⟨0,Nat.zero_le _,rfl,G,hz,fun i h=>absurd h ω,C,B⟩
 case round=>
 clear C B G hz hw3;obtain ⟨k,hk,rfl,G,hz,hrow,C,B⟩:=hrel
 by_cases hlt:k<N
 ·have Gb:=G.lt
  have G2:=G.alloc (.cells (cG (List.replicate N (0,0))) 72);have g0:=(G2.cell k).trans (BV hlt);have gf:=G2.Kx k;have Gn:=aG.new wr (cG (List.replicate N (0,0))) 72;have C2:=C.alloc (.cells (cG (List.replicate N (0,0))) 72);have B2:=B.alloc B.size (.cells (cG (List.replicate N (0,0))) 72);go_wp2
  go_roundw
  case rel=>
   refine ⟨k+1,ω,ν,?_,?_,fun i hi2=>?_,C2.other ω _,KR B2 σ _⟩
   ·rw [←wJ hlt,←hz]
    exact G2.set k _
   ·rw [aO,KQ];omega
   rcases Nat.lt_or_ge i k with q | q
   ·exact ((hrow i q).alloc _).other ω _
   obtain rfl:i=k:=ω
   rw [←hz];exact Gn.other ω _
  case measure=>simp [intOf] <;> omega
 obtain rfl:N=k:=ω
 have hG:gQ wr (w.heap.size+1) N (List.replicate N (List.replicate N (0,0))):=by
  refine ⟨List.length_replicate,by rw [←wI];exact G,fun i r hr=>?_⟩
  have hi:i<N:=by
   have:=(List.getElem?_eq_some_iff.1 hr).1;rw [List.length_replicate] at this;exact this
  rw [List.getElem?_replicate,if_pos hi] at hr;have e:=Option.some.inj hr;subst e;exact ⟨List.length_replicate,hrow i hi⟩
 rw [Bk _ (M.fe a b l)] at hG;clear G hrow hz hmk hms hlt
 have hno:=KO fun i j h1 h2 h=>Dp (a:=a) (b:=b) (l:=l) (i:=i) (j:=j) h1 h2 h
 have hrn:=KO fun h=>vg (a:=a) (b:=b) (l:=l) h
 go_wp2
 go_loopw [32] (fun vi wq=>∃ i:Nat,i<=N/\vi=.int .i64 i/\Hid (∀ i',i'<i->∀ j,j<l.length->(M.ent a b l i' j).isSome=true)/\Hid (gQ wq (w.heap.size+1) N (eB N (M.done i i) (M.fe a b l)))/\aG wq w 24 #[a,b]/\Below w w wq) (fun vi _=>N - (intOf vi).toNat)
 case atStart=>exact ⟨0,Nat.zero_le _,rfl,KO (fun i' h=>absurd h ω),KO hG,C,B⟩
 case round=>
 clear C B hG;obtain ⟨i,hi,rfl,hall,hG,C,B⟩:=hrel
 by_cases hlt:i<N
 ·obtain ⟨x,hx⟩:∃ x,l[i]?=some x:=⟨_,List.getElem?_eq_getElem (by have:=hN.out;omega)⟩
  obtain ⟨g,o_,rfl,hpt⟩:∃ g o_,sa=some ⟨g,o_,none⟩/\nG w g o_ l:=by
   exact SE
  have hpt:=KO hpt;obtain ⟨d0,d1,d2⟩:=(hpt.out.below B) i x hx;have hpx:=hp.out x (List.mem_of_getElem? hx);have he:=vE (a:=a) (b:=b) hx;have hx:=KO hx;obtain ⟨x1,x2,x3⟩:=x;simp only [] at d0 d1 d2 hpx he;have hb1:=df hin hpx
  have PS:=fun W=>rV a b x1 x2 x3 W hg hb1.1 hb1.2.1 hb1.2.2.1 hb1.2.2.2.1
  clear hb1;generalize gB a b x1 x3=ss at *;have hni:=hno.out i i (by have:=hN.out;omega) (by have:=hN.out;omega);rw [he] at hni;have hgs:=hG.out.size ω;have Bv:=(KS wr wr).alloc (KT _) (.cells #[x1,x2,x3] 47);have C1:=C.alloc (.cells #[x1,x2,x3] 47);have Z1:=aG.new wr #[x1,x2,x3] 47;have f_:=C1.box.c0;have j_:=C1.box.c1;have ⟨z0,z1,z2⟩:=Z1.aM
  cases ss with
  | none=>
   have hfin:=KO (hni rfl);have hfr:=KO (hrn.out hfin.out);have e9:=KO (show M.Kd none=0/\M.Kj none=0/\(none:M.Sp).isSome=false from ⟨rfl,rfl,rfl⟩);rw [e9.out.1,e9.out.2.1,e9.out.2.2] at PS;clear hni hno hrn e9 he;replace PS:=KO PS
   go_wp2_with (with_reducible refine G_ PS fun w4 hb4=>?_;replace Bv:=(p_ Bv hb4).alloc (Nat.le_trans Bv.size hb4.size) (.cells #[(0:Int),(0:Int)] 72);have V:=aG.new w4 #[(0:Int),(0:Int)] 72;have MG:=hb4.size;(rw [KQ] at MG);replace Z1:=(Z1.keep hb4).alloc (.cells #[(0:Int),(0:Int)] 72);(have ⟨v0,v1,_,_,_⟩:=V.box))
   go_ret2;exact ⟨_,by rw [hfin.out];rfl,by rw [hfr.out];exact gC.nil _ _,p_ B Bv⟩
  | some q=>
  have hqe:M.fe a b l i i=q:=by unfold M.fe;rw [he];rfl
  have hqe:=KO hqe;have hsm:=KO (show (M.ent a b l i i).isSome=true by rw [he];rfl);obtain ⟨q1,q2⟩:=q;have e1:M.Kd (some (q1,q2))=q1:=rfl;have e2:M.Kj (some (q1,q2))=q2:=rfl;have e5:(some (q1,q2):M.Sp).isSome=true:=rfl;rw [e1,e2,e5] at PS;clear hni he e1 e2 e5;replace PS:=KO PS
  go_upto_region 13 with (with_reducible refine G_ PS fun w4 hb4=>?_;replace Bv:=(p_ Bv hb4).alloc (Nat.le_trans Bv.size hb4.size) (.cells #[q1,q2] 72);have V:=aG.new w4 #[q1,q2] 72;have MG:=hb4.size;(rw [KQ] at MG);replace Z1:=(Z1.keep hb4).alloc (.cells #[q1,q2] 72);(have ⟨v0,v1,_,_,_⟩:=V.box))
  have hM:=(show fM w N a b x1 x2 x3 wr _ _ from ⟨hG.out.below Bv,C.keep Bv,⟨ω,Z1⟩,p_ B Bv⟩)
  have hS:=(show iJ w N w4 (q1,q2) _ from ⟨ω,V⟩)
  clear Bv C1 C f_ j_ z0 z1 z2 v0 v1 d0 d1 d2 PS Z1 V B hG MG hb4
  have hii:((i:Nat):Int)<=4:=ω
  generalize wr.heap.size=pb,w4.heap.size=sb,w4.alloc (.cells #[q1,q2] 72)=wd at *;have hM:=KO hM;have hS:=KO hS;refine Hp (fun n W=>fM w N a b x1 x2 x3 pb (eB N (M.done i (i+n)) (M.fe a b l)) W/\iJ w N sb (q1,q2) W) [7] [.slice (some ⟨w.heap.size+1,0,none⟩) N N,.int .i64 ((i:Nat):Int),.pointer (some ⟨w.heap.size+1,i,none⟩),.slice (some ⟨w.heap.size+1+1+i,0,none⟩) N N,.int .i64 ((i:Nat):Int),.agg #[q1,q2],.pointer (some ⟨w.heap.size+1+1+i,i*2,none⟩),undef] κ κ κ δ (⟨hM.out.below (KS _ wd).drew,hS.out.below (KS _ wd).drew⟩) ⟨?_,?_,?_,?_,?_,?_,?_,?_,trivial⟩ ?_
  ·exact Uq
  ·exact Rz
  ·unfold cF
   rw [if_neg δ];intro zZ w_ n_ Li hJ hr;refine ⟨rfl,?_⟩;have e45:zZ.tmps[45]?=some (.slice (some ⟨w.heap.size+1,0,none⟩) N N):=hr 45 δ;have e46:zZ.tmps[46]?=some (.int .i64 ((i:Nat):Int)):=hr 46 δ
   have NB:((i:Nat):Int)<(N:Int):=ω
   exact Nm
  ·unfold cF
   rw [if_neg δ];intro zZ w_ n_ Li hJ hr;refine ⟨rfl,?_⟩;have e47:zZ.tmps[47]?=some (.pointer (some ⟨w.heap.size+1,i,none⟩)):=hr 47 δ;have hr_:=gQ.row hJ.1.1 (i:=i) ω
   first | (go_simp;done)
  ·exact Rz
  ·unfold cF
   rw [if_neg δ];intro zZ w_ n_ Li hJ hr;refine ⟨rfl,?_⟩;have e10:zZ.tmps[10]?=some (.pointer (some ⟨sb,0,none⟩)):=hr 10 δ;have k0:=hJ.2.2.box.c0;have k1:=hJ.2.2.box.c1;go_simp
  ·unfold cF
   rw [if_neg δ];intro zZ w_ n_ Li hJ hr;refine ⟨rfl,?_⟩;have e48:zZ.tmps[48]?=some (.slice (some ⟨w.heap.size+1+1+i,0,none⟩) N N):=hr 48 δ;have e49:zZ.tmps[49]?=some (.int .i64 ((i:Nat):Int)):=hr 49 δ
   have NB:((i:Nat):Int)<(N:Int):=ω
   exact Nm
  ·unfold cF
   rw [if_pos δ];intro zZ w_ hJ hr;have e50:zZ.tmps[50]?=some (.agg #[q1,q2]):=hr 50 δ;have e51:zZ.tmps[51]?=some (.pointer (some ⟨w.heap.size+1+1+i,i*2,none⟩)):=hr 51 δ;refine ⟨rfl,?_⟩;obtain ⟨OO,Qo⟩:=hJ;have OO:fM w N a b x1 x2 x3 pb (eB N (M.done i i) (M.fe a b l)) w_:=OO;have ⟨y0,y1,Qx,MH,xl_⟩:=gQ.cells OO.1 (i:=i) (j:=i) (fL _ _ ω) (gP _ _ ω)
   have NB:((i:Nat):Int)<(N:Int):=ω
   have RJ:=fM.put OO (i:=i) (j:=i) (q:=(q1,q2)) (rows':=eB N (M.done i (i+1)) (M.fe a b l)) (fL _ _ ω) ω (by rw [←hqe.out];exact M.qy _ ω);have TU:=iJ.put Qo (i:=i) (j1:=i*2) (j2:=i*2+1) (u:=.int .i64 q1) (v:=.int .i64 q2) ω;exact U1
  intro vals wz hJ hv;simp only [bD,Rg.fill,Act.put,Nat.reduceAdd];clear hv;obtain ⟨hM2,-⟩:=hJ;have hM2:fM w N a b x1 x2 x3 pb (eB N (M.done i (i+1)) (M.fe a b l)) wz:=hM2;clear hM hS hqe;go_wp2
  go_loopw [12] (fun vk wq=>∃ k:Nat,i+1<=k/\k<=N/\vk=.int .i64 k/\Hid (∀ j,i<=j->j<k->(M.ent a b l i j).isSome=true)/\Hid (fM w N a b x1 x2 x3 pb (eB N (M.done i k) (M.fe a b l)) wq)) (fun vk _=>N - (intOf vk).toNat)
  case atStart=>exact ⟨i+1,KT _,ω,ν,KO (fun j h1 h2=>by obtain rfl:j=i:=ω;exact hsm.out),KO hM2⟩
  case round=>
  clear hM2;obtain ⟨k,hk1,hk2,rfl,Ls,hM⟩:=hrel
  by_cases hlt2:k<N
  ·obtain ⟨y,hy⟩:∃ y,l[k]?=some y:=⟨_,List.getElem?_eq_getElem (by have:=hN.out;omega)⟩
   have B:=hM.out.2.2.2;obtain ⟨d0,d1,d2⟩:=(hpt.out.below B) k y hy;have hpy:=hp.out y (List.mem_of_getElem? hy);have he:=vD (a:=a) (b:=b) hx.out hy hk1;clear hy;obtain ⟨y1,y2,y3⟩:=y;simp only [] at d0 d1 d2 hpy he
   have PP:=fun W=>BH a b x1 x2 x3 y1 y2 y3 W hg hpx hpy
   generalize ep a b x1 x2 x3 y1 y2 y3=ss at *;have hni:=hno.out i k (by have:=hN.out;omega) (by have:=hN.out;omega);rw [he] at hni;have C:=hM.out.2.1;have Z:=hM.out.2.2.1.2;have hgs:=hM.out.1.size ω
   have hkk:((k:Nat):Int)<(N:Int):=ω
   have hlt3:i<k:=hk1
   obtain ⟨q1,e1⟩:∃ x,Hid (M.Kd ss=x):=⟨_,KO rfl⟩
   obtain ⟨q2,e2⟩:∃ x,Hid (M.Kj ss=x):=⟨_,KO rfl⟩
   obtain ⟨fs,e5⟩:∃ x,Hid (ss.isSome=x):=⟨_,KO rfl⟩
   rw [e1.out,e2.out,e5.out] at PP;replace PP:=KO PP
   go_upto_region 17 with fail
   refine AK 10 11 72 #[(0:Int),(0:Int)] #[q1,q2] [.is (.agg #[a,b]),.is (.agg #[x1,x2,x3]),.is (.slice (some ⟨g,o_,none⟩) N cap),.is (.int .i64 ((k:Nat):Int)),.is (.pointer (some ⟨g,o_+k*3,none⟩)),.is (.agg #[y1,y2,y3]),.is (.tuple #[.agg #[q1,q2],fs]),.is (.tuple #[.agg #[q1,q2],fs]),.is (.agg #[q1,q2]),.is fs,.is (undef),.is (undef),.is fs] κ κ κ (fun j h1 h2=>match j,h1,h2 with | 0,h1,h2=>rfl | 1,h1,h2=>rfl | 2,h1,h2=>rfl | 3,h1,h2=>rfl | 4,h1,h2=>rfl | 5,h1,h2=>rfl | 6,h1,h2=>rfl | 7,h1,h2=>rfl | 8,h1,h2=>rfl | 9,h1,h2=>rfl | 10,h1,h2=>absurd rfl h1 | 11,h1,h2=>absurd rfl h2 | 12,h1,h2=>rfl | n+13,_,_=>rfl) δ ⟨?_,?_,?_,?_,?_,?_,?_,?_,?_,?_,?_,?_,?_,trivial⟩ ?_
   ·unfold aY
    rw [if_neg δ,if_neg δ];intro zZ w_ hB hr;have e2:zZ.tmps[2]?=some (.pointer (some ⟨w,0,none⟩)):=hr 2 δ;have k0:=aE hB C.box.c0;have k1:=aE hB C.box.c1;exact aS rfl γ
   ·unfold aY
    rw [if_neg δ,if_neg δ];intro zZ w_ hB hr;have e9:zZ.tmps[9]?=some (.pointer (some ⟨pb,0,none⟩)):=hr 9 δ;have k0:=aE hB Z.aM.1;have k1:=aE hB Z.aM.2.1;have k2:=aE hB Z.aM.2.2;exact aS rfl γ
   ·unfold aY
    rw [if_neg δ,if_neg δ];intro zZ w_ hB hr;have e1:zZ.tmps[1]?=some (.slice (some ⟨g,o_,none⟩) N cap):=hr 1 δ;exact aS rfl γ
   ·unfold aY
    rw [if_neg δ,if_neg δ];intro zZ w_ hB hr;have e12:zZ.tmps[12]?=some (.int .i64 ((k:Nat):Int)):=hr 12 δ;exact aS rfl γ
   ·unfold aY
    rw [if_neg δ,if_neg δ];intro zZ w_ hB hr;have e63:=Rg.A_ (hr 63 δ);have e64:=Rg.A_ (hr 64 δ);exact aS rfl Nm
   ·unfold aY
    rw [if_neg δ,if_neg δ];intro zZ w_ hB hr;have e65:=Rg.A_ (hr 65 δ);have k0:=aE hB d0;have k1:=aE hB d1;have k2:=aE hB d2;exact aS rfl (by first | (go_simp;done))
   ·unfold aY
    rw [if_neg δ,if_neg δ];intro zZ w_ hB hr;have e61:=Rg.A_ (hr 61 δ);have e62:=Rg.A_ (hr 62 δ);have e66:=Rg.A_ (hr 66 δ);have ef:=Rg.ef zZ;exact bO rfl γ (PP.out _)
   ·unfold aY
    rw [if_neg δ,if_neg δ];intro zZ w_ hB hr;have e67:=Rg.A_ (hr 67 δ);exact aS rfl γ
   ·exact wat7
   ·exact wat7
   ·unfold aY
    exact Ph
   ·unfold aY
    rw [if_neg δ,if_pos rfl];intro zZ w_ h_ hh hn hr;have e13:zZ.tmps[13]?=some (.pointer (some ⟨h_,0,none⟩)):=hr 13 δ;have e68:=Rg.A_ (hr 68 δ);exact Ux
   ·unfold aY
    rw [if_neg δ,if_neg δ];intro zZ w_ hB hr;have e69:=Rg.A_ (hr 69 δ);exact aS rfl γ
   intro vals wz h_ hh hn LG hB hv;have L6:vals 12=.bool fs:=hv 12 δ δ δ;simp only [bD,Rg.fill,Act.put,Nat.reduceAdd];clear hv;simp only [LG,L6];clear LG L6
   cases ss with
   | none=>
    have hfin:=KO (hni rfl);have hfr:=KO (hrn.out hfin.out);obtain rfl:false=fs:=e5.out;clear hni hno hrn he e1 e2 e5;go_wp2;go_ret2;exact ⟨_,by rw [hfin.out];rfl,by rw [hfr.out];exact gC.nil _ _,p_ B hB⟩
   | some q=>
   have hqe:M.fe a b l i k=q:=by unfold M.fe;rw [he];rfl
   have hqe:=KO hqe;have hsm2:=KO (show (M.ent a b l i k).isSome=true by rw [he];rfl);obtain ⟨q3,q4⟩:=q;obtain rfl:q1=q3:=e1.out.symm;obtain rfl:q2=q4:=e2.out.symm;obtain rfl:true=fs:=e5.out;clear hni he e1 e2 e5;have hM2:=KO (hM.out.below hB);have hS:=KO (show iJ w N h_ (q1,q2) wz from ⟨ω,hn⟩);clear hn hB hM d0 d1 d2 PP C Z B
   go_upto_region 20 with fail
   have hkk4:((k:Nat):Int)<=4:=ω
   refine Hp (fun n W=>fM w N a b x1 x2 x3 pb (eB N (KJ i k n) (M.fe a b l)) W/\iJ w N h_ (q1,q2) W) [13,15] [.slice (some ⟨w.heap.size+1,0,none⟩) N N,.int .i64 ((i:Nat):Int),.pointer (some ⟨w.heap.size+1,i,none⟩),.slice (some ⟨w.heap.size+1+1+i,0,none⟩) N N,.int .i64 ((k:Nat):Int),.slice (some ⟨w.heap.size+1,0,none⟩) N N,.int .i64 ((k:Nat):Int),.pointer (some ⟨w.heap.size+1,k,none⟩),.slice (some ⟨w.heap.size+1+1+k,0,none⟩) N N,.int .i64 ((i:Nat):Int),.agg #[q1,q2],.agg #[q1,q2],.pointer (some ⟨w.heap.size+1+1+i,k*2,none⟩),undef,.pointer (some ⟨w.heap.size+1+1+k,i*2,none⟩),undef] κ κ κ δ (⟨hM2.out.below (KS _ wz).drew,hS.out.below (KS _ wz).drew⟩) ⟨?_,?_,?_,?_,?_,?_,?_,?_,?_,?_,?_,?_,?_,?_,?_,?_,trivial⟩ ?_
   ·exact Uq
   ·exact Rz
   ·unfold cF
    rw [if_neg δ];intro zZ w_ n_ Li hJ hr;refine ⟨rfl,?_⟩;have e72:zZ.tmps[72]?=some (.slice (some ⟨w.heap.size+1,0,none⟩) N N):=hr 72 δ;have e73:zZ.tmps[73]?=some (.int .i64 ((i:Nat):Int)):=hr 73 δ
    have NB:((i:Nat):Int)<(N:Int):=ω
    exact Nm
   ·unfold cF
    rw [if_neg δ];intro zZ w_ n_ Li hJ hr;refine ⟨rfl,?_⟩;have e74:zZ.tmps[74]?=some (.pointer (some ⟨w.heap.size+1,i,none⟩)):=hr 74 δ;have hr_:=gQ.row hJ.1.1 (i:=i) ω
    first | (go_simp;done)
   ·exact Zp
   ·exact Uq
   ·exact Zp
   ·unfold cF
    rw [if_neg δ];intro zZ w_ n_ Li hJ hr;refine ⟨rfl,?_⟩;have e77:zZ.tmps[77]?=some (.slice (some ⟨w.heap.size+1,0,none⟩) N N):=hr 77 δ;have e78:zZ.tmps[78]?=some (.int .i64 ((k:Nat):Int)):=hr 78 δ
    have NB:((k:Nat):Int)<(N:Int):=ω
    exact Nm
   ·unfold cF
    rw [if_neg δ];intro zZ w_ n_ Li hJ hr;refine ⟨rfl,?_⟩;have e79:zZ.tmps[79]?=some (.pointer (some ⟨w.heap.size+1,k,none⟩)):=hr 79 δ;have hr_:=gQ.row hJ.1.1 (i:=k) ω
    first | (go_simp;done)
   ·exact Rz
   ·exact Yz
   ·exact Yz
   ·unfold cF
    rw [if_neg δ];intro zZ w_ n_ Li hJ hr;refine ⟨rfl,?_⟩;have e75:zZ.tmps[75]?=some (.slice (some ⟨w.heap.size+1+1+i,0,none⟩) N N):=hr 75 δ;have e76:zZ.tmps[76]?=some (.int .i64 ((k:Nat):Int)):=hr 76 δ
    have NB:((k:Nat):Int)<(N:Int):=ω
    exact Nm
   ·unfold cF
    rw [if_pos δ];intro zZ w_ hJ hr;have e82:zZ.tmps[82]?=some (.agg #[q1,q2]):=hr 82 δ;have e84:zZ.tmps[84]?=some (.pointer (some ⟨w.heap.size+1+1+i,k*2,none⟩)):=hr 84 δ;refine ⟨rfl,?_⟩;obtain ⟨OO,Qo⟩:=hJ;have OO:fM w N a b x1 x2 x3 pb (eB N (M.done i k) (M.fe a b l)) w_:=OO;have ⟨y0,y1,Qx,MH,xl_⟩:=gQ.cells OO.1 (i:=i) (j:=k) (fL _ _ ω) (gP _ _ ω)
    have NB:((k:Nat):Int)<(N:Int):=ω
    have RJ:=fM.put OO (i:=i) (j:=k) (q:=(q1,q2)) (rows':=eB N (M.half i k) (M.fe a b l)) (fL _ _ ω) ω (by rw [←hqe.out];exact GQ _ ω ω);have TU:=iJ.put Qo (i:=i) (j1:=k*2) (j2:=k*2+1) (u:=.int .i64 q1) (v:=.int .i64 q2) ω;exact U1
   ·unfold cF
    rw [if_neg δ];intro zZ w_ n_ Li hJ hr;refine ⟨rfl,?_⟩;have e80:zZ.tmps[80]?=some (.slice (some ⟨w.heap.size+1+1+k,0,none⟩) N N):=hr 80 δ;have e81:zZ.tmps[81]?=some (.int .i64 ((i:Nat):Int)):=hr 81 δ
    have NB:((i:Nat):Int)<(N:Int):=ω
    exact Nm
   ·unfold cF
    rw [if_pos δ];intro zZ w_ hJ hr;have e83:zZ.tmps[83]?=some (.agg #[q1,q2]):=hr 83 δ;have e85:zZ.tmps[85]?=some (.pointer (some ⟨w.heap.size+1+1+k,i*2,none⟩)):=hr 85 δ;refine ⟨rfl,?_⟩;obtain ⟨OO,Qo⟩:=hJ;have OO:fM w N a b x1 x2 x3 pb (eB N (M.half i k) (M.fe a b l)) w_:=OO;have ⟨y0,y1,Qx,MH,xl_⟩:=gQ.cells OO.1 (i:=k) (j:=i) (fL _ _ ω) (gP _ _ ω)
    have NB:((i:Nat):Int)<(N:Int):=ω
    have RJ:=fM.put OO (i:=k) (j:=i) (q:=(q1,q2)) (rows':=eB N (M.done i (k+1)) (M.fe a b l)) (fL _ _ ω) ω (by rw [←hqe.out];exact GR _ (IY _ _ _ _ _) ω ω);have TU:=iJ.put Qo (i:=k) (j1:=i*2) (j2:=i*2+1) (u:=.int .i64 q1) (v:=.int .i64 q2) ω;exact U1
   intro vals wy hJ hv;simp only [bD,Rg.fill,Act.put,Nat.reduceAdd];clear hv;obtain ⟨Mr,-⟩:=hJ;have Mr:fM w N a b x1 x2 x3 pb (eB N (M.done i (k+1)) (M.fe a b l)) wy:=Mr;clear hM2 hS hqe;go_wp2
   go_roundw
   case rel=>exact ⟨k+1,ω,ω,ν,KO (fun j h1 h2=>by
    rcases Nat.lt_or_ge j k with h3 | h3
    ·exact Ls.out j h1 h3
    obtain rfl:j=k:=ω
    exact hsm2.out),KO Mr⟩
   case measure=>simp [intOf] <;> omega
  obtain rfl:N=k:=ω
  have Mr:=hM.out;have hd:=Ag (n:=N) (i:=i) (M.fe a b l);have hG3:=Mr.1;rw [hd] at hG3;have hG3:=KO hG3;clear hd
  have hal:∀ i',i'<i+1->∀ j,j<l.length->(M.ent a b l i' j).isSome=true:=fun i' h j hj=>by
   rcases Nat.lt_or_ge i' i with q | q
   ·exact hall.out i' q j hj
   obtain rfl:i'=i:=ω
   rcases Nat.lt_or_ge j i' with q2 | q2
   ·rw [mM];exact hall.out j q2 i' (by have:=hN.out;omega)
   exact Ls.out j q2 (by have:=hN.out;omega)
  have hal:=KO hal;have C3:=Mr.2.1;have B3:=Mr.2.2.2;clear Mr hM;go_wp2
  go_roundw
  case rel=>exact ⟨i+1,ω,ν,hal,hG3,C3,B3⟩
  case measure=>simp [intOf] <;> omega
 obtain rfl:N=i:=ω
 have hyes:=KO (zA (a:=a) (b:=b) (l:=l) (fun i' h=>hall.out i' (by have:=hN.out;omega)));have hrows:=KO (BG hyes.out);have hG4:=hG.out.mat (base:=w.heap.size) ω ω;have hG4:=KO hG4;clear hG;go_wp2;go_ret2;exact ⟨_,by rw [hyes.out];rfl,by rw [hrows.out,hN.out];exact hG4.out,B⟩
theorem Rw.From.below {α:Type} {E:Rw.Enc α} {w w':World} {A:Option Addr} {ys:List α} (h:Rw.From E w A ys) (hb:Below w w w'):Rw.From E w' A ys:=fun j u hu=>by
 obtain ⟨ad,e,hc⟩:=h j u hu;exact ⟨ad,e,aE hb hc⟩
theorem Fi (n:Nat) (h1:1<=n) (h2:n<=4) (w:World) :
  Calls prog 155 #[.slice none 0 0,.int .i64 (n:Int)] w fun e w'=>∃ v,e=.returned v/\Rw.Own EP w' w v []/\Below w w w':=by
 obtain ⟨i0,hi,hz0,hz1,hz2⟩:=info_parts Dc;have hc:=Any8.slices_Grow_grow Tryz.growP i0 _ hi hz0 ω none 0 0 n [] w (KT _) ω (by rw [hz2];omega) ω σ (fun _=>rfl) (fun a h=>by cases h);refine Calls.mono hc ?_;rintro e w' ⟨rfl,rfl⟩;refine ⟨_,rfl,⟨rfl,Or.inr ⟨w,_,_,rfl,KT _,heap_alloc_new w.drew _,Nat.zero_le _,grownCap_le_maxLen w _ 0 _ (by unfold maxLen;omega),?_,rfl⟩⟩,((KS _ w).drew).alloc (KT _) _⟩;have hG:=grownCap_ge w (0+n) 0 (Tryz.growP_ren.t 25);have hk:EP.k=2:=rfl;simp only [Array.size_append,size_zeroCells,hk];simp only [List.size_toArray,List.length_nil,Value.cells]
 show 0+(0+n - 0)*2+(_ - (0+n))*2=_*2
 omega
theorem Co (h n1 c1 n2 c2:Nat) (a1 a2:Option Addr) (r1 r2:List (Int × Int)) (w:World) (k0:w.cell? ⟨h,0,none⟩=some (.slice a1 n1 c1)) (k1:w.cell? ⟨h,1,none⟩=some (.slice a2 n2 c2))
  (hn1:r1.length=n1) (hn2:r2.length=n2) (F1:Rw.From EP w a1 r1) (F2:Rw.From EP w a2 r2) (h1:1<=n1+n2) (h2:n1+n2<=4) :
  Calls prog 119 #[.slice (some ⟨h,0,none⟩) 2 2] w fun e w'=>∃ v,e=.returned v/\Rw.Own EP w' w v (r1 ++ r2)/\Below w w w':=by
 have PG:=KO fun W=>Fi (n1+n2) h1 h2 W
 have F1:=KO F1;have F2:=KO F2;have hn1:=KO hn1;have hn2:=KO hn2
 have i1:(n1:Int)<=4:=ω
 have i2:(n2:Int)<=4:=ω
 go_enter func119,ntmps119
 go_wp2
 go_loopw [3,11] (fun vs vk wr=>w=wr/\((vk=.int .i64 0/\vs=.int .i64 0)∨(vk=.int .i64 1/\vs=.int .i64 (n1:Int))∨(vk=.int .i64 2/\vs=.int .i64 ((n1:Int)+n2)))) (fun _ vk _=>2 - (intOf vk).toNat)
 case atStart=>exact ⟨rfl,Or.inl ⟨rfl,rfl⟩⟩
 case round=>
 obtain ⟨rfl,hrel⟩:=hrel
 rcases hrel with ⟨rfl,rfl⟩ | ⟨rfl,rfl⟩ | ⟨rfl,rfl⟩
 ·go_wp2
  go_roundw
  case rel=>exact ⟨trivial,Or.inr (Or.inl ⟨rfl,ν⟩)⟩
  case measure=>simp [intOf]
 ·go_wp2
  go_roundw
  case rel=>exact ⟨trivial,Or.inr (Or.inr ⟨rfl,ν⟩)⟩
  case measure=>simp [intOf]
 replace PG:=KO (fun W x (hx:x=((n1:Int)+n2))=>(by subst hx;exact PG.out W:Calls prog 155 #[.slice none 0 0,x] W fun e w'=>∃ v,e=.returned v/\Rw.Own EP w' W v []/\Below W W w'))
 go_wp2_with (go_at_call 155;refine (PG.out _ _ ω).mono ?_;rintro e w4 ⟨v4,rfl,Ks,hb4⟩)
 go_loopw [6,27] (fun vo vk wq=>Below w w wq/\((vk=.int .i64 0/\Hid (Rw.Own EP wq w vo []))∨(vk=.int .i64 1/\Hid (Rw.Own EP wq w vo r1))∨(vk=.int .i64 2/\Hid (Rw.Own EP wq w vo (r1 ++ r2))))) (fun _ vk _=>2 - (intOf vk).toNat)
 case atStart=>exact ⟨hb4,Or.inl ⟨rfl,KO Ks⟩⟩
 case round=>
 clear hb4 Ks;obtain ⟨B,hrel⟩:=hrel;have y0:=aE B k0;have y1:=aE B k1
 rcases hrel with ⟨rfl,ho⟩ | ⟨rfl,ho⟩ | ⟨rfl,ho⟩
 ·go_wp2_with (at_builtin;refine Rw.push HS (W:=w) w r1 [] _ a1 n1 c1 hn1.out rfl (.tmp 31) (.tmp 32) rfl rfl rfl (F1.out.below B) ho.out B B.size (by have:=hn1.out;simp only [List.length_nil];omega) ?_;intro v6 w6 hown6 hb6)
  go_roundw
  case rel=>exact ⟨hb6,Or.inr (Or.inl ⟨rfl,KO hown6⟩)⟩
  case measure=>simp [intOf]
 ·go_wp2_with (at_builtin;refine Rw.push HS (W:=w) w r2 r1 _ a2 n2 c2 hn2.out rfl (.tmp 31) (.tmp 32) rfl rfl rfl (F2.out.below B) ho.out B B.size (by have:=hn1.out;have:=hn2.out;omega) ?_;intro v6 w6 hown6 hb6)
  go_roundw
  case rel=>exact ⟨hb6,Or.inr (Or.inr ⟨rfl,KO hown6⟩)⟩
  case measure=>simp [intOf]
 go_wp2;go_ret;exact ⟨_,rfl,ho.out,B⟩
theorem was2 {p:Prop} (h:p:=by obtain ⟨h1,h2,h3,h4⟩:=h;exact ⟨fG h1 hv Qp x,h2,fun i u r hu hr=>fG (h3 i u r hu hr) hv hT x,h4⟩):p:=h
theorem fG {W:World} {base g i k n:Nat} {t T:TypeId} {v:Value} {vs:List Value} {ys:Array Value} (h:W.ownsRow base t k v n vs) (hv:aG W g T ys) (hT:T≠t) (x:Value):(W.setCell ⟨g,i,none⟩ x).ownsRow base t k v n vs:=by
 have hap:v.ownBlock≠some g:=by
  intro e
  rcases h.2 with ⟨rfl,-⟩ | ⟨g1,c1,QK,rfl,-,Nv,-⟩
  ·cases e
  simp only [Value.ownBlock,Option.some.injEq] at e;subst e;unfold aG at hv;rw [Nv] at hv
  injection hv with hv
  injection hv with _ h2
  exact hT h2.symm
 refine World.ownsRow.kept (row:=some g) h ⟨rfl,rfl,rfl,by simp [go_sem],fun k hk hne=>?_⟩ (Or.inr hap);exact Z8
theorem rU {w W:World} (ty:TypeId) (base:Nat) (u:Value) (r:List (Int × Int)) (vs:List Value) (rows:List (List (Int × Int))) (v:Value)
  (hown:bj w base v vs rows) (hu:Rw.Own EP w base u r) (hnew:∀ g,u.ownBlock=some g->∀ z ∈ vs,z.ownBlock≠some g)
  (hW:Below base W w) (hB:base<=w.heap.size) (hl:rows.length<=1000000000) :
  ∃ v' w',(Builtin.append_ #[67,67] ty #[v,.slice (some ⟨w,0,none⟩) 1 1]).run prog (w.alloc (.cells #[u] 70))=.ok v' w'/\bj w' base v' (vs ++ [u]) (rows ++ [r])/\Below base W w':=by
 obtain ⟨i0,hi,hz0,hz1,hz2⟩:=info_parts Dd;obtain ⟨h1,h2,h3,h4⟩:=hown
 obtain ⟨v',w',q1,k1,k2,-,-⟩:=run_append_own_at (P:=prog) (w.alloc (.cells #[u] 70)) base 67 ty 70 i0 (.slice none 0 0) 1 24 Tryz.underlying67 hi hz0 hz1 hz2 rfl δ v rows.length vs (h1.alloc _) ⟨w,0,none⟩ 1 1 [u] rfl (fun j z hz=>by
  have hadd:(⟨w,0,none⟩:Addr).add j=⟨w,j,none⟩:=by unfold Addr.add;split <;> simp_all
  rw [hadd,World.cell?_alloc_at _ _ _ _ rfl]
  simpa using hz) (fun z hz=>by simp only [List.mem_singleton] at hz;subst hz;exact uA hu) (by unfold maxLen;omega) ω (by rw [KQ];omega)
 refine ⟨v',w',q1,⟨by rw [List.length_append];exact k1,by rw [List.length_append,List.length_append,h2];rfl,?_,?_⟩,((hW.alloc hB _).grown k2 (by rw [KQ];omega) fun k hk=>(h1.lt k hk).1)⟩
 ·have hal:∀ {z:Value} {q:List (Int × Int)},Rw.Own EP w base z q->Rw.Own EP w' base z q:=by
   intro z q hz;have hz':Rw.Own EP (w.alloc (.cells #[u] 70)) base z q:=World.ownsRow.alloc hz _
   refine hz'.kept k2 fun g hg=>?_
   exact gL (t1:=72) (t2:=70) hz' (World.ownsRow.alloc h1 _) (Ne.symm neP) g hg
  exact Uf
 exact Uu
theorem bj.fU {W:World} {base g i:Nat} {T:TypeId} {v:Value} {vs:List Value} {rows:List (List (Int × Int))} {ys:Array Value} (h:bj W base v vs rows) (hv:aG W g T ys) (hT:T≠72) (Qp:T≠70) (x:Value):bj (W.setCell ⟨g,i,none⟩ x) base v vs rows:=by
 exact was2
theorem gC.fU {W:World} {base g i:Nat} {T:TypeId} {v:Value} {rows:List (List (Int × Int))} {ys:Array Value} (h:gC W base v rows) (hv:aG W g T ys) (hT:T≠72) (Qp:T≠70) (x:Value):gC (W.setCell ⟨g,i,none⟩ x) base v rows:=h.elim fun vs k=>⟨vs,k.fU hv hT Qp x⟩
theorem bj.fresh {w w':World} {base b2:Nat} {v u:Value} {vs:List Value} {rows:List (List (Int × Int))} {r:List (Int × Int)} (h:bj w base v vs rows) (hu:Rw.Own EP w' b2 u r) (hb:w.heap.size<=b2):∀ g,u.ownBlock=some g->∀ z ∈ vs,z.ownBlock≠some g:=fun g hg z hz e=>by
 have h1:=(h.lt z hz g e).2;have h2:=(hu.lt g hg).1;omega
theorem Rw.From.cut {α:Type} {E:Rw.Enc α} {w:World} {g:Nat} {r:List α} (h:Rw.From E w (some ⟨g,0,none⟩) r) (c:Nat):Rw.From E w (some ⟨g,0,none⟩) (r.take c):=fun j u hu=>by
 rw [nX,List.getElem?_take] at hu
 split at hu
 ·exact h j u hu
 cases hu
theorem Rw.From.rest {α:Type} {E:Rw.Enc α} {w:World} {g:Nat} {r:List α} (h:Rw.From E w (some ⟨g,0,none⟩) r) (c:Nat):Rw.From E w (some ⟨g,c*E.k,none⟩) (r.drop c):=fun j u hu=>by
 rw [Aj,List.getElem?_drop] at hu;obtain ⟨ad,e,hc⟩:=h _ u hu;refine ⟨_,rfl,?_⟩;have:=Option.some.inj e;subst this
 have Wt:∀ b i j:Nat,(⟨b,i,none⟩:Addr).add j=⟨b,i+j,none⟩:=fun b i j=>by unfold Addr.add;split <;> simp_all
 rw [Wt] at hc ⊢;rw [Nat.zero_add] at hc;exact hc
theorem Rw.From.zf {α:Type} {E:Rw.Enc α} {w:World} {g:Nat} {r:List α} (h:Rw.From E w (some ⟨g,0,none⟩) r) (c cap:Nat) (hl:r.length<=cap):Rw.From E w (if cap=c then some ⟨g,0,none⟩ else some ⟨g,c*E.k,none⟩) (r.drop c):=by
 by_cases hc:cap=c
 ·rw [if_pos hc,List.drop_eq_nil_of_le ω]
  exact Rw.From.nil E w _
 rw [if_neg hc];exact h.rest c
theorem rT {w W:World} (ty:TypeId) (base:Nat) (u:Value) (r:List (Int × Int × Int × Int)) (vs:List Value) (rows:List (List (Int × Int × Int × Int))) (v:Value)
  (hown:cH w base v vs rows) (hu:Rw.Own EN w base u r) (hnew:∀ g,u.ownBlock=some g->∀ z ∈ vs,z.ownBlock≠some g)
  (hW:Below base W w) (hB:base<=w.heap.size) (hl:rows.length<=1000000000) :
  ∃ v' w',(Builtin.append_ #[28,28] ty #[v,.slice (some ⟨w,0,none⟩) 1 1]).run prog (w.alloc (.cells #[u] 56))=.ok v' w'/\cH w' base v' (vs ++ [u]) (rows ++ [r])/\Below base W w':=by
 obtain ⟨i0,hi,hz0,hz1,hz2⟩:=info_parts Db;obtain ⟨h1,h2,h3,h4⟩:=hown
 obtain ⟨v',w',q1,k1,k2,-,-⟩:=run_append_own_at (P:=prog) (w.alloc (.cells #[u] 56)) base 28 ty 56 i0 (.slice none 0 0) 1 24 Tryz.underlying28 hi hz0 hz1 hz2 rfl δ v rows.length vs (h1.alloc _) ⟨w,0,none⟩ 1 1 [u] rfl (fun j z hz=>by
  have hadd:(⟨w,0,none⟩:Addr).add j=⟨w,j,none⟩:=by unfold Addr.add;split <;> simp_all
  rw [hadd,World.cell?_alloc_at _ _ _ _ rfl]
  simpa using hz) (fun z hz=>by simp only [List.mem_singleton] at hz;subst hz;exact uA hu) (by unfold maxLen;omega) ω (by rw [KQ];omega)
 refine ⟨v',w',q1,⟨by rw [List.length_append];exact k1,by rw [List.length_append,List.length_append,h2];rfl,?_,?_⟩,((hW.alloc hB _).grown k2 (by rw [KQ];omega) fun k hk=>(h1.lt k hk).1)⟩
 ·have hal:∀ {z:Value} {q:List (Int × Int × Int × Int)},Rw.Own EN w base z q->Rw.Own EN w' base z q:=by
   intro z q hz;have hz':Rw.Own EN (w.alloc (.cells #[u] 56)) base z q:=World.ownsRow.alloc hz _
   refine hz'.kept k2 fun g hg=>?_
   exact gL (t1:=34) (t2:=56) hz' (World.ownsRow.alloc h1 _) (Ne.symm neN) g hg
  exact Uf
 exact Uu
theorem cH.fU {W:World} {base g i:Nat} {T:TypeId} {v:Value} {vs:List Value} {rows:List (List (Int × Int × Int × Int))} {ys:Array Value} (h:cH W base v vs rows) (hv:aG W g T ys) (hT:T≠34) (Qp:T≠56) (x:Value):cH (W.setCell ⟨g,i,none⟩ x) base v vs rows:=by
 exact was2
theorem cZ.fU {W:World} {base g i:Nat} {T:TypeId} {v:Value} {rows:List (List (Int × Int × Int × Int))} {ys:Array Value} (h:cZ W base v rows) (hv:aG W g T ys) (hT:T≠34) (Qp:T≠56) (x:Value):cZ (W.setCell ⟨g,i,none⟩ x) base v rows:=h.elim fun vs k=>⟨vs,k.fU hv hT Qp x⟩
theorem cH.fresh {w w':World} {base b2:Nat} {v u:Value} {vs:List Value} {rows:List (List (Int × Int × Int × Int))} {r:List (Int × Int × Int × Int)} (h:cH w base v vs rows) (hu:Rw.Own EN w' b2 u r) (hb:w.heap.size<=b2):∀ g,u.ownBlock=some g->∀ z ∈ vs,z.ownBlock≠some g:=fun g hg z hz e=>by
 have h1:=(h.lt z hz g e).2;have h2:=(hu.lt g hg).1;omega
theorem Yb {p:Prop} (h:p:=by
 have hi:=(List.getElem?_eq_some_iff.1 hr).1;have hl:=h.2.1;have hu:vs[i]?=some (vs[i]' ω):=List.getElem?_eq_getElem ω
 rcases (h.2.2.1 i _ r hu hr).forms with ⟨-,h4⟩ | ⟨g2,cap2,e,hg,hg2,hc2,-⟩
 ·exact absurd h4 hne
 exact ⟨g2,cap2,by rw [hu,e],hc2,hg2⟩):p:=h
theorem Ym {p:Prop} (h:p:=by
 have ho:=h.2.2.1 i _ r hu hr
 rcases ho.forms with ⟨e,-⟩ | ⟨g3,TF,e,hg,hg3,hc3,-⟩
 ·cases e
 injection e with e1 e2 e3
 have:=ho.Hk e2 (ho.lt g2 rfl).2 (KS _ w) r.length;rw [List.take_length] at this;exact this):p:=h
theorem Yp {p:Prop} (h:p:=by
 have hi:=(List.getElem?_eq_some_iff.1 hu).1;have hl:=h.2.1;have h1:=h.1
 rcases h1.2 with ⟨e,-⟩ | ⟨g1,c1,QK,e,-⟩
 ·cases e
 injection e with _ e2 _
 subst e2;exact (World.ownsRow.cellAt h1 i ω).trans hu):p:=h
theorem Yt {p:Prop} (h:p:=by
 rcases h.1.2 with ⟨-,h2⟩ | ⟨g,cap,cur,e,hg,hh,hc,hm,-⟩
 ·exact absurd (List.eq_nil_of_length_eq_zero h2) hne
 exact ⟨g,cap,e,hc,by unfold maxLen at hm;omega,(Array.getElem?_eq_some_iff.1 hh).1⟩):p:=h
namespace M
def jY (ok:Bool) (n:Nat) (m:LD) (c:Nat):Sp:=if c=0 then some (0,0) else gd ok (fA n m c)
def jU (ok:Bool) (n:Nat) (m:LD):Sp:=if n=1 then dZ 1 m else gd ok (dZ n m)
theorem Gl {ok:Bool} {n:Nat} {m:LD} {c:Nat}:LR (jY ok n m c):=by
 unfold jY
 split
 ·intro p hp
  exact VH
 exact kH (tw _)
theorem AE {ok:Bool} {n:Nat} {m:LD} {c:Nat} (h:(ok && (fA n m c).isSome)=true):jY ok n m c=fA n m c:=by
 rw [Bool.and_eq_true] at h;unfold jY
 split
 ·rename_i hc;subst hc;rfl
 rw [h.1];rfl
theorem yd {ok:Bool} {n:Nat} {m:LD} (h:(ok && (dZ n m).isSome)=true):jU ok n m=dZ n m:=by
 rw [Bool.and_eq_true] at h;unfold jU
 split
 ·rename_i hc;subst hc;rfl
 rw [h.1];rfl
theorem FU {ok:Bool} {n:Nat} {m:LD} (h:UJ m):LR (jU ok n m):=by
 unfold jU
 split
 ·exact pQ h 1
 exact kH (pQ h _)
theorem Af {ok fc f1:Bool} {n c:Nat} {m:LD} {q:Int × Int} {u1 u2:Sp} (hfc:fc=(ok && (fA n m c).isSome)) (hf1:f1=(fc && (dZ (n+1) (br m c)).isSome)) (hu1:u1=jU fc (n+1) (br m c)) (hq:(m.headD [])[c]?=some q) (hu2:u2=gd f1 (cn (some q) u1)) :
  gd u2.isSome (fo (jY ok n m c) u2 c)=jY ok n m (c+1)/\(gd u2.isSome (fo (jY ok n m c) u2 c)).isSome=(ok && (fA n m (c+1)).isSome):=by
 have e:jY ok n m (c+1)=gd ok (fA n m (c+1)):=if_neg ω
 have key:gd u2.isSome (fo (jY ok n m c) u2 c)=gd ok (fA n m (c+1)):=by
  rw [iX,hq]
  cases ok with
  | false=>
   have:f1=false:=by rw [hf1,hfc];rfl
   rw [hu2,this];rfl
  | true=>
  cases hS:fA n m c with
  | none=>
   have:f1=false:=by rw [hf1,hfc,hS];rfl
   rw [hu2,this,lr];rfl
  | some s=>
  cases hD:dZ (n+1) (br m c) with
  | none=>
   have:f1=false:=by rw [hf1,hD,Bool.and_comm];rfl
   have e2:cn (some q) none=none:=rfl;rw [hu2,this,e2,ez];rfl
  | some d=>
  have h1:fc=true:=by rw [hfc,hS];rfl
  have h2:f1=true:=by rw [hf1,h1,hD];rfl
  have h3:u1=some d:=by rw [hu1,yd (by rw [h1,hD];rfl),hD]
  have h4:jY true n m c=some s:=by rw [AE (by rw [hS];rfl),hS]
  rw [h4,hu2,h2,h3]
  show gd (cn (some q) (some d)).isSome (fo (some s) (cn (some q) (some d)) c)=fo (some s) (cn (some q) (some d)) c
  cases cn (some q) (some d) with
  | none=>rw [ez];rfl
  | some u=>rfl
 exact ⟨key.trans e.symm,by rw [key];cases ok <;> rfl⟩
theorem Bj {ok:Bool} {n:Nat} {m:LD} {c:Nat} (h:(ok && (fA n m c).isSome)=true):(jY ok n m c).isSome=true:=by
 rw [AE h];rw [Bool.and_eq_true] at h;exact h.2
theorem Ad {ok:Bool} {n:Nat} {m:LD} (h:(ok && (dZ n m).isSome)=true):(jU ok n m).isSome=true:=by
 rw [yd h];rw [Bool.and_eq_true] at h;exact h.2
theorem Em {ok:Bool} {n:Nat} {m:LD} (hm:square (n+2) m):jY ok n m (n+2)=jU ok (n+2) m/\(ok && (fA n m (n+2)).isSome)=(ok && (dZ (n+2) m).isSome):=by
 have hl:(m.headD []).length=n+2:=by
  cases m with
  | nil=>have:=hm.1;simp only [List.length_nil] at this;omega
  | cons r m=>exact hm.2 r (List.mem_cons_self ..)
 have e:dZ (n+2) m=fA n m (n+2):=by rw [iv,hl]
 unfold jY jU;rw [if_neg ω,if_neg ω,e];exact ⟨rfl,rfl⟩
theorem BA {m:LD} {c i:Nat} {r:List (Int × Int)} (h:m[i+1]?=some r):(br m c)[i]?=some (r.take c ++ r.drop (c+1)):=by
 unfold br;rw [List.getElem?_map,List.getElem?_tail,h];rfl
theorem xZ {m:LD} {c n:Nat} (h:m.length=n+1):(br m c).length=n:=by
 unfold br;rw [List.length_map,List.length_tail,h];rfl
theorem fW {α:Type} {l:List α} {i:Nat} {x:α} (h:l[i]?=some x):l.take (i+1)=l.take i ++ [x]:=by
 rw [List.take_add_one,h];rfl
end M
theorem bj.rowIs {w:World} {base:Nat} {v:Value} {vs:List Value} {rows:List (List (Int × Int))} (h:bj w base v vs rows) {i:Nat} {r:List (Int × Int)} (hr:rows[i]?=some r) (hne:r≠[]) :
  ∃ (g2 cap2:Nat),vs[i]?=some (.slice (some ⟨g2,0,none⟩) r.length cap2)/\r.length<=cap2/\g2<w.heap.size:=by
 exact Yb
theorem bj.form {w:World} {base:Nat} {v:Value} {vs:List Value} {rows:List (List (Int × Int))} (h:bj w base v vs rows) (hne:rows≠[]):∃ (g cap:Nat),v=.slice (some ⟨g,0,none⟩) rows.length cap/\rows.length<=cap/\cap<=9223372036854775807/\g<w.heap.size:=by
 exact Yt
theorem bj.iD {w:World} {base g n cap:Nat} {vs:List Value} {rows:List (List (Int × Int))} (h:bj w base (.slice (some ⟨g,0,none⟩) n cap) vs rows) {i:Nat} {u:Value} (hu:vs[i]?=some u):w.cell? ⟨g,i,none⟩=some u:=by
 exact Yp
theorem bj.rowFrom {w:World} {base:Nat} {v:Value} {vs:List Value} {rows:List (List (Int × Int))} (h:bj w base v vs rows) {i g2 cap2 n2:Nat} {r:List (Int × Int)} (hu:vs[i]?=some (.slice (some ⟨g2,0,none⟩) n2 cap2)) (hr:rows[i]?=some r):Rw.From EP w (some ⟨g2,0,none⟩) r:=by
 exact Ym
theorem Rw.From.at2 {w:World} {g c:Nat} {r:List (Int × Int)} {q:Int × Int} (h:Rw.From EP w (some ⟨g,0,none⟩) r) (hq:r[c]?=some q):w.cell? ⟨g,c*2,none⟩=some (.int .i64 q.1)/\w.cell? ⟨g,c*2+1,none⟩=some (.int .i64 q.2):=by
 have hadd:∀ b i:Nat,(⟨b,0,none⟩:Addr).add i=⟨b,i,none⟩:=fun b i=>by unfold Addr.add;split <;> simp_all
 have hc:∀ (t:Nat) (u:Value),t<2->(EP.cells q)[t]?=some u->w.cell? ⟨g,c*2+t,none⟩=some u:=fun t u ht hu=>by
  obtain ⟨ad,e,hh⟩:=h (c*2+t) u ((Rw.flat_get EP r c t q hq ht).trans hu);have:=Option.some.inj e;subst this;rw [hadd] at hh;exact hh
 exact ⟨hc 0 _ δ rfl,hc 1 _ δ rfl⟩
theorem bj.Fs {w w':World} {base g:Nat} {T:TypeId} {v x y:Value} {vs:List Value} {rows:List (List (Int × Int))} (h:bj w base v vs rows) (K:aG w g T #[x]) (hT:T≠72) (Qp:T≠70) (hb:Below w (w.setCell ⟨g,0,none⟩ y) w'):bj w' base v vs rows:=
 (h.fU K hT Qp y).below (bI hb)
end
end Go.Proofs.YtlnjcilaflfnlaaGreatDoor
