/-
  Joined texts: contracts and plain lemmas.
-/
import Derived.Test.YtkalaljcbmkbmaaGreatB1
import Derived.Test.YtkalaljcbmkbmaaGreatB9
import Derived.Laws.FloatArith
import Derived.Laws.Externs
set_option linter.unusedSimpArgs false
set_option linter.unusedVariables false
set_option maxRecDepth 100000
set_option maxHeartbeats 8000000
namespace Go.Proofs.YtkalaljcbmkbmaaGreat
open Tryz
section
open Go.RowKit open Gr M Rg Rw Wh
namespace M
def top (n m X1 E1 X2 E2:Int):Int:=n*n*(E1*E1*E2*E2) - m*m*(X1*E2*E2+X2*E1*E1)
def bot (m E1 E2:Int):Int:=m*m*(E1*E1*E2*E2)
def gw (n m X1 Y1 E1 x e:Int):Int:=n*(X1*e*e - x*E1*E1)*E1 - Y1*m*e*e
theorem HW {x1 x2 y1 y2 l A B:Int} (h1:y1*y1=x1*x1*x1+A*x1+B) (h2:y2*y2=x2*x2*x2+A*x2+B) (hl:l*(x2 - x1)=y2 - y1) (hne:x2 - x1≠0):(l*(x1 - (l*l - x1 - x2)) - y1)*(l*(x1 - (l*l - x1 - x2)) - y1)=(l*l - x1 - x2)*(l*l - x1 - x2)*(l*l - x1 - x2)+A*(l*l - x1 - x2)+B:=by
 have hU:(x2 - x1)*(A - 2*l*(y1 - l*x1) - (x1*x2+(x1+x2)*(l*l - x1 - x2)))=0:=φ
 have hU2:A - 2*l*(y1 - l*x1) - (x1*x2+(x1+x2)*(l*l - x1 - x2))=0:=by
  rcases Int.mul_eq_zero.1 hU with h | h
  ·exact absurd h hne
  exact h
 grind
theorem Yq {x1 y1 l A B:Int} (h1:y1*y1=x1*x1*x1+A*x1+B) (hl:l*(2*y1)=3*x1*x1+A):(l*(x1 - (l*l - x1 - x1)) - y1)*(l*(x1 - (l*l - x1 - x1)) - y1)=(l*l - x1 - x1)*(l*l - x1 - x1)*(l*l - x1 - x1)+A*(l*l - x1 - x1)+B:=by
 grind
theorem scale {a b X Y E m F:Int} (h:Y*Y=X*X*X+a*X*E*E*E*E+b*E*E*E*E*E*E):(Y*m*m*m*F*F*F)*(Y*m*m*m*F*F*F)=(X*m*m*F*F)*(X*m*m*F*F)*(X*m*m*F*F)+a*((m*E*F)*(m*E*F)*((m*E*F)*(m*E*F)))*(X*m*m*F*F)+b*((m*E*F)*(m*E*F)*((m*E*F)*(m*E*F))*((m*E*F)*(m*E*F))):=by
 have q:(Y*m*m*m*F*F*F)*(Y*m*m*m*F*F*F)=(Y*Y)*(m*m*m*m*m*m*(F*F*F*F*F*F)):=by clear h;grind
 rw [q,h];clear h q
 grind
theorem slp {n m u v k l r:Int} (h:n*u=m*v) (e1:l=u*k*n) (e2:r=v*(k*m)):l=r:=by
 rw [e1,e2,show u*k*n=n*u*k by grind,h];clear h e1 e2
 grind
theorem IP {a b X1 Y1 E1 X2 Y2 E2 n m:Int} (h1:Y1*Y1=cv a b X1 E1) (h2:Y2*Y2=cv a b X2 E2) (he1:E1≠0) (he2:E2≠0) (hm:m≠0) (hs:n*sD X1 Y1 E1 X2 Y2 E2=m*sN a X1 Y1 E1 X2 Y2 E2) (hd:sD X1 Y1 E1 X2 Y2 E2≠0) :
  (n*E1*E2*(X1*m*m*E2*E2 - top n m X1 E1 X2 E2) - Y1*m*m*m*E2*E2*E2)*(n*E1*E2*(X1*m*m*E2*E2 - top n m X1 E1 X2 E2) - Y1*m*m*m*E2*E2*E2)=top n m X1 E1 X2 E2*top n m X1 E1 X2 E2*top n m X1 E1 X2 E2+a*(bot m E1 E2*bot m E1 E2)*top n m X1 E1 X2 E2+b*(bot m E1 E2*bot m E1 E2*bot m E1 E2):=by
 unfold cv at h1 h2
 have ht:top n m X1 E1 X2 E2=(n*E1*E2)*(n*E1*E2) - X1*m*m*E2*E2 - X2*m*m*E1*E1:=by unfold top;grind
 have hb:bot m E1 E2=(m*E1*E2)*(m*E1*E2):=by unfold bot;grind
 have k1:=scale (m:=m) (F:=E2) h1
 by_cases hc:X1=X2/\Y1=Y2/\E1=E2
 ·unfold sD at hs;rw [if_pos hc] at hs
  unfold sN at hs;rw [if_pos hc] at hs;obtain ⟨rfl,rfl,rfl⟩:=hc;have kl:(n*E1*E1)*(2*(Y1*m*m*m*E1*E1*E1))=3*(X1*m*m*E1*E1)*(X1*m*m*E1*E1)+a*((m*E1*E1)*(m*E1*E1)*((m*E1*E1)*(m*E1*E1))):=slp (k:=m*m*m*E1*E1*E1*E1) hs (by clear hs k1;grind) (by clear hs k1;grind);have:=Yq k1 kl;rw [ht,hb];exact this
 unfold sD at hs hd;rw [if_neg hc] at hs hd;unfold sN at hs;rw [if_neg hc] at hs;have k2:=scale (m:=m) (F:=E1) h2;rw [show m*E2*E1=m*E1*E2 by grind] at k2;have kl:(n*E1*E2)*(X2*m*m*E1*E1 - X1*m*m*E2*E2)=Y2*m*m*m*E1*E1*E1 - Y1*m*m*m*E2*E2*E2:=slp (k:=m*m) hs (by clear hs k1 k2 hd;grind) (by clear hs k1 k2 hd;grind)
 have kn:X2*m*m*E1*E1 - X1*m*m*E2*E2≠0:=by
  intro h
  have:m*m*(X2*E1*E1 - X1*E2*E2)=0:=by rw [←h];clear h;grind
  rcases Int.mul_eq_zero.1 this with h | h
  ·rcases Int.mul_eq_zero.1 h with h | h <;> exact hm h
  exact hd (by rw [h];simp)
 have:=HW k1 k2 kl kn;rw [ht,hb];exact this
theorem fZ {k x y:Int} (hk:k≠0) (h:k*x=k*y):x=y:=Int.eq_of_mul_eq_mul_left hk h
theorem Cj {a b X1 Y1 E1 X2 Y2 E2 n m x e:Int} (h1:Y1*Y1=cv a b X1 E1) (h2:Y2*Y2=cv a b X2 E2) (he1:E1≠0) (he2:E2≠0) (hm:m≠0) (hs:n*sD X1 Y1 E1 X2 Y2 E2=m*sN a X1 Y1 E1 X2 Y2 E2) (hd:sD X1 Y1 E1 X2 Y2 E2≠0) (hx:bot m E1 E2*x=top n m X1 E1 X2 E2*(e*e)) :
  (e*gw n m X1 Y1 E1 x e)*(e*gw n m X1 Y1 E1 x e)=(m*E1*E1*E1)*(m*E1*E1*E1)*cv a b x e:=by
 have h3:=IP h1 h2 he1 he2 hm hs hd
 have hy:e*e*(n*E1*E2*(X1*m*m*E2*E2 - top n m X1 E1 X2 E2) - Y1*m*m*m*E2*E2*E2)=m*m*E2*E2*E2*gw n m X1 Y1 E1 x e:=by
  unfold gw;unfold bot at hx
  have hq:n*E1*E2*(m*m*(E1*E1*E2*E2)*x)=n*E1*E2*(top n m X1 E1 X2 E2*(e*e)):=by rw [hx]
  generalize top n m X1 E1 X2 E2=t at *;clear h1 h2 he1 he2 hm hs hd h3 hx
  grind
 generalize top n m X1 E1 X2 E2=t,gw n m X1 Y1 E1 x e=s,(n*E1*E2*(X1*m*m*E2*E2 - top n m X1 E1 X2 E2) - Y1*m*m*m*E2*E2*E2)=y3 at *
 have hk:(m*m*m*m)*(E2*E2*E2*E2*E2*E2)≠0:=by
  repeat' apply Int.mul_ne_zero
  all_goals assumption
 apply fZ hk
 have q1:(m*m*m*m)*(E2*E2*E2*E2*E2*E2)*((e*s)*(e*s))=e*e*(e*e*y3)*(e*e*y3):=by rw [hy];clear h1 h2 hs h3 hx hy;grind
 have q2:e*e*(e*e*y3)*(e*e*y3)=(e*e)*(e*e)*(e*e)*(y3*y3):=by clear h1 h2 hs h3 hx hy q1;grind
 rw [q1,q2,h3]
 have q3:bot m E1 E2=(m*E1*E2)*(m*E1*E2):=by unfold bot;grind
 have q4:(e*e)*(e*e)*(e*e)*(t*t*t+a*(bot m E1 E2*bot m E1 E2)*t+b*(bot m E1 E2*bot m E1 E2*bot m E1 E2))=(t*(e*e))*(t*(e*e))*(t*(e*e))+a*(bot m E1 E2*bot m E1 E2)*(t*(e*e))*(e*e*(e*e))+b*(bot m E1 E2*bot m E1 E2*bot m E1 E2)*(e*e*(e*e)*(e*e)):=by clear h1 h2 hs h3 hx hy q1 q2 q3;grind
 rw [q4,←hx];unfold cv;rw [q3];clear h1 h2 he1 he2 hm hs hd h3 hx hy hk q1 q2 q3 q4
 grind
theorem Cb {k c z:Int} (hk:k≠0) (h:z*z=k*k*c):∃ q,z=k*q/\q*q=c:=by
 have h1:k*k ∣ z*z:=⟨c,h⟩
 have h2:k.natAbs ^ 2 ∣ z.natAbs ^ 2:=by
  have:=Int.natAbs_dvd_natAbs.2 h1
  rwa [Int.natAbs_mul,Int.natAbs_mul,←Nat.pow_two,←Nat.pow_two] at this
 have h3:k ∣ z:=Int.natAbs_dvd_natAbs.1 ((Nat.pow_dvd_pow_iff δ).1 h2);obtain ⟨q,rfl⟩:=h3;refine ⟨q,rfl,?_⟩;have hkk:k*k≠0:=Int.mul_ne_zero hk hk
 apply fZ hkk
 rw [←h];clear h h1 h2
 grind
theorem Eb {a b X1 Y1 E1 X2 Y2 E2 n m x e:Int} (h1:Y1*Y1=cv a b X1 E1) (h2:Y2*Y2=cv a b X2 E2) (he1:E1≠0) (he2:E2≠0) (hm:m≠0) (hs:n*sD X1 Y1 E1 X2 Y2 E2=m*sN a X1 Y1 E1 X2 Y2 E2) (hd:sD X1 Y1 E1 X2 Y2 E2≠0) (hx:bot m E1 E2*x=top n m X1 E1 X2 E2*(e*e)) :
  ∃ y,e*gw n m X1 Y1 E1 x e=m*E1*E1*E1*y/\y*y=cv a b x e:=
 Cb (Int.mul_ne_zero (Int.mul_ne_zero (Int.mul_ne_zero hm he1) he1) he1) (Cj h1 h2 he1 he2 hm hs hd hx)
theorem yt {X1 E1 X2 E2 n m x e:Int} (hg:Int.gcd n m=1) (hx:bot m E1 E2*x=top n m X1 E1 X2 E2*(e*e)):m ∣ E1*E2*e:=by
 have h1:(n*(E1*E2*e))*(n*(E1*E2*e))=m*m*(E1*E1*E2*E2*x+(X1*E2*E2+X2*E1*E1)*(e*e)):=by
  unfold bot top at hx;clear hg
  grind
 have h3:m ∣ n*(E1*E2*e):=by
  by_cases hm:m=0
  ·subst hm
   simp only [Int.zero_mul] at h1
   rcases Int.mul_eq_zero.1 h1 with h | h <;> rw [h] <;> exact ⟨0,rfl⟩
  obtain ⟨q,hq,-⟩:=Cb hm h1;exact ⟨q,hq⟩
 have h4:=Int.dvd_gcd_mul_iff_dvd_mul.2 h3;rw [Int.gcd_comm,hg] at h4
 simpa using h4
theorem CX {X1 E1 X2 E2 n m x e:Int} (he1:1<=E1) (he2:1<=E2) (he:1<=e) (hx1:X1<=10000) (hx2:X2<=10000) (hx3:x<=10000) (hx:bot m E1 E2*x=top n m X1 E1 X2 E2*(e*e)):n*n<=30000*(m*m):=by
 have k1:1<=E1*E1:=by have:=Int.mul_le_mul he1 he1 ω ω;omega
 have k2:1<=E2*E2:=by have:=Int.mul_le_mul he2 he2 ω ω;omega
 have k3:1<=e*e:=by have:=Int.mul_le_mul he he ω ω;omega
 have h1:(E1*E1)*(E2*E2)*(e*e)*(n*n)=m*m*((E1*E1)*(E2*E2)*x+(E2*E2)*(e*e)*X1+(E1*E1)*(e*e)*X2):=by
  unfold bot top at hx;clear k1 k2 k3
  grind
 have hmm:0<=m*m:=by rcases Int.le_total 0 m with h | h;exact Int.mul_nonneg h h;exact Int.mul_nonneg_of_nonpos_of_nonpos h h
 clear hx he1 he2 he;generalize e*e=z,E2*E2=v,E1*E1=u at *;have p1:0<=u*v:=Int.mul_nonneg ω ω;have p2:0<=v*z:=Int.mul_nonneg ω ω;have p3:0<=u*z:=Int.mul_nonneg ω ω;have p4:0<u*v*z:=Int.mul_pos (Int.mul_pos ω ω) ω
 have s1:u*v*x<=u*v*z*10000:=by
  have a1:=Int.mul_le_mul_of_nonneg_left hx3 p1;have a2:=Int.mul_le_mul_of_nonneg_left k3 p1;omega
 have s2:v*z*X1<=u*v*z*10000:=by
  have a1:=Int.mul_le_mul_of_nonneg_left hx1 p2;have a2:=Int.mul_le_mul_of_nonneg_left k1 p2
  have a3:v*z*u=u*v*z:=by clear h1;grind
  omega
 have s3:u*z*X2<=u*v*z*10000:=by
  have a1:=Int.mul_le_mul_of_nonneg_left hx2 p3;have a2:=Int.mul_le_mul_of_nonneg_left k2 p3
  have a3:u*z*v=u*v*z:=by clear h1;grind
  omega
 have s4:u*v*z*(n*n)<=u*v*z*(30000*(m*m)):=by
  rw [h1];have a1:=Int.mul_le_mul_of_nonneg_left (show u*v*x+v*z*X1+u*z*X2<=u*v*z*30000 by omega) hmm
  have a2:m*m*(u*v*z*30000)=u*v*z*(30000*(m*m)):=by clear h1 a1 s1 s2 s3;grind
  omega
 exact Int.le_of_mul_le_mul_left s4 p4
theorem qO {n m:Int} (h:n*n<=30000*(m*m)):(n.natAbs:Int)<=200*(m.natAbs:Int):=by
 rw [←Int.natAbs_mul_self' n,←Int.natAbs_mul_self' m] at h
 have u0:0<=(n.natAbs:Int):=ω
 have v0:0<=(m.natAbs:Int):=ω
 generalize (n.natAbs:Int)=u at *;generalize (m.natAbs:Int)=v at *
 rcases Int.lt_or_le (200*v) u with q | q
 ·exfalso
  have:=Int.mul_le_mul (show 200*v+1<=u by omega) (show 200*v+1<=u by omega) ω ω;rw [show (200*v+1)*(200*v+1)=40000*(v*v)+400*v+1 by clear this h q;grind] at this;have vv:=Int.mul_nonneg v0 v0;omega
 exact q
theorem vF {n m k:Int} (hk:0<k):cY (n*k) (m*k)=cY n m/\bU (n*k) (m*k)=bU n m:=by
 have hg:M.gcd (n*k) (m*k)=M.gcd n m*k:=by
  unfold M.gcd;rw [Int.gcd_mul_right]
  push_cast
  rw [Int.natAbs_of_nonneg ω]
 have t1:(n*k).tdiv (M.gcd n m*k)=n.tdiv (M.gcd n m):=Int.mul_tdiv_mul_of_pos_left n (M.gcd n m) hk;have t2:(m*k).tdiv (M.gcd n m*k)=m.tdiv (M.gcd n m):=Int.mul_tdiv_mul_of_pos_left m (M.gcd n m) hk
 by_cases hn:m<0
 ·have hn':m*k<0:=Int.mul_neg_of_neg_of_pos hn hk
  rw [gt hn',gp hn',gt hn,gp hn,hg,t1,t2];exact ⟨rfl,rfl⟩
 have hn':0<=m*k:=Int.mul_nonneg ω ω;rw [d9 ω,d8 ω,d9 ω,d8 ω,hg,t1,t2];exact ⟨rfl,rfl⟩
theorem rK {t b x f:Int} (hb:0<b) (hf:0<f) (hg:Int.gcd x f=1) (h:b*x=t*f):cY t b=x/\bU t b=f:=by
 have h1:f ∣ x*b:=⟨t,by rw [Int.mul_comm x b,h,Int.mul_comm]⟩
 have h2:=Int.dvd_gcd_mul_iff_dvd_mul.2 h1;rw [Int.gcd_comm,hg] at h2
 obtain ⟨k,hk⟩:=(by simpa using h2:f ∣ b)
 have hk0:0<k:=by
  rcases Int.lt_or_le 0 k with q | q
  ·exact q
  have:=Int.mul_nonneg_of_nonpos_of_nonpos (show -f<=0 by omega) q;rw [Int.neg_mul] at this;omega
 have ht:t=x*k:=by
  apply fZ (show f≠0 by omega)
  rw [Int.mul_comm f t,←h,hk];clear h h1 h2 hk
  grind
 have hs:=vF (n:=x) (m:=f) hk0
 have hgg:M.gcd x f=1:=by unfold M.gcd;rw [hg];rfl
 rw [ht,hk];rw [hs.1,hs.2,d9 ω,d8 ω,hgg];simp
theorem rL {t b:Int} (hb:0<b):b*cY t b=t*bU t b/\0<bU t b/\Int.gcd (cY t b) (bU t b)=1:=by
 have hg:(0:Int)<M.gcd t b:=by
  unfold M.gcd;have:=Int.gcd_pos_of_ne_zero_right t (show b≠0 by omega);omega
 have d1:(M.gcd t b:Int) ∣ t:=Int.gcd_dvd_left ..;have d2:(M.gcd t b:Int) ∣ b:=Int.gcd_dvd_right ..;rw [d9 ω,d8 ω];obtain ⟨u,hu⟩:=d1;obtain ⟨v,hv⟩:=d2
 have e1:t.tdiv (M.gcd t b)=u:=by
                     conv=>lhs;arg 1;rw [hu]
                     exact Int.mul_tdiv_cancel_left u ω
 have e2:b.tdiv (M.gcd t b)=v:=by
                     conv=>lhs;arg 1;rw [hv]
                     exact Int.mul_tdiv_cancel_left v ω
 rw [e1,e2]
 have hgu:M.gcd (M.gcd t b*u) (M.gcd t b*v)=M.gcd t b:=by rw [←hu,←hv]
 generalize M.gcd t b=g at *;unfold M.gcd at hgu;rw [Int.gcd_mul_left] at hgu
 push_cast at hgu
 rw [Int.natAbs_of_nonneg ω] at hgu;refine ⟨?_,?_,?_⟩
 ·rw [hu,hv];clear hu hv e1 e2 hgu;grind
 ·rcases Int.lt_or_le 0 v with q | q
  ·exact q
  have:=Int.mul_nonneg_of_nonpos_of_nonpos (show -g<=0 by omega) q;rw [Int.neg_mul] at this;omega
 have:(Int.gcd u v:Int)=1:=by
  apply fZ (show g≠0 by omega)
  omega
 omega
theorem qs {x e:Int}:Int.gcd x (e*e)=1 ↔ Int.gcd x e=1:=by
 unfold Int.gcd;rw [Int.natAbs_mul]
 constructor
 ·intro h
  exact Nat.Coprime.coprime_mul_left_right (show Nat.Coprime x.natAbs (e.natAbs*e.natAbs) from h)
 intro h;exact Nat.Coprime.mul_right (show Nat.Coprime x.natAbs e.natAbs from h) h
theorem xQ {e:Int} (h:0<=e):root (e*e)=e:=(me ⟨h,Int.le_refl _,by rw [Int.add_mul,Int.mul_add];omega⟩).symm
noncomputable def Jx (n m X1 E1 X2 E2:Int):Int:=root (bU (top n m X1 E1 X2 E2) (bot m E1 E2))
noncomputable def LD (n m X1 E1 X2 E2:Int):Int:=cY (top n m X1 E1 X2 E2) (bot m E1 E2)
noncomputable def M5 (n m X1 Y1 E1 X2 E2:Int):Int:=(Jx n m X1 E1 X2 E2*gw n m X1 Y1 E1 (LD n m X1 E1 X2 E2) (Jx n m X1 E1 X2 E2)) / (m*E1*E1*E1)
noncomputable def fh (n m X1 E1 X2 E2:Int):Bool:=decide (Jx n m X1 E1 X2 E2*Jx n m X1 E1 X2 E2=bU (top n m X1 E1 X2 E2) (bot m E1 E2)) && decide (Jx n m X1 E1 X2 E2<=20) && M.ins (LD n m X1 E1 X2 E2) (-10000) 10000
theorem mO {m E1 E2:Int} (hm:m≠0) (he1:E1≠0) (he2:E2≠0):0<bot m E1 E2:=by
 have h:bot m E1 E2=(m*E1*E2)*(m*E1*E2):=by unfold bot;grind
 have h0:m*E1*E2≠0:=Int.mul_ne_zero (Int.mul_ne_zero hm he1) he2;rw [h]
 rcases Int.lt_or_gt_of_ne h0 with q | q
 ·exact Int.mul_pos_of_neg_of_neg q q
 exact Int.mul_pos q q
theorem Fi {n m X1 E1 X2 E2 x e:Int} (hm:m≠0) (he1:E1≠0) (he2:E2≠0) (h1:1<=e) (h2:e<=20) (h3:-10000<=x) (h4:x<=10000) (hg:Int.gcd x e=1) (hx:bot m E1 E2*x=top n m X1 E1 X2 E2*(e*e)):fh n m X1 E1 X2 E2=true/\LD n m X1 E1 X2 E2=x/\Jx n m X1 E1 X2 E2=e:=by
 have hp:=rK (mO hm he1 he2) (Int.mul_pos ω ω) (qs.2 hg) hx
 have hE:Jx n m X1 E1 X2 E2=e:=by unfold Jx;rw [hp.2];exact xQ ω
 have hX:LD n m X1 E1 X2 E2=x:=hp.1;refine ⟨?_,hX,hE⟩;unfold fh;rw [hE,hX,hp.2];simp [M.ins,h2,h3,h4]
theorem vw {n m X1 E1 X2 E2:Int} (hm:m≠0) (he1:E1≠0) (he2:E2≠0) (h:fh n m X1 E1 X2 E2=true):1<=Jx n m X1 E1 X2 E2/\Jx n m X1 E1 X2 E2<=20/\-10000<=LD n m X1 E1 X2 E2/\LD n m X1 E1 X2 E2<=10000/\Int.gcd (LD n m X1 E1 X2 E2) (Jx n m X1 E1 X2 E2)=1/\bot m E1 E2*LD n m X1 E1 X2 E2=top n m X1 E1 X2 E2*(Jx n m X1 E1 X2 E2*Jx n m X1 E1 X2 E2):=by
 have hp:=rL (t:=top n m X1 E1 X2 E2) (mO hm he1 he2);unfold fh at h;simp only [Bool.and_eq_true,decide_eq_true_eq,M.ins] at h;obtain ⟨⟨k1,k2⟩,k3,k4⟩:=h;rw [←k1] at hp;have hE:0<=Jx n m X1 E1 X2 E2:=(gv (by have:=hp.2.1;omega)).1;refine ⟨?_,k2,k3,k4,qs.1 hp.2.2,hp.1⟩
 rcases Int.lt_or_le 0 (Jx n m X1 E1 X2 E2) with q | q
 ·omega
 have:Jx n m X1 E1 X2 E2=0:=ω
 have:=hp.2.1;rw [‹Jx n m X1 E1 X2 E2=0›] at this;omega
end M
end
section
namespace M
open Ieee
theorem Wn (neg:Bool) (n:Nat):Toward.even.cut neg n 0=n:=by
 unfold Toward.cut;simp [Nat.mod_one]
theorem Fv {neg:Bool} {n drop k:Nat} (h:n<2 ^ (drop+k)):Toward.even.cut neg n drop<=2 ^ k:=by
 unfold Toward.cut
 dsimp only
 rw [Nat.one_shiftLeft]
 have hb:∀ b:Bool,b.toNat<=1:=fun b=>by cases b <;> decide
 have hp:0<2 ^ k:=Nat.two_pow_pos k;refine Nat.le_trans (Nat.add_le_add_left (hb _) _) ?_
 by_cases hd:drop<=n.log2+2
 ·rw [Nat.min_eq_left hd]
  have:n / 2 ^ drop<2 ^ k:=by
   rw [Nat.div_lt_iff_lt_mul (Nat.two_pow_pos _),←Nat.pow_add,Nat.add_comm k];exact h
  omega
 rw [Nat.min_eq_right ω];have h1:n<2 ^ (n.log2+2):=Nat.lt_of_lt_of_le Nat.lt_log2_self (Nat.pow_le_pow_right δ ω);rw [Nat.div_eq_of_lt h1];omega
theorem DH {neg:Bool} {n drop k:Nat} (h:n<2 ^ (drop+k)):Toward.zero.cut neg n drop<=2 ^ k:=by
 unfold Toward.cut
 dsimp only
 rw [Nat.one_shiftLeft]
 by_cases hd:drop<=n.log2+2
 ·rw [Nat.min_eq_left hd]
  have:n / 2 ^ drop<2 ^ k:=by
   rw [Nat.div_lt_iff_lt_mul (Nat.two_pow_pos _),←Nat.pow_add,Nat.add_comm k];exact h
  simp
  omega
 rw [Nat.min_eq_right ω];have h1:n<2 ^ (n.log2+2):=Nat.lt_of_lt_of_le Nat.lt_log2_self (Nat.pow_le_pow_right δ ω);rw [Nat.div_eq_of_lt h1];simp
theorem jG (n:Nat):∀ todo root:Nat,Datum.rootFrom n todo root<root+2 ^ todo
 | 0,root=>by simp [Datum.rootFrom]
 | todo+1,root=>by
  unfold Datum.rootFrom
  dsimp only
  have h1:=jG n todo (root+1 <<< todo);have h2:=jG n todo root;have h3:(1 <<< todo:Nat)=2 ^ todo:=Nat.one_shiftLeft todo
  have h4:2 ^ (todo+1)=2*2 ^ todo:=by rw [Nat.pow_succ];omega
  rw [h3] at h1 ⊢
  split <;> omega
theorem ot {ρ:Nat} (h:ρ<9218868437227405312):double.read ρ=if ρ<4503599627370496 then .number false ρ (-1074) else .number false (4503599627370496+ρ % 4503599627370496) (-1074+(ρ / 4503599627370496 - 1:Nat)):=by
 unfold Format.read;have e1:double.signWeight=9223372036854775808:=rfl;have e2:double.binade=4503599627370496:=rfl;have e3:double.infRung=9218868437227405312:=rfl
 have e4:double.leastPlace=-1074:=δ
 rw [e1,e2,e3,e4];have h1:ρ % 9223372036854775808=ρ:=Nat.mod_eq_of_lt ω;have h2:ρ / 9223372036854775808=0:=Nat.div_eq_of_lt ω
 dsimp only
 rw [h1,h2];simp only [h,if_true];rfl
theorem lK {n k:Nat} (h:n≠0):(n <<< k).log2=n.log2+k:=by
 rw [Nat.shiftLeft_eq];have h0:n*2 ^ k≠0:=Nat.mul_ne_zero h (Nat.pos_iff_ne_zero.1 (Nat.two_pow_pos k));refine Nat.le_antisymm ?_ ?_
 ·refine Nat.lt_succ_iff.1 ((Nat.log2_lt h0).2 ?_)
  rw [show (n.log2+k).succ=(n.log2+1)+k from ω,Nat.pow_add];exact Nat.mul_lt_mul_of_pos_right Nat.lt_log2_self (Nat.two_pow_pos k)
 refine (Nat.le_log2 h0).2 ?_;rw [Nat.pow_add];exact Nat.mul_le_mul_right _ (Nat.log2_self_le h)
theorem pJ {n:Nat} (h0:n≠0) (h:n<9007199254740992):double.read (double.nearest false n 0)=.number false (n <<< (52 - n.log2)) ((n.log2:Int) - 52):=by
 have hL:n.log2<=52:=Nat.lt_succ_iff.1 ((Nat.log2_lt h0).2 h);have hK:=lK (k:=52 - n.log2) h0;rw [show n.log2+(52 - n.log2)=52 from ω] at hK
 have Ta:n <<< (52 - n.log2)≠0:=by rw [Nat.shiftLeft_eq];exact Nat.mul_ne_zero h0 (Nat.pos_iff_ne_zero.1 (Nat.two_pow_pos _))
 have k1:=Nat.log2_self_le Ta;have k2:=Nat.lt_log2_self (n:=n <<< (52 - n.log2));rw [hK] at k1 k2;generalize hk:n <<< (52 - n.log2)=K at *
 have e:double.nearest false n 0=(n.log2+1022)*4503599627370496+K:=by
  unfold Format.nearest;have e2:double.binade=4503599627370496:=rfl;have e3:double.infRung=9218868437227405312:=rfl
  have e4:double.leastPlace=-1074:=δ
  have e5:double.fractionBits=52:=rfl;rw [if_neg h0,e2,e3,e4,e5]
  dsimp only
  have m1:max ((0:Int)+(n.log2:Int) - ((52:Nat):Int)) (-1074)=(n.log2:Int) - 52:=ω
  rw [m1]
  have m2:((0:Int) - ((n.log2:Int) - 52)).toNat=52 - n.log2:=ω
  have m3:((n.log2:Int) - 52 - 0).toNat=0:=ω
  have m4:((n.log2:Int) - 52 - -1074).toNat=n.log2+1022:=ω
  rw [m2,m3,hk,Wn,m4,Nat.min_eq_left ω];rfl
 rw [e,ot ω,if_neg ω]
 have d1:((n.log2+1022)*4503599627370496+K) % 4503599627370496=K - 4503599627370496:=ω
 have d2:((n.log2+1022)*4503599627370496+K) / 4503599627370496=n.log2+1023:=ω
 rw [d1,d2,show 4503599627370496+(K - 4503599627370496)=K from ω,show -1074+((n.log2+1023 - 1:Nat):Int)=(n.log2:Int) - 52 from ω]
theorem wW {m:Nat} {i:Int} (hm:m<2 ^ 53) (hi:i<=-30):∃ R:Int,(Datum.number false m i).toInt .zero=some R/\0<=R/\R<=8388608:=by
 have hz:i.toNat=0:=ω
 have h1:=DH (neg:=false) (n:=m) (drop:=(-i).toNat) (k:=23) (Nat.lt_of_lt_of_le hm (Nat.pow_le_pow_right δ ω));rw [show (2:Nat) ^ 23=8388608 from rfl] at h1;refine ⟨(Toward.zero.cut false m (-i).toNat:Nat),?_,ω,ω⟩;unfold Datum.toInt Datum.integral
 dsimp only
 rw [hz,Nat.shiftLeft_zero];simp [signed]
theorem BM {ρ:Nat} (hρ:ρ<=4706261610602168320):∃ R:Int,(double.read ρ).toInt .zero=some R/\0<=R/\R<=8388608:=by
 have hmd:=Nat.mod_lt ρ (show 0<4503599627370496 from δ);rw [ot ω];have e53:(9007199254740992:Nat)=2 ^ 53:=rfl
 by_cases hs:ρ<4503599627370496
 ·rw [if_pos hs]
  exact wW (by rw [←e53];omega) ω
 rw [if_neg hs];exact wW (by rw [←e53];omega) ω
theorem Dm {mag:Nat} {cn:Int}:Toward.even.cut false (mag <<< (cn - (cn+mag.log2 - 52)).toNat) (cn+mag.log2 - 52 - cn).toNat<=2 ^ 53:=by
 refine Fv ?_;have h3:=Nat.lt_log2_self (n:=mag);rw [Nat.shiftLeft_eq]
 rcases Nat.lt_or_ge mag.log2 53 with q | q
 ·have z1:(cn - (cn+mag.log2 - 52)).toNat=52 - mag.log2:=ω
  have z2:(cn+mag.log2 - 52 - cn).toNat=0:=ω
  have h4:=Nat.mul_lt_mul_of_pos_right h3 (Nat.two_pow_pos (52 - mag.log2));rw [←Nat.pow_add,show mag.log2+1+(52 - mag.log2)=53 from ω] at h4;rw [z1,z2,Nat.zero_add];exact h4
 have z1:(cn - (cn+mag.log2 - 52)).toNat=0:=ω
 have z2:(cn+mag.log2 - 52 - cn).toNat=mag.log2 - 52:=ω
 rw [z1,z2,Nat.pow_zero,Nat.mul_one,show mag.log2 - 52+53=mag.log2+1 from ω];exact h3
theorem yT {mag:Nat} {cn:Int} (h:mag<2 ^ 56) (h1:-200<=cn) (h2:cn<=-34):double.nearest false mag cn<=4706261610602168320:=by
 unfold Format.nearest;have e2:double.binade=4503599627370496:=rfl
 have e4:double.leastPlace=-1074:=δ
 have e5:double.fractionBits=52:=rfl
 have w0:∀ x,double.word false x=x:=fun x=>rfl
 by_cases h0:mag=0
 ·rw [if_pos h0,w0];omega
 rw [if_neg h0,e2,e4,e5,w0];have hl:mag.log2<=55:=Nat.lt_succ_iff.1 ((Nat.log2_lt h0).2 h)
 have m1:max (cn+(mag.log2:Int) - ((52:Nat):Int)) (-1074)=cn+mag.log2 - 52:=ω
 rw [m1];refine Nat.le_trans (Nat.min_le_left _ _) ?_;have hc:=Dm (mag:=mag) (cn:=cn);rw [show (2:Nat) ^ 53=9007199254740992 from rfl] at hc
 have hb:(cn+mag.log2 - 52 - -1074).toNat<=1043:=ω
 have hb2:=Nat.mul_le_mul_right 4503599627370496 hb;exact Nat.le_trans (Nat.add_le_add hb2 hc) δ
theorem yJ {mag:Nat} {cn:Int} (h:mag<2 ^ 56) (h1:-200<=cn) (h2:cn<=-34) :
  ∃ R:Int,(double.read (double.nearest false mag cn)).toInt .zero=some R/\0<=R/\R<=8388608:=BM (yT h h1 h2)
theorem vS {n:Nat} (h:n<8796093022208):∃ r:Nat,double.sqrt (double.nearest false n 0)=some r/\∃ R:Int,(double.read r).toInt .zero=some R/\0<=R/\R<=8388608:=by
 by_cases h0:n=0
 ·subst h0
  exact ⟨_,rfl,_,rfl,δ,δ⟩
 have hL:n.log2<=42:=Nat.lt_succ_iff.1 ((Nat.log2_lt h0).2 h);have hK:=lK (k:=52 - n.log2) h0;rw [show n.log2+(52 - n.log2)=52 from ω] at hK
 have Ta:n <<< (52 - n.log2)≠0:=by rw [Nat.shiftLeft_eq];exact Nat.mul_ne_zero h0 (Nat.pos_iff_ne_zero.1 (Nat.two_pow_pos _))
 unfold Format.sqrt;rw [pJ h0 ω];generalize n <<< (52 - n.log2)=K at *;generalize hn:n.log2=l at *;unfold Datum.root
 dsimp only
 have e5:double.fractionBits=52:=rfl;rw [if_neg Ta,e5,hK];simp only [Bool.false_eq_true,if_false,Option.map_some];refine ⟨_,rfl,?_⟩
 have hr:(((l:Int) - 52 - ((2*(52+2) - 52:Nat):Int)) % 2).toNat<=1:=ω
 generalize hmm:(((l:Int) - 52 - ((2*(52+2) - 52:Nat):Int)) % 2).toNat=b at *;unfold Format.write
 dsimp only
 refine yJ ?_ ?_ ?_
 ·have hx:=jG (K <<< (2*(52+2) - 52+b)) ((K <<< (2*(52+2) - 52+b)).log2 / 2+1) 0
  have hy:(K <<< (2*(52+2) - 52+b)).log2 / 2+1<=55:=by rw [lK Ta];omega
  have hz:=Nat.pow_le_pow_right (n:=2) δ hy
  have hb:∀ c:Bool,c.toNat<=1:=fun c=>by cases c <;> decide
  rw [show (2:Nat) ^ 55=36028797018963968 from rfl] at hz;rw [show (2:Nat) ^ 56=72057594037927936 from rfl];have:=hb (Datum.rootFrom (K <<< (2*(52+2) - 52+b)) ((K <<< (2*(52+2) - 52+b)).log2 / 2+1) 0*Datum.rootFrom (K <<< (2*(52+2) - 52+b)) ((K <<< (2*(52+2) - 52+b)).log2 / 2+1) 0 != K <<< (2*(52+2) - 52+b));omega
 ·omega
 omega
end M
theorem vT {n:Int} (h0:0<=n) (h:n<=8000000000000):∃ r:Nat,FloatKind.f64.format.sqrt (FloatKind.f64.nearest n)=some r/\∃ R:Int,floatToIntVal .f64 r .i64=some R/\0<=R/\R<=8388608:=by
 obtain ⟨r,h1,R,h2,h3,h4⟩:=M.vS (n:=n.natAbs) ω;refine ⟨r,?_,R,?_,h3,h4⟩
 ·have e:FloatKind.f64.nearest n=Ieee.double.nearest false n.natAbs 0:=by
   unfold FloatKind.nearest FloatKind.encode Ieee.Format.write
   dsimp only
   rw [show decide (n<0)=false from by simp;omega];rfl
  rw [e];exact h1
 unfold floatToIntVal;rw [show (FloatKind.f64.decode r).toInt .zero=some R from h2]
 dsimp only
 rw [if_pos]
 have a1:IntKind.i64.min=-9223372036854775808:=δ
 have a2:IntKind.i64.max=9223372036854775807:=δ
 omega
end
section
open Go.RowKit open M
noncomputable def M.fU (n:Int):Bool:=decide (0<=n) && (M.root n*M.root n == n)
theorem M.kP {n r:Int} (h:r*r=n):fU n=true:=by
 have h0:0<=n:=by
  rw [←h]
  rcases Int.le_total 0 r with q | q
  ·exact Int.mul_nonneg q q
  exact Int.mul_nonneg_of_nonpos_of_nonpos q q
 have hr:=me (n:=n) (r:=(r.natAbs:Int)) ⟨ω,by rw [←h];exact Int.le_of_eq (Int.natAbs_mul_self' r),by
  have:(r.natAbs:Int)*(r.natAbs:Int)=r*r:=Int.natAbs_mul_self' r;rw [←h,←this,Int.mul_add,Int.add_mul]
  omega⟩
 unfold fU;rw [←hr,Int.natAbs_mul_self',h];simp [h0]
theorem M.Dd {n r:Int} (h0:0<=r) (h1:r*r<n) (h2:n<(r+1)*(r+1)):fU n=false:=by
 have h3:0<=r*r:=Int.mul_nonneg h0 h0;have hr:=me (n:=n) (r:=r) ⟨h0,ω,h2⟩;unfold fU;rw [←hr,show (r*r == n)=false from by simp;omega];simp
theorem M.tK {n:Int} (h:n<0):fU n=false:=by
 unfold fU;rw [show decide (0<=n)=false from by simp;omega];rfl
theorem yu (x r:Nat) (h:FloatKind.f64.format.sqrt x=some r) (W:World):(callFunc 145 #[.float .f64 x]).run prog W=.ok (.value (.float .f64 r)) W:=by
 rw [run_callFunc_extern func145 κ κ κ (e:=Extern.MathSqrt.sqrt) κ]
 have e:(Extern.MathSqrt.sqrt #[.float .f64 x]).run prog W=.ok (.float .f64 r) W:=by
  change Sem.run prog (match FloatKind.f64.format.sqrt x with
   | some r=>pure (Value.float .f64 r)
   | none=>do pure (Value.float .f64 (←choose (.nanBits .f64 x x)))) W=_
  rw [h];rfl
 rw [e];rfl
theorem Ff (x r:Nat) (h:FloatKind.f64.format.sqrt x=some r) (w:World) :
  cP 126 #[.float .f64 x] w (.float .f64 r):=by
 have hd:=yu x r h;go_enter func126,ntmps126
 go_wp2;go_ret;exact ⟨rfl,rfl⟩
end
section
open Go.RowKit open Gr M Rg Rw Wh
noncomputable def M.rt (n:Int):Int:=if fU n then M.root n else 0
theorem M.rW {n r:Int} (h0:0<=r) (h:r*r=n):M.rt n=r:=by
 unfold M.rt;rw [kP h,if_pos rfl,←h];exact xQ h0
theorem M.CN {n:Int} (h:fU n=false):M.rt n=0:=by
 unfold M.rt;rw [h];rfl
theorem iJ (n:Int) (w:World) (h1:n<=8000000000000) :
  cP 85 #[n] w (.tuple #[M.rt n,fU n]):=by
 by_cases h0:n<0
 ·have hz:=tK h0
  have hv:=CN hz;go_enter func85,ntmps85
  go_wp2;go_ret2;exact ⟨by rw [hz,hv];rfl,rfl⟩
 obtain ⟨r,hs,R,hR,R0,R1⟩:=vT (n:=n) ω h1
 have hc:=fun W=>run_convert_float_int (P:=prog) W 143 3 .f64 .i64 r R κ κ hR
 have hs':FloatKind.f64.format.sqrt (floatOfInt .f64 n)=some r:=hs
 have hcall:=fun W=>Ff (floatOfInt .f64 n) r hs' W
 clear hs hs' hR;have HH:=IU hcall;clear hcall;go_enter func85,ntmps85
 go_wp2_with (go_at_call 126;refine (HH.out _).mono ?_;rintro e w' ⟨rfl,rfl⟩)
 go_loop [4] (fun vr=>∃ a:Int,vr=.int .i64 a/\0<=a/\a<=8388608) (fun vr=>(intOf vr).toNat)
 case atStart=>exact ⟨R,rfl,R0,R1⟩
 case round=>
 obtain ⟨a,rfl,a0,a1⟩:=hrel;have hb:=lM (x:=a) (y:=a) (m:=8388608) (n:=8388608) a0 a1 a0 a1
 by_cases c:n<a*a
 ·have ha:1<=a:=by
   rcases Int.lt_or_le a 1 with q | q
   ·obtain rfl:a=0:=ω
    simp at c
    omega
   exact q
  go_wp2
  go_round
  case rel=>exact ⟨a - 1,rfl,ω,ω⟩
  case measure=>simp [intOf];omega
 clear HH hc;go_wp2
 go_loop [4] (fun vr=>∃ a:Int,vr=.int .i64 a/\0<=a/\a<=8388608/\a*a<=n) (fun vr=>(8388608 - intOf vr).toNat)
 case atStart=>exact ⟨a,rfl,a0,a1,ω⟩
 case round=>
 obtain ⟨b,rfl,b0,b1,b2⟩:=hrel;have hbb:=lM (x:=b+1) (y:=b+1) (m:=8388609) (n:=8388609) ω ω ω ω;have hb3:=lM (x:=b) (y:=b) (m:=8388608) (n:=8388608) b0 b1 b0 b1
 by_cases d:(b+1)*(b+1)<=n
 ·have hlt:b+1<8388608:=by
   rcases Int.lt_or_le (b+1) 8388608 with q | q
   ·exact q
   have:=Int.mul_le_mul q q ω ω;omega
  go_wp2
  go_round
  case rel=>exact ⟨b+1,rfl,ω,ω,d⟩
  case measure=>simp [intOf];omega
 by_cases f:b*b=n
 ·have hz:=kP f
  have hv:=rW b0 f;go_wp2;go_ret2
  first | (rw [hz,hv];exact ⟨rfl,rfl⟩) | (rw [hv];exact ⟨rfl,rfl⟩) | (rw [hv];rfl) | exact ⟨rfl,rfl⟩ | rfl
 have hz:=Dd (n:=n) b0 ω ω;have hv:=CN hz;go_wp2;go_ret2
 first | (rw [hz,hv];exact ⟨rfl,rfl⟩) | (rw [hv];exact ⟨rfl,rfl⟩) | (rw [hv];rfl) | exact ⟨rfl,rfl⟩ | rfl
namespace M
theorem yX {t b:Int} (hb:b<0):cY t b=cY (-t) (-b)/\bU t b=bU (-t) (-b):=by
 have hg:M.gcd (-t) (-b)=M.gcd t b:=by unfold M.gcd;rw [Int.gcd_neg,Int.neg_gcd]
 rw [gt hb,gp hb,d9 ω,d8 ω,hg,Int.neg_tdiv,Int.neg_tdiv];exact ⟨rfl,rfl⟩
theorem jD {t b:Int} (hb:b≠0):b*cY t b=t*bU t b/\0<bU t b/\Int.gcd (cY t b) (bU t b)=1:=by
 rcases Int.lt_or_gt_of_ne hb with h | h
 ·obtain ⟨e1,e2⟩:=yX (t:=t) h
  obtain ⟨k1,k2,k3⟩:=rL (t:=-t) (b:=-b) ω;rw [e1,e2];refine ⟨?_,k2,k3⟩;rw [Int.neg_mul,Int.neg_mul] at k1;omega
 exact rL h
theorem jT {t b:Int} (hb:b≠0):(cY t b).natAbs<=t.natAbs/\(bU t b).natAbs<=b.natAbs:=by
 obtain ⟨k1,k2,k3⟩:=jD (t:=t) hb
 have d1:bU t b ∣ b:=by
  have:bU t b ∣ cY t b*b:=⟨t,by rw [Int.mul_comm,k1,Int.mul_comm]⟩
  have h:=Int.dvd_gcd_mul_iff_dvd_mul.2 this;rw [Int.gcd_comm,k3] at h
  simpa using h
 have d2:cY t b ∣ t:=by
  have:cY t b ∣ bU t b*t:=⟨b,by rw [Int.mul_comm,←k1,Int.mul_comm]⟩
  have h:=Int.dvd_gcd_mul_iff_dvd_mul.2 this;rw [k3] at h
  simpa using h
 refine ⟨?_,Nat.le_of_dvd ω (Int.natAbs_dvd_natAbs.2 d1)⟩
 by_cases ht:t=0
 ·subst ht
  have:b*cY 0 b=0:=by rw [k1];simp
  rcases Int.mul_eq_zero.1 this with h | h
  ·exact absurd h hb
  rw [h];simp
 exact Nat.le_of_dvd ω (Int.natAbs_dvd_natAbs.2 d2)
theorem xU {a X1 Y1 E1 X2 Y2 E2:Int} (h:sD X1 Y1 E1 X2 Y2 E2≠0):Jj a X1 Y1 E1 X2 Y2 E2*sD X1 Y1 E1 X2 Y2 E2=JY a X1 Y1 E1 X2 Y2 E2*sN a X1 Y1 E1 X2 Y2 E2/\0<JY a X1 Y1 E1 X2 Y2 E2/\Int.gcd (Jj a X1 Y1 E1 X2 Y2 E2) (JY a X1 Y1 E1 X2 Y2 E2)=1/\(Jj a X1 Y1 E1 X2 Y2 E2).natAbs<=(sN a X1 Y1 E1 X2 Y2 E2).natAbs/\(JY a X1 Y1 E1 X2 Y2 E2).natAbs<=(sD X1 Y1 E1 X2 Y2 E2).natAbs:=by
 unfold Jj JY;rw [if_neg h,if_neg h];obtain ⟨k1,k2,k3⟩:=jD (t:=sN a X1 Y1 E1 X2 Y2 E2) h;obtain ⟨k4,k5⟩:=jT (t:=sN a X1 Y1 E1 X2 Y2 E2) h;exact ⟨by rw [Int.mul_comm,k1,Int.mul_comm],k2,k3,k4,k5⟩
theorem sK {n m X1 E1 X2 E2:Int} (hm:m≠0) (he1:1<=E1) (he2:E1<=20) (Kt:1<=E2) (Lc:E2<=20) (hx1:X1<=10000) (hx2:X2<=10000) (hg:Int.gcd n m=1) (h:fh n m X1 E1 X2 E2=true):(m.natAbs:Int)<=8000/\(n.natAbs:Int)<=200*(m.natAbs:Int):=by
 obtain ⟨k1,k2,k3,k4,k5,k6⟩:=vw hm ω ω h;refine ⟨?_,qO (CX he1 Kt k1 hx1 hx2 k4 k6)⟩;have hd:=yt hg k6;generalize Jx n m X1 E1 X2 E2=e at *;have p1:=aH (x:=E1) (y:=E2) (m:=20) (n:=20);have p2:=aH (x:=E1*E2) (y:=e) (m:=400) (n:=20);have p3:0<E1*E2*e:=Int.mul_pos (Int.mul_pos ω ω) ω;have:=Nat.le_of_dvd ω (Int.natAbs_dvd_natAbs.2 hd);omega
theorem HJ {a b X1 Y1 E1 X2 Y2 E2 n m:Int} (h1:Y1*Y1=cv a b X1 E1) (h2:Y2*Y2=cv a b X2 E2) (he1:E1≠0) (he2:E2≠0) (hm:m≠0) (hs:n*sD X1 Y1 E1 X2 Y2 E2=m*sN a X1 Y1 E1 X2 Y2 E2) (hd:sD X1 Y1 E1 X2 Y2 E2≠0) (h:fh n m X1 E1 X2 E2=true) :
  Jx n m X1 E1 X2 E2*gw n m X1 Y1 E1 (LD n m X1 E1 X2 E2) (Jx n m X1 E1 X2 E2)=m*E1*E1*E1*M5 n m X1 Y1 E1 X2 E2/\M5 n m X1 Y1 E1 X2 E2*M5 n m X1 Y1 E1 X2 E2=cv a b (LD n m X1 E1 X2 E2) (Jx n m X1 E1 X2 E2):=by
 obtain ⟨k1,k2,k3,k4,k5,k6⟩:=vw hm he1 he2 h;obtain ⟨y,hy1,hy2⟩:=Eb h1 h2 he1 he2 hm hs hd k6
 have:M5 n m X1 Y1 E1 X2 E2=y:=by
  unfold M5;rw [hy1];exact Int.mul_ediv_cancel_left y (Int.mul_ne_zero (Int.mul_ne_zero (Int.mul_ne_zero hm he1) he1) he1)
 rw [this];exact ⟨hy1,hy2⟩
theorem IE {n d X1 Y1 E1 x e Y up under y bottom:Int} (hd:0<d) (he1:0<E1) (he:0<e) (hY:e*gw n d X1 Y1 E1 x e=d*E1*E1*E1*Y) (k1:d*(E1*E1)*e*e*up=n*(X1*e*e - x*(E1*E1))*under) (ku:0<under) (k2:under*(E1*E1)*E1*y=(up*(E1*E1)*E1 - Y1*under)*bottom) (kb:0<bottom) (kg:Int.gcd y bottom=1):y*(e*e*e).tdiv bottom=Y:=by
 have q1:(d*E1*E1*E1*under*E1*E1)*(e*e*e*y)=(d*E1*E1*E1*under*E1*E1)*(Y*bottom):=by
  unfold gw at hY
  have s1:(d*E1*E1*E1*under*E1*E1)*(e*e*e*y)=d*E1*E1*e*e*e*(under*(E1*E1)*E1*y):=by clear hY k1 k2;grind
  have s2:d*E1*E1*e*e*e*((up*(E1*E1)*E1 - Y1*under)*bottom)=e*bottom*E1*E1*E1*(d*(E1*E1)*e*e*up) - d*E1*E1*e*e*e*Y1*under*bottom:=by clear hY k1 k2 s1;grind
  have s3:e*bottom*E1*E1*E1*(n*(X1*e*e - x*(E1*E1))*under) - d*E1*E1*e*e*e*Y1*under*bottom=bottom*under*E1*E1*(e*(n*(X1*e*e - x*E1*E1)*E1 - Y1*d*e*e)):=by clear hY k1 k2 s1 s2;grind
  rw [s1,k2,s2,k1,s3,hY];clear hY k1 k2 s1 s2 s3
  grind
 have q2:e*e*e*y=Y*bottom:=fZ (by
                            repeat' apply Int.mul_ne_zero
                            all_goals omega) q1
 have q3:bottom ∣ y*(e*e*e):=⟨Y,by rw [Int.mul_comm y,q2,Int.mul_comm]⟩
 have q4:=Int.dvd_gcd_mul_iff_dvd_mul.2 q3;rw [Int.gcd_comm,kg] at q4
 obtain ⟨k,hk⟩:=(by simpa using q4:bottom ∣ e*e*e)
 rw [hk,Int.mul_tdiv_cancel_left k ω];rw [hk] at q2
 apply fZ (show bottom≠0 by omega)
 rw [Int.mul_comm bottom Y,←q2];clear q1 q2 q3 q4 hk hY k1 k2
 grind
theorem Ga {m E1 e s Y r:Int} (hm:m≠0) (he1:0<E1) (he:0<e) (hY:e*s=m*E1*E1*E1*Y) (hr:0<=r) (h:r*r=Y*Y):(if decide (s<0) != decide (m<0) then -r else r)=Y:=by
 have hE:0<E1*E1*E1:=Int.mul_pos (Int.mul_pos he1 he1) he1
 have hY2:e*s=E1*E1*E1*(m*Y):=by rw [hY];clear hY h;grind
 have hr2:r=Y∨r=-Y:=by
  have:(r - Y)*(r+Y)=0:=by clear hY hY2;grind
  rcases Int.mul_eq_zero.1 this with h | h
  ·left;omega
  right;omega
 have hs1:s<0 ↔ m*Y<0:=by
  constructor
  ·intro q
   rcases Int.lt_or_le (m*Y) 0 with p | p
   ·exact p
   have a1:=Int.mul_nonneg (show 0<=E1*E1*E1 by omega) p;have a2:=Int.mul_neg_of_pos_of_neg he q;omega
  intro q
  rcases Int.lt_or_le s 0 with p | p
  ·exact p
  have a1:=Int.mul_nonneg (show 0<=e by omega) p;have a2:=Int.mul_neg_of_pos_of_neg hE q;omega
 have hs2:decide (s<0)=decide (m*Y<0):=by simpa using hs1
 rw [hs2];clear hY hY2 hs2 hs1 h
 rcases Int.lt_or_gt_of_ne hm with q | q
 ·rw [decide_eq_true q]
  rcases Int.lt_trichotomy Y 0 with p | p | p
  ·rw [decide_eq_false (by have:=Int.mul_pos_of_neg_of_neg q p;omega)]
   simp;omega
  ·subst p;rw [Int.mul_zero];simp;omega
  rw [decide_eq_true (Int.mul_neg_of_neg_of_pos q p)];simp;omega
 rw [decide_eq_false (show ¬ m<0 by omega)]
 rcases Int.lt_trichotomy Y 0 with p | p | p
 ·rw [decide_eq_true (Int.mul_neg_of_pos_of_neg q p)]
  simp;omega
 ·subst p;rw [Int.mul_zero];simp;omega
 rw [decide_eq_false (by have:=Int.mul_pos q p;omega)];simp;omega
end M
namespace M
noncomputable def jY (a X1 Y1 E1 X2 Y2 E2:Int):Bool:=if sD X1 Y1 E1 X2 Y2 E2=0 then true else fh (Jj a X1 Y1 E1 X2 Y2 E2) (JY a X1 Y1 E1 X2 Y2 E2) X1 E1 X2 E2
noncomputable def LF (a X1 Y1 E1 X2 Y2 E2:Int):Int:=if sD X1 Y1 E1 X2 Y2 E2=0 then 0 else if fh (Jj a X1 Y1 E1 X2 Y2 E2) (JY a X1 Y1 E1 X2 Y2 E2) X1 E1 X2 E2 then LD (Jj a X1 Y1 E1 X2 Y2 E2) (JY a X1 Y1 E1 X2 Y2 E2) X1 E1 X2 E2 else 0
noncomputable def LZ (a X1 Y1 E1 X2 Y2 E2:Int):Int:=if sD X1 Y1 E1 X2 Y2 E2=0 then 0 else if fh (Jj a X1 Y1 E1 X2 Y2 E2) (JY a X1 Y1 E1 X2 Y2 E2) X1 E1 X2 E2 then M5 (Jj a X1 Y1 E1 X2 Y2 E2) (JY a X1 Y1 E1 X2 Y2 E2) X1 Y1 E1 X2 E2 else 0
noncomputable def KY (a X1 Y1 E1 X2 Y2 E2:Int):Int:=if sD X1 Y1 E1 X2 Y2 E2=0 then 0 else if fh (Jj a X1 Y1 E1 X2 Y2 E2) (JY a X1 Y1 E1 X2 Y2 E2) X1 E1 X2 E2 then Jx (Jj a X1 Y1 E1 X2 Y2 E2) (JY a X1 Y1 E1 X2 Y2 E2) X1 E1 X2 E2 else 0
theorem Ei (n d X1 E1 X2 E2:Int):n*n*(E1*E1)*(E2*E2) - X1*d*d*(E2*E2) - X2*d*d*(E1*E1)=top n d X1 E1 X2 E2:=by unfold top;grind
theorem DD (d E1 E2:Int):d*d*(E1*E1)*(E2*E2)=bot d E1 E2:=by unfold bot;grind
theorem xX {Y:Int} (h:Y*Y<=4000000000000):-2000000<=Y/\Y<=2000000:=by
 refine ⟨Int.not_lt.1 fun q=>?_,Int.not_lt.1 fun q=>?_⟩
 ·have:=Int.mul_le_mul_of_nonneg_left (show (2000001:Int)<=-Y by omega) (show 0<=-Y by omega)
  have e:-Y*-Y=Y*Y:=Int.neg_mul_neg Y Y;rw [e] at this;omega
 have:=Int.mul_le_mul_of_nonneg_left (show (2000001:Int)<=Y by omega) (show 0<=Y by omega);omega
theorem gO {x b:Int} (hx:0<=x) (hb:0<b):0<=x.tdiv b/\x.tdiv b<=x:=by
 rw [Int.tdiv_eq_ediv_of_nonneg hx];exact ⟨Int.ediv_nonneg hx ω,Int.ediv_le_self _ hx⟩
end M
theorem vJ (a b X1 Y1 E1 X2 Y2 E2:Int) (w:World) (ha1:-1000<=a) (ha2:a<=1000) (hx1:-10000<=X1) (hx2:X1<=10000) (hy1:-3000000<=Y1) (hy2:Y1<=3000000) (he1:1<=E1) (he2:E1<=20) (hx3:-10000<=X2) (hx4:X2<=10000) (hy3:-3000000<=Y2) (hy4:Y2<=3000000) (Kt:1<=E2) (Lc:E2<=20) (hb1:-10000<=b) (hb2:b<=10000) (hc1:Y1*Y1=M.cv a b X1 E1) (hc2:Y2*Y2=M.cv a b X2 E2) :
  cB 55 #[.agg #[a,b],.agg #[X1,Y1,E1],.agg #[X2,Y2,E2]] w (.tuple #[.agg #[M.LF a X1 Y1 E1 X2 Y2 E2,M.LZ a X1 Y1 E1 X2 Y2 E2,M.KY a X1 Y1 E1 X2 Y2 E2],jY a X1 Y1 E1 X2 Y2 E2]):=by
 have PS:=fun W=>yi a b X1 Y1 E1 X2 Y2 E2 W ha1 ha2 hx1 hx2 hy1 hy2 he1 he2 hx3 hx4 hy3 hy4 Kt Lc
 have hE1:(E1 == 0)=false:=by rw [beq_eq_false_iff_ne];omega
 have hE2:(E2 == 0)=false:=by rw [beq_eq_false_iff_ne];omega
 by_cases h0:M.sD X1 Y1 E1 X2 Y2 E2=0
 ·have e1:M.Jj a X1 Y1 E1 X2 Y2 E2=1:=if_pos h0
  have e2:M.JY a X1 Y1 E1 X2 Y2 E2=0:=if_pos h0;have hf:=IU (show M.LF a X1 Y1 E1 X2 Y2 E2=0/\M.LZ a X1 Y1 E1 X2 Y2 E2=0/\M.KY a X1 Y1 E1 X2 Y2 E2=0/\jY a X1 Y1 E1 X2 Y2 E2=true from ⟨if_pos h0,if_pos h0,if_pos h0,if_pos h0⟩);rw [e1,e2] at PS;rw [hf.out.1,hf.out.2.1,hf.out.2.2.1,hf.out.2.2.2];clear e1 e2 hf h0 hc1 hc2;have PS:=IU PS;obtain ⟨wc,hw3,C,Q,U,R,B⟩:=ej w #[a,b] 25 #[X1,Y1,E1] 40 #[X2,Y2,E2] 40 #[(0:Int),(0:Int),(0:Int)] 40;have ⟨q0,q1,q2⟩:=Q.aM;have ⟨u0,u1,u2⟩:=U.aM;have f_:=C.box.c0;have i_:=C.box.c1;have ⟨r0,r1,r2⟩:=R.aM;go_enter func55,ntmps55
  go_wp2_with (go_at_call 98;(with_reducible refine (PS.out _).mono ?_);rintro e w4 ⟨rfl,hb4⟩;replace B:=j_ B hb4;replace R:=R.keep hb4;(obtain ⟨r0,r1,r2⟩:=R.aM);have f0:=R.Ih 0;have f1:=R.Ih 1;have f2:=R.Ih 2;have rl:=R.lt)
  exact D_ results55 ⟨rfl,JW B⟩
 have hsb:=Gl (a:=a) ha1 ha2 hx1 hx2 hy1 hy2 he1 he2 hx3 hx4 hy3 hy4 Kt Lc;obtain ⟨hs,hd0,hg,hn,hdd⟩:=xU (a:=a) h0
 have g1:=show M.LF a X1 Y1 E1 X2 Y2 E2=_ from if_neg h0
 have g2:=show M.LZ a X1 Y1 E1 X2 Y2 E2=_ from if_neg h0
 have g3:=show M.KY a X1 Y1 E1 X2 Y2 E2=_ from if_neg h0
 have g4:=show jY a X1 Y1 E1 X2 Y2 E2=_ from if_neg h0
 rw [g1,g2,g3,g4];clear g1 g2 g3 g4;generalize M.JY a X1 Y1 E1 X2 Y2 E2=d,M.Jj a X1 Y1 E1 X2 Y2 E2=n at *
 have hn1:-200000000000<=n/\n<=200000000000:=ω
 have hd1:d<=200000000000:=ω
 have hbd:=fun (k:fh n d X1 E1 X2 E2=true)=>sK (n:=n) (m:=d) ω he1 he2 Kt Lc hx2 hx4 hg k
 have LQ:=fun (k:fh n d X1 E1 X2 E2=true)=>HJ hc1 hc2 ω ω ω hs h0 k
 have hii:=fun (k:fh n d X1 E1 X2 E2=true)=>vw ω ω ω k
 clear hsb hn hdd hs h0 hc1 hc2 hg
 by_cases hbig:8000<d∨200*d<(n.natAbs:Int)
 ·have hk:fh n d X1 E1 X2 E2=false:=by
   cases hq:fh n d X1 E1 X2 E2
   ·rfl
   have:=hbd hq;omega
  rw [hk];clear hbd LQ hii hk;have hz:=IU (show (if false=true then M.LD n d X1 E1 X2 E2 else 0)=0/\(if false=true then M.M5 n d X1 Y1 E1 X2 E2 else 0)=0/\(if false=true then M.Jx n d X1 E1 X2 E2 else 0)=0 from ⟨rfl,rfl,rfl⟩);rw [hz.out.1,hz.out.2.1,hz.out.2.2];clear hz
  have PA:=fun W=>df n W ω ω
  have hh:decide (200*d<(n.natAbs:Int))=true∨8000<d:=by rcases hbig with h | h;exact Or.inr h;exact Or.inl (decide_eq_true h)
  have hnn:(n.natAbs:Int)<=200000000000:=ω
  generalize (n.natAbs:Int)=na at *;have PS:=IU PS;have PA:=IU PA;obtain ⟨wc,hw3,C,Q,U,R,B⟩:=ej w #[a,b] 25 #[X1,Y1,E1] 40 #[X2,Y2,E2] 40 #[(0:Int),(0:Int),(0:Int)] 40;have ⟨q0,q1,q2⟩:=Q.aM;have ⟨u0,u1,u2⟩:=U.aM;have f_:=C.box.c0;have i_:=C.box.c1;have ⟨r0,r1,r2⟩:=R.aM
  by_cases h8:8000<d
  ·clear hh hbig
   go_enter func55,ntmps55
   go_wp2_with first | (go_at_call 98;(with_reducible refine (PS.out _).mono ?_);rintro e w4 ⟨rfl,hb4⟩;replace B:=j_ B hb4;replace R:=R.keep hb4;(obtain ⟨r0,r1,r2⟩:=R.aM);have f0:=R.Ih 0;have f1:=R.Ih 1;have f2:=R.Ih 2;have rl:=R.lt) | (go_at_call 53;(with_reducible refine (PA.out _).mono ?_);rintro e w5 ⟨rfl,rfl⟩)
   exact D_ results55 ⟨rfl,JW B⟩
  have h9:200*d<na:=ω
  clear hh hbig;go_enter func55,ntmps55
  go_wp2_with first | (go_at_call 98;(with_reducible refine (PS.out _).mono ?_);rintro e w4 ⟨rfl,hb4⟩;replace B:=j_ B hb4;replace R:=R.keep hb4;(obtain ⟨r0,r1,r2⟩:=R.aM);have f0:=R.Ih 0;have f1:=R.Ih 1;have f2:=R.Ih 2;have rl:=R.lt) | (go_at_call 53;(with_reducible refine (PA.out _).mono ?_);rintro e w5 ⟨rfl,rfl⟩)
  exact D_ results55 ⟨rfl,JW B⟩
 have Te:d<=8000:=ω
 have hn8:-1600000<=n/\n<=1600000:=ω
 have hna:(n.natAbs:Int)<=200*d:=ω
 have PA:=fun W=>df n W ω ω
 have hnn:(n.natAbs:Int)<=1600000:=ω
 have sb1:=aH (x:=n) (y:=n) (m:=1600000) (n:=1600000);have Tz:=aH (x:=E1) (y:=E1) (m:=20) (n:=20);have T0:=aH (x:=n*n) (y:=E1*E1) (m:=2560000000000) (n:=400);have T5:=aH (x:=E2) (y:=E2) (m:=20) (n:=20);have T6:=aH (x:=n*n*(E1*E1)) (y:=E2*E2) (m:=1024000000000000) (n:=400);have T7:=aH (x:=X1) (y:=d) (m:=10000) (n:=8000);have T8:=aH (x:=X1*d) (y:=d) (m:=80000000) (n:=8000);have T9:=aH (x:=X1*d*d) (y:=E2*E2) (m:=640000000000) (n:=400);have T_:=aH (x:=X2) (y:=d) (m:=10000) (n:=8000);have OP:=aH (x:=X2*d) (y:=d) (m:=80000000) (n:=8000);have OQ:=aH (x:=X2*d*d) (y:=E1*E1) (m:=640000000000) (n:=400);have OR:=aH (x:=d) (y:=d) (m:=8000) (n:=8000);have OS:=aH (x:=d*d) (y:=E1*E1) (m:=64000000) (n:=400);have OT:=aH (x:=d*d*(E1*E1)) (y:=E2*E2) (m:=25600000000) (n:=400);have ht:n*n*(E1*E1)*(E2*E2) - X1*d*d*(E2*E2) - X2*d*d*(E1*E1)=M.top n d X1 E1 X2 E2:=Ei ..;have hb:d*d*(E1*E1)*(E2*E2)=M.bot d E1 E2:=DD ..;have hbp:0<M.bot d E1 E2:=mO ω ω ω
 have PE:=fun W=>kH (n*n*(E1*E1)*(E2*E2) - X1*d*d*(E2*E2) - X2*d*d*(E1*E1)) (d*d*(E1*E1)*(E2*E2)) W ω ω ω ω ω
 have hpx:cY (n*n*(E1*E1)*(E2*E2) - X1*d*d*(E2*E2) - X2*d*d*(E1*E1)) (d*d*(E1*E1)*(E2*E2))=M.LD n d X1 E1 X2 E2:=by rw [ht,hb];rfl
 have Tj:bU (n*n*(E1*E1)*(E2*E2) - X1*d*d*(E2*E2) - X2*d*d*(E1*E1)) (d*d*(E1*E1)*(E2*E2))=bU (M.top n d X1 E1 X2 E2) (M.bot d E1 E2):=by rw [ht,hb]
 rw [hpx,Tj] at PE;have hF:=jT (t:=M.top n d X1 E1 X2 E2) (b:=M.bot d E1 E2) ω;have hF0:=(jD (t:=M.top n d X1 E1 X2 E2) (b:=M.bot d E1 E2) ω).2.1;have hxs:(M.LD n d X1 E1 X2 E2).natAbs<=(M.top n d X1 E1 X2 E2).natAbs:=hF.1;have hR:=gv (show 0<=bU (M.top n d X1 E1 X2 E2) (M.bot d E1 E2) by omega)
 have PR:=fun W=>nt (bU (M.top n d X1 E1 X2 E2) (M.bot d E1 E2)) W ω ω
 have hre:M.root (bU (M.top n d X1 E1 X2 E2) (M.bot d E1 E2))=M.Jx n d X1 E1 X2 E2:=rfl;rw [hre] at PR hR;have hok:fh n d X1 E1 X2 E2=(decide (M.Jx n d X1 E1 X2 E2*M.Jx n d X1 E1 X2 E2=bU (M.top n d X1 E1 X2 E2) (M.bot d E1 E2)) && decide (M.Jx n d X1 E1 X2 E2<=20) && M.ins (M.LD n d X1 E1 X2 E2) (-10000) 10000):=rfl
 have PI:=fun W=>dW (M.LD n d X1 E1 X2 E2) (-10000) 10000 W
 have hF1:bU (M.top n d X1 E1 X2 E2) (M.bot d E1 E2)<=11000000000000:=ω
 have hF2:M.Jx n d X1 E1 X2 E2*M.Jx n d X1 E1 X2 E2<=11000000000000:=Int.le_trans hR.2.1 hF1;clear hF hF0 hxs hre hbp hpx Tj ht hb hbd hna;generalize Tq:M.LD n d X1 E1 X2 E2=x at *;generalize hee:M.Jx n d X1 E1 X2 E2=e at *;generalize bU (M.top n d X1 E1 X2 E2) (M.bot d E1 E2)=F at *;obtain ⟨R0,R1,R2⟩:=hR;clear R2;have R3:0<=e*e:=Int.mul_nonneg R0 R0;have PS:=IU PS;have PA:=IU PA;have PE:=IU PE;have PR:=IU PR;generalize (n.natAbs:Int)=na at *;have hfz:=IU (show (if false=true then x else 0)=0/\(if false=true then M.M5 n d X1 Y1 E1 X2 E2 else 0)=0/\(if false=true then e else 0)=0 from ⟨rfl,rfl,rfl⟩)
 by_cases c1:e*e=F
 ·subst c1
  clear R1 hF1;have R4:=hF2
  by_cases c2:e<=20
  ·cases c3:M.ins x (-10000) 10000
   ·have hk:fh n d X1 E1 X2 E2=false:=by rw [hok,c3,Bool.and_false]
    rw [hk,hfz.out.1,hfz.out.2.1,hfz.out.2.2];clear hk hfz hok LQ hii;rw [c3] at PI;have PI:=IU PI;obtain ⟨wc,hw3,C,Q,U,R,B⟩:=ej w #[a,b] 25 #[X1,Y1,E1] 40 #[X2,Y2,E2] 40 #[(0:Int),(0:Int),(0:Int)] 40;have ⟨q0,q1,q2⟩:=Q.aM;have ⟨u0,u1,u2⟩:=U.aM;have f_:=C.box.c0;have i_:=C.box.c1;have ⟨r0,r1,r2⟩:=R.aM;go_enter func55,ntmps55
    go_wp2_with first | (go_at_call 98;(with_reducible refine (PS.out _).mono ?_);rintro e w4 ⟨rfl,hb4⟩;replace B:=j_ B hb4;replace R:=R.keep hb4;replace Q:=Q.keep hb4;replace U:=U.keep hb4;replace C:=C.keep hb4;(obtain ⟨q0,q1,q2⟩:=Q.aM);(obtain ⟨u0,u1,u2⟩:=U.aM);(obtain ⟨r0,r1,r2⟩:=R.aM);have f0:=R.Ih 0;have f1:=R.Ih 1;have f2:=R.Ih 2;have rl:=R.lt) | (go_at_call 53;(with_reducible refine (PA.out _).mono ?_);rintro e w5 ⟨rfl,rfl⟩)
    go_region
    all_goals
     go_wp2_with first | (go_at_call 99;(with_reducible refine (PE.out _).mono ?_);rintro e w6 ⟨rfl,hb6⟩;replace B:=B.trans ((aN (IX w4 w4) 1).mono B.size);replace R:=R.drew;replace Q:=Q.drew;replace U:=U.drew;replace C:=C.drew;replace B:=j_ B hb6;replace R:=R.keep hb6;replace Q:=Q.keep hb6;replace U:=U.keep hb6;replace C:=C.keep hb6;(obtain ⟨q0,q1,q2⟩:=Q.aM);(obtain ⟨u0,u1,u2⟩:=U.aM);(obtain ⟨r0,r1,r2⟩:=R.aM);have f0:=R.Ih 0;have f1:=R.Ih 1;have f2:=R.Ih 2;have rl:=R.lt) | (go_at_call 97;(with_reducible refine (PR.out _).mono ?_);rintro e w7 ⟨rfl,rfl⟩) | (go_at_call 35;(with_reducible refine (PI.out _).mono ?_);rintro e w8 ⟨rfl,rfl⟩)
     exact D_ results55 ⟨rfl,JW B⟩
   have hk:fh n d X1 E1 X2 E2=true:=by rw [hok,c3,decide_eq_true c2,decide_eq_true rfl];rfl
   rw [c3] at PI;have PI:=IU PI;clear hok;obtain ⟨i1,i2,i3,i4,i5,i6⟩:=hii hk;obtain ⟨y1,y2⟩:=LQ hk;rw [hk];have hft:=IU (show (if true=true then x else 0)=x/\(if true=true then M.M5 n d X1 Y1 E1 X2 E2 else 0)=M.M5 n d X1 Y1 E1 X2 E2/\(if true=true then e else 0)=e from ⟨rfl,rfl,rfl⟩);rw [hft.out.1,hft.out.2.1,hft.out.2.2];clear hft hfz LQ hii hk i5 i6;generalize M.M5 n d X1 Y1 E1 X2 E2=Y at *;have hcv:=nX (a:=a) (b:=b) (x:=x) (e:=e) ha1 ha2 hb1 hb2 i3 i4 ω i2;have hYb:-2000000<=Y/\Y<=2000000:=xX ω;clear hcv y2;have OU:=aH (x:=X1) (y:=e) (m:=10000) (n:=20);have OV:=aH (x:=X1*e) (y:=e) (m:=200000) (n:=20);have Qp:=aH (x:=x) (y:=E1*E1) (m:=10000) (n:=400);have Qq:=aH (x:=n) (y:=X1*e*e - x*(E1*E1)) (m:=1600000) (n:=8000000);have Qr:=aH (x:=d) (y:=E1*E1) (m:=8000) (n:=400);have Qs:=aH (x:=d*(E1*E1)) (y:=e) (m:=3200000) (n:=20);have Qt:=aH (x:=d*(E1*E1)*e) (y:=e) (m:=64000000) (n:=20);have p1:0<d*(E1*E1)*e*e:=Int.mul_pos (Int.mul_pos (Int.mul_pos hd0 (Int.mul_pos ω ω)) ω) ω
   have P2:=fun W=>kH (n*(X1*e*e - x*(E1*E1))) (d*(E1*E1)*e*e) W ω ω ω ω ω
   have s1:=jT (t:=n*(X1*e*e - x*(E1*E1))) (b:=d*(E1*E1)*e*e) ω;have a1:=jD (t:=n*(X1*e*e - x*(E1*E1))) (b:=d*(E1*E1)*e*e) ω;generalize bU (n*(X1*e*e - x*(E1*E1))) (d*(E1*E1)*e*e)=under,cY (n*(X1*e*e - x*(E1*E1))) (d*(E1*E1)*e*e)=up at *
   have s2:-12800000000000<=up/\up<=12800000000000:=ω
   have s3:under<=1280000000:=ω
   obtain ⟨a1,a2,a3⟩:=a1;clear s1 a3;have Qu:=aH (x:=up) (y:=E1*E1) (m:=12800000000000) (n:=400);have Qv:=aH (x:=up*(E1*E1)) (y:=E1) (m:=5120000000000000) (n:=20);have Qw:=aH (x:=Y1) (y:=under) (m:=3000000) (n:=1280000000);have Qx:=aH (x:=under) (y:=E1*E1) (m:=1280000000) (n:=400);have Qy:=aH (x:=under*(E1*E1)) (y:=E1) (m:=512000000000) (n:=20);have p2:0<under*(E1*E1)*E1:=Int.mul_pos (Int.mul_pos a2 (Int.mul_pos ω ω)) ω
   have P3:=fun W=>kH (up*(E1*E1)*E1 - Y1*under) (under*(E1*E1)*E1) W ω ω ω ω ω
   have s1:=jT (t:=up*(E1*E1)*E1 - Y1*under) (b:=under*(E1*E1)*E1) ω;have a3:=jD (t:=up*(E1*E1)*E1 - Y1*under) (b:=under*(E1*E1)*E1) ω;generalize bU (up*(E1*E1)*E1 - Y1*under) (under*(E1*E1)*E1)=bottom,cY (up*(E1*E1)*E1 - Y1*under) (under*(E1*E1)*E1)=y at *;obtain ⟨a3,a4,a5⟩:=a3;have hY:=IE hd0 ω ω y1 a1 a2 a3 a4 a5
   have s4:bottom<=10240000000000:=ω
   clear a1 a3 a5 y1 s1;have Qz:=aH (x:=e) (y:=e) (m:=20) (n:=20);have S3:=aH (x:=e*e) (y:=e) (m:=400) (n:=20);have ee:0<=e*e*e:=Int.mul_nonneg R3 R0;have hq:=M.gO ee a4
   have hb0:bottom≠0:=ω
   have hb1_:(bottom == 0)=false:=by rw [beq_eq_false_iff_ne];omega
   have P2:=IU P2;have P3:=IU P3;have hY:=IU hY
   have hyb2:-2000000<=y*(e*e*e).tdiv bottom/\y*(e*e*e).tdiv bottom<=2000000:=by rw [hY.out];exact hYb
   obtain ⟨wc,hw3,C,Q,U,R,B⟩:=ej w #[a,b] 25 #[X1,Y1,E1] 40 #[X2,Y2,E2] 40 #[(0:Int),(0:Int),(0:Int)] 40;have ⟨q0,q1,q2⟩:=Q.aM;have ⟨u0,u1,u2⟩:=U.aM;have f_:=C.box.c0;have i_:=C.box.c1;have ⟨r0,r1,r2⟩:=R.aM;go_enter func55,ntmps55
   go_wp2_with first | (go_at_call 98;(with_reducible refine (PS.out _).mono ?_);rintro e w4 ⟨rfl,hb4⟩;replace B:=j_ B hb4;replace R:=R.keep hb4;replace Q:=Q.keep hb4;replace U:=U.keep hb4;replace C:=C.keep hb4;(obtain ⟨q0,q1,q2⟩:=Q.aM);(obtain ⟨u0,u1,u2⟩:=U.aM);(obtain ⟨r0,r1,r2⟩:=R.aM);have f0:=R.Ih 0;have f1:=R.Ih 1;have f2:=R.Ih 2;have rl:=R.lt) | (go_at_call 53;(with_reducible refine (PA.out _).mono ?_);rintro e w5 ⟨rfl,rfl⟩)
   go_region
   all_goals
    go_wp2_with first | (go_at_call 99;(with_reducible refine (PE.out _).mono ?_);rintro e w6 ⟨rfl,hb6⟩;replace B:=B.trans ((aN (IX w4 w4) 1).mono B.size);replace R:=R.drew;replace Q:=Q.drew;replace U:=U.drew;replace C:=C.drew;replace B:=j_ B hb6;replace R:=R.keep hb6;replace Q:=Q.keep hb6;replace U:=U.keep hb6;replace C:=C.keep hb6;(obtain ⟨q0,q1,q2⟩:=Q.aM);(obtain ⟨u0,u1,u2⟩:=U.aM);(obtain ⟨r0,r1,r2⟩:=R.aM);have f0:=R.Ih 0;have f1:=R.Ih 1;have f2:=R.Ih 2;have rl:=R.lt) | (go_at_call 97;(with_reducible refine (PR.out _).mono ?_);rintro e w7 ⟨rfl,rfl⟩) | (go_at_call 35;(with_reducible refine (PI.out _).mono ?_);rintro e w8 ⟨rfl,rfl⟩) | (go_at_call 99;(with_reducible refine (P2.out _).mono ?_);rintro e w9 ⟨rfl,I2⟩;replace B:=j_ B I2;replace R:=R.keep I2;replace Q:=Q.keep I2;replace U:=U.keep I2;replace C:=C.keep I2;(obtain ⟨q0,q1,q2⟩:=Q.aM);(obtain ⟨u0,u1,u2⟩:=U.aM);(obtain ⟨r0,r1,r2⟩:=R.aM);have f0:=R.Ih 0;have f1:=R.Ih 1;have f2:=R.Ih 2;have rl:=R.lt) | (go_at_call 99;(with_reducible refine (P3.out _).mono ?_);rintro e wa ⟨rfl,hba⟩;replace B:=j_ B hba;replace R:=R.keep hba;replace Q:=Q.keep hba;replace U:=U.keep hba;replace C:=C.keep hba;(obtain ⟨q0,q1,q2⟩:=Q.aM);(obtain ⟨u0,u1,u2⟩:=U.aM);(obtain ⟨r0,r1,r2⟩:=R.aM);have f0:=R.Ih 0;have f1:=R.Ih 1;have f2:=R.Ih 2;have rl:=R.lt)
    exact D_ (v:=.tuple #[.agg #[x,(y*(e*e*e).tdiv bottom:Int),e],true]) results55 ⟨by rw [hY.out],JW B⟩
  have hk:fh n d X1 E1 X2 E2=false:=by rw [hok,decide_eq_false c2,Bool.and_false];rfl
  rw [hk,hfz.out.1,hfz.out.2.1,hfz.out.2.2];clear hk hfz hok LQ hii;have PI:=IU PI
  have c4:20<e:=ω
  clear c2;obtain ⟨wc,hw3,C,Q,U,R,B⟩:=ej w #[a,b] 25 #[X1,Y1,E1] 40 #[X2,Y2,E2] 40 #[(0:Int),(0:Int),(0:Int)] 40;have ⟨q0,q1,q2⟩:=Q.aM;have ⟨u0,u1,u2⟩:=U.aM;have f_:=C.box.c0;have i_:=C.box.c1;have ⟨r0,r1,r2⟩:=R.aM;go_enter func55,ntmps55
  go_wp2_with first | (go_at_call 98;(with_reducible refine (PS.out _).mono ?_);rintro e w4 ⟨rfl,hb4⟩;replace B:=j_ B hb4;replace R:=R.keep hb4;replace Q:=Q.keep hb4;replace U:=U.keep hb4;replace C:=C.keep hb4;(obtain ⟨q0,q1,q2⟩:=Q.aM);(obtain ⟨u0,u1,u2⟩:=U.aM);(obtain ⟨r0,r1,r2⟩:=R.aM);have f0:=R.Ih 0;have f1:=R.Ih 1;have f2:=R.Ih 2;have rl:=R.lt) | (go_at_call 53;(with_reducible refine (PA.out _).mono ?_);rintro e w5 ⟨rfl,rfl⟩)
  go_region
  all_goals
   go_wp2_with first | (go_at_call 99;(with_reducible refine (PE.out _).mono ?_);rintro e w6 ⟨rfl,hb6⟩;replace B:=B.trans ((aN (IX w4 w4) 1).mono B.size);replace R:=R.drew;replace Q:=Q.drew;replace U:=U.drew;replace C:=C.drew;replace B:=j_ B hb6;replace R:=R.keep hb6;replace Q:=Q.keep hb6;replace U:=U.keep hb6;replace C:=C.keep hb6;(obtain ⟨q0,q1,q2⟩:=Q.aM);(obtain ⟨u0,u1,u2⟩:=U.aM);(obtain ⟨r0,r1,r2⟩:=R.aM);have f0:=R.Ih 0;have f1:=R.Ih 1;have f2:=R.Ih 2;have rl:=R.lt) | (go_at_call 97;(with_reducible refine (PR.out _).mono ?_);rintro e w7 ⟨rfl,rfl⟩) | (go_at_call 35;(with_reducible refine (PI.out _).mono ?_);rintro e w8 ⟨rfl,rfl⟩)
   exact D_ results55 ⟨rfl,JW B⟩
 have hk:fh n d X1 E1 X2 E2=false:=by rw [hok,decide_eq_false c1];rfl
 rw [hk,hfz.out.1,hfz.out.2.1,hfz.out.2.2];clear hk hfz hok LQ hii;have PI:=IU PI;have c1b:(e*e == F)=false:=beq_eq_false_iff_ne.2 c1
 have c1c:(e*e != F)=true:=by simp [c1]
 obtain ⟨wc,hw3,C,Q,U,R,B⟩:=ej w #[a,b] 25 #[X1,Y1,E1] 40 #[X2,Y2,E2] 40 #[(0:Int),(0:Int),(0:Int)] 40;have ⟨q0,q1,q2⟩:=Q.aM;have ⟨u0,u1,u2⟩:=U.aM;have f_:=C.box.c0;have i_:=C.box.c1;have ⟨r0,r1,r2⟩:=R.aM;go_enter func55,ntmps55
 go_wp2_with first | (go_at_call 98;(with_reducible refine (PS.out _).mono ?_);rintro e w4 ⟨rfl,hb4⟩;replace B:=j_ B hb4;replace R:=R.keep hb4;replace Q:=Q.keep hb4;replace U:=U.keep hb4;replace C:=C.keep hb4;(obtain ⟨q0,q1,q2⟩:=Q.aM);(obtain ⟨u0,u1,u2⟩:=U.aM);(obtain ⟨r0,r1,r2⟩:=R.aM);have f0:=R.Ih 0;have f1:=R.Ih 1;have f2:=R.Ih 2;have rl:=R.lt) | (go_at_call 53;(with_reducible refine (PA.out _).mono ?_);rintro e w5 ⟨rfl,rfl⟩)
 go_region
 all_goals
  go_wp2_with first | (go_at_call 99;(with_reducible refine (PE.out _).mono ?_);rintro e w6 ⟨rfl,hb6⟩;replace B:=B.trans ((aN (IX w4 w4) 1).mono B.size);replace R:=R.drew;replace Q:=Q.drew;replace U:=U.drew;replace C:=C.drew;replace B:=j_ B hb6;replace R:=R.keep hb6;replace Q:=Q.keep hb6;replace U:=U.keep hb6;replace C:=C.keep hb6;(obtain ⟨q0,q1,q2⟩:=Q.aM);(obtain ⟨u0,u1,u2⟩:=U.aM);(obtain ⟨r0,r1,r2⟩:=R.aM);have f0:=R.Ih 0;have f1:=R.Ih 1;have f2:=R.Ih 2;have rl:=R.lt) | (go_at_call 97;(with_reducible refine (PR.out _).mono ?_);rintro e w7 ⟨rfl,rfl⟩) | (go_at_call 35;(with_reducible refine (PI.out _).mono ?_);rintro e w8 ⟨rfl,rfl⟩)
  exact D_ results55 ⟨rfl,JW B⟩
end
section
open Gr M Rg Rw Wh
namespace M
theorem xA {a b X1 Y1 E1 X2 Y2 E2:Int} (h1:Y1*Y1=cv a b X1 E1) (h2:Y2*Y2=cv a b X2 E2) (he1:1<=E1) (he2:1<=E2) (g1:Int.gcd X1 E1=1) (g2:Int.gcd X2 E2=1):sD X1 Y1 E1 X2 Y2 E2=0 ↔ X1=X2/\Y1=-Y2/\E1=E2:=by
 have p1:0<E1*E1:=Int.mul_pos ω ω;have p2:0<E2*E2:=Int.mul_pos ω ω;unfold sD
 split
 ·rename_i h
  obtain ⟨rfl,rfl,rfl⟩:=h
  constructor
  ·intro h
   have:2*Y1=0:=(Int.mul_eq_zero.1 h).resolve_right ω;exact ⟨rfl,ω,rfl⟩
  intro h
  have:Y1=0:=ω
  rw [this];simp
 rename_i h
 constructor
 ·intro k
  have k1:X2*E1*E1 - X1*E2*E2=0:=(Int.mul_eq_zero.1 k).resolve_left (Int.mul_ne_zero ω ω);have q1:=rK (b:=E1*E1) (t:=X1) p1 p1 (qs.2 g1) (Int.mul_comm _ _);have q2:=rK (b:=E1*E1) (t:=X1) p1 p2 (qs.2 g2) (show E1*E1*X2=X1*(E2*E2) by clear h1 h2 h;grind);have hX:X1=X2:=q1.1.symm.trans q2.1;have hE2:E1*E1=E2*E2:=q1.2.symm.trans q2.2
  have hE:E1=E2:=by
   have e:(E1 - E2)*(E1+E2)=0:=by clear h1 h2 h;grind
   have:=(Int.mul_eq_zero.1 e).resolve_right ω;omega
  subst hX;subst hE
  have e:(Y1 - Y2)*(Y1+Y2)=0:=by rw [←h2] at h1;clear h2 h;grind
  rcases Int.mul_eq_zero.1 e with q | q
  ·exact absurd ⟨rfl,ω,rfl⟩ h
  exact ⟨rfl,ω,rfl⟩
 rintro ⟨rfl,-,rfl⟩;simp
theorem Hz {a X1 Y1 E1 X2 Y2 E2:Int} (h:sD X1 Y1 E1 X2 Y2 E2≠0):((sN a X1 Y1 E1 X2 Y2 E2).tdiv (M.gcd (sN a X1 Y1 E1 X2 Y2 E2) (sD X1 Y1 E1 X2 Y2 E2))=Jj a X1 Y1 E1 X2 Y2 E2/\(sD X1 Y1 E1 X2 Y2 E2).tdiv (M.gcd (sN a X1 Y1 E1 X2 Y2 E2) (sD X1 Y1 E1 X2 Y2 E2))=JY a X1 Y1 E1 X2 Y2 E2)∨((sN a X1 Y1 E1 X2 Y2 E2).tdiv (M.gcd (sN a X1 Y1 E1 X2 Y2 E2) (sD X1 Y1 E1 X2 Y2 E2))=-Jj a X1 Y1 E1 X2 Y2 E2/\(sD X1 Y1 E1 X2 Y2 E2).tdiv (M.gcd (sN a X1 Y1 E1 X2 Y2 E2) (sD X1 Y1 E1 X2 Y2 E2))=-JY a X1 Y1 E1 X2 Y2 E2):=by
 unfold Jj JY cY bU;rw [if_neg h,if_neg h]
 split
 ·right;exact ⟨(Int.neg_neg _).symm,(Int.neg_neg _).symm⟩
 left;exact ⟨rfl,rfl⟩
theorem Eh (n m X1 E1 X2 E2:Int):top (-n) (-m) X1 E1 X2 E2=top n m X1 E1 X2 E2:=by unfold top;grind
theorem DC (m E1 E2:Int):bot (-m) E1 E2=bot m E1 E2:=by unfold bot;grind
theorem CT (n m X1 Y1 E1 x e:Int):gw (-n) (-m) X1 Y1 E1 x e=-gw n m X1 Y1 E1 x e:=by unfold gw;grind
theorem wQ {a X1 Y1 E1 X2 Y2 E2:Int} (h0:sD X1 Y1 E1 X2 Y2 E2≠0) (hk:jY a X1 Y1 E1 X2 Y2 E2=false):LF a X1 Y1 E1 X2 Y2 E2=0/\LZ a X1 Y1 E1 X2 Y2 E2=0/\KY a X1 Y1 E1 X2 Y2 E2=0:=by
 unfold jY at hk;rw [if_neg h0] at hk;unfold LF LZ KY;rw [if_neg h0,if_neg h0,if_neg h0,hk];exact ⟨rfl,rfl,rfl⟩
theorem mT {a b X1 Y1 E1 X2 Y2 E2 n m:Int} (h1:Y1*Y1=cv a b X1 E1) (h2:Y2*Y2=cv a b X2 E2) (hx1:X1<=10000) (hx2:X2<=10000) (he1:1<=E1) (he2:E1<=20) (Kt:1<=E2) (Lc:E2<=20) (h0:sD X1 Y1 E1 X2 Y2 E2≠0)
  (hnm:(n=Jj a X1 Y1 E1 X2 Y2 E2/\m=JY a X1 Y1 E1 X2 Y2 E2)∨(n=-Jj a X1 Y1 E1 X2 Y2 E2/\m=-JY a X1 Y1 E1 X2 Y2 E2)) :
  m≠0/\(∀ x e,1<=e->e<=20->-10000<=x->x<=10000->Int.gcd x e=1->bot m E1 E2*x=top n m X1 E1 X2 E2*(e*e)->jY a X1 Y1 E1 X2 Y2 E2=true/\LF a X1 Y1 E1 X2 Y2 E2=x/\KY a X1 Y1 E1 X2 Y2 E2=e)/\
  (jY a X1 Y1 E1 X2 Y2 E2=true->∀ X Y E,X=LF a X1 Y1 E1 X2 Y2 E2->Y=LZ a X1 Y1 E1 X2 Y2 E2->E=KY a X1 Y1 E1 X2 Y2 E2->1<=E/\E<=20/\-10000<=X/\X<=10000/\Int.gcd X E=1/\bot m E1 E2*X=top n m X1 E1 X2 E2*(E*E)/\E*gw n m X1 Y1 E1 X E=m*E1*E1*E1*Y/\Y*Y=cv a b X E/\(m.natAbs:Int)<=8000/\(n.natAbs:Int)<=1600000):=by
 obtain ⟨hs,hd0,hg,-,-⟩:=xU (a:=a) h0
 have ht:top n m X1 E1 X2 E2=top (Jj a X1 Y1 E1 X2 Y2 E2) (JY a X1 Y1 E1 X2 Y2 E2) X1 E1 X2 E2:=by
  rcases hnm with ⟨rfl,rfl⟩ | ⟨rfl,rfl⟩
  ·rfl
  exact Eh ..
 have hb:bot m E1 E2=bot (JY a X1 Y1 E1 X2 Y2 E2) E1 E2:=by
  rcases hnm with ⟨rfl,rfl⟩ | ⟨rfl,rfl⟩
  ·rfl
  exact DC ..
 have hm0:m≠0:=ω
 have hna:m.natAbs=(JY a X1 Y1 E1 X2 Y2 E2).natAbs/\n.natAbs=(Jj a X1 Y1 E1 X2 Y2 E2).natAbs:=ω
 have hsd:∀ x e,(gw n m X1 Y1 E1 x e=gw (Jj a X1 Y1 E1 X2 Y2 E2) (JY a X1 Y1 E1 X2 Y2 E2) X1 Y1 E1 x e/\m=JY a X1 Y1 E1 X2 Y2 E2)∨(gw n m X1 Y1 E1 x e=-gw (Jj a X1 Y1 E1 X2 Y2 E2) (JY a X1 Y1 E1 X2 Y2 E2) X1 Y1 E1 x e/\m=-JY a X1 Y1 E1 X2 Y2 E2):=by
  intro x e
  rcases hnm with ⟨rfl,rfl⟩ | ⟨rfl,rfl⟩
  ·left;exact ⟨rfl,rfl⟩
  right;exact ⟨CT ..,rfl⟩
 clear hnm;rw [ht,hb,hna.1,hna.2];clear ht hb hna;unfold jY LF LZ KY;rw [if_neg h0,if_neg h0,if_neg h0,if_neg h0]
 have hbd:=fun (k:fh (Jj a X1 Y1 E1 X2 Y2 E2) (JY a X1 Y1 E1 X2 Y2 E2) X1 E1 X2 E2=true)=>sK ω he1 he2 Kt Lc hx1 hx2 hg k
 have LQ:=fun (k:fh (Jj a X1 Y1 E1 X2 Y2 E2) (JY a X1 Y1 E1 X2 Y2 E2) X1 E1 X2 E2=true)=>HJ h1 h2 ω ω ω hs h0 k
 have hii:=fun (k:fh (Jj a X1 Y1 E1 X2 Y2 E2) (JY a X1 Y1 E1 X2 Y2 E2) X1 E1 X2 E2=true)=>vw ω ω ω k
 generalize JY a X1 Y1 E1 X2 Y2 E2=D,Jj a X1 Y1 E1 X2 Y2 E2=N at *;refine ⟨hm0,?_,?_⟩
 ·intro x e q1 q2 q3 q4 q5 q6
  obtain ⟨k1,k2,k3⟩:=Fi ω ω ω q1 q2 q3 q4 q5 q6;rw [k1];exact ⟨rfl,k2,k3⟩
 intro k X Y E eX eY eE;rw [if_pos k] at eX eY eE;obtain ⟨i1,i2,i3,i4,i5,i6⟩:=hii k;obtain ⟨y1,y2⟩:=LQ k;obtain ⟨b1,b2⟩:=hbd k;rw [←eX,←eE] at i5 i6;rw [←eX,←eE,←eY] at y1 y2;rw [←eE] at i1 i2;rw [←eX] at i3 i4;refine ⟨i1,i2,i3,i4,i5,i6,?_,y2,b1,ω⟩
 rcases hsd X E with ⟨s1,s2⟩ | ⟨s1,s2⟩
 ·rw [s1,s2,y1]
 rw [s1,s2,Int.mul_neg,y1];clear hsd hbd LQ hii
 grind
end M
end
end Go.Proofs.YtkalaljcbmkbmaaGreat
