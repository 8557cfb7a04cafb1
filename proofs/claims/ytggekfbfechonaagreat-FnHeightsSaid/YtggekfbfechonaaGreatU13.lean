/-
  Joined texts: contracts and plain lemmas.
-/
import Derived.Test.YtggekfbfechonaaGreatU1
import Derived.Laws.FloatArith
import Derived.Laws.Externs
import Derived.Test.YtggekfbfechonaaGreatU12
set_option linter.unusedSimpArgs false
set_option linter.unusedVariables false
set_option maxRecDepth 100000
set_option maxHeartbeats 8000000
namespace Go.Proofs.YtggekfbfechonaaGreat
section
namespace M
open Ieee
theorem Kl (neg:Bool) (n:Nat):Toward.even.cut neg n 0=n:=by
 unfold Toward.cut;simp [Nat.mod_one]
theorem uH {neg:Bool} {n drop k:Nat} (h:n<2 ^ (drop+k)):Toward.even.cut neg n drop≤2 ^ k:=by
 unfold Toward.cut
 dsimp only
 rw [Nat.one_shiftLeft]
 have hb:∀ b:Bool,b.toNat≤1:=fun b=>by cases b <;> decide
 have hp:0<2 ^ k:=Nat.two_pow_pos k;refine Nat.le_trans (Nat.add_le_add_left (hb _) _) ?_
 by_cases hd:drop≤n.log2+2
 ·rw [Nat.min_eq_left hd]
  have:n / 2 ^ drop<2 ^ k:=by
   rw [Nat.div_lt_iff_lt_mul (Nat.two_pow_pos _),←Nat.pow_add,Nat.add_comm k];exact h
  omega
 rw [Nat.min_eq_right (by omega)];have h1:n<2 ^ (n.log2+2):=Nat.lt_of_lt_of_le Nat.lt_log2_self (Nat.pow_le_pow_right (by decide) (by omega));rw [Nat.div_eq_of_lt h1];omega
theorem sd {neg:Bool} {n drop k:Nat} (h:n<2 ^ (drop+k)):Toward.zero.cut neg n drop≤2 ^ k:=by
 unfold Toward.cut
 dsimp only
 rw [Nat.one_shiftLeft]
 by_cases hd:drop≤n.log2+2
 ·rw [Nat.min_eq_left hd]
  have:n / 2 ^ drop<2 ^ k:=by
   rw [Nat.div_lt_iff_lt_mul (Nat.two_pow_pos _),←Nat.pow_add,Nat.add_comm k];exact h
  simp
  omega
 rw [Nat.min_eq_right (by omega)];have h1:n<2 ^ (n.log2+2):=Nat.lt_of_lt_of_le Nat.lt_log2_self (Nat.pow_le_pow_right (by decide) (by omega));rw [Nat.div_eq_of_lt h1];simp
theorem fL (n:Nat):∀ todo root:Nat,Datum.rootFrom n todo root<root+2 ^ todo
 | 0,root=>by simp [Datum.rootFrom]
 | todo+1,root=>by
  unfold Datum.rootFrom
  dsimp only
  have h1:=fL n todo (root+1 <<< todo);have h2:=fL n todo root;have h3:(1 <<< todo:Nat)=2 ^ todo:=Nat.one_shiftLeft todo
  have h4:2 ^ (todo+1)=2*2 ^ todo:=by rw [Nat.pow_succ];omega
  rw [h3] at h1 ⊢
  split <;> omega
theorem jJ {ρ:Nat} (h:ρ<9218868437227405312):double.read ρ=if ρ<4503599627370496 then .number false ρ (-1074) else .number false (4503599627370496+ρ % 4503599627370496) (-1074+(ρ / 4503599627370496 - 1:Nat)):=by
 unfold Format.read;have e1:double.signWeight=9223372036854775808:=rfl;have e2:double.binade=4503599627370496:=rfl;have e3:double.infRung=9218868437227405312:=rfl
 have e4:double.leastPlace=-1074:=by decide
 rw [e1,e2,e3,e4];have h1:ρ % 9223372036854775808=ρ:=Nat.mod_eq_of_lt (by omega);have h2:ρ / 9223372036854775808=0:=Nat.div_eq_of_lt (by omega)
 dsimp only
 rw [h1,h2];simp only [h,if_true];rfl
theorem gc {n k:Nat} (h:n≠0):(n <<< k).log2=n.log2+k:=by
 rw [Nat.shiftLeft_eq];have h0:n*2 ^ k≠0:=Nat.mul_ne_zero h (Nat.pos_iff_ne_zero.1 (Nat.two_pow_pos k));refine Nat.le_antisymm ?_ ?_
 ·refine Nat.lt_succ_iff.1 ((Nat.log2_lt h0).2 ?_)
  rw [show (n.log2+k).succ=(n.log2+1)+k from by omega,Nat.pow_add];exact Nat.mul_lt_mul_of_pos_right Nat.lt_log2_self (Nat.two_pow_pos k)
 refine (Nat.le_log2 h0).2 ?_;rw [Nat.pow_add];exact Nat.mul_le_mul_right _ (Nat.log2_self_le h)
theorem jS {n:Nat} (h0:n≠0) (h:n<9007199254740992):double.read (double.nearest false n 0)=.number false (n <<< (52 - n.log2)) ((n.log2:Int) - 52):=by
 have hL:n.log2≤52:=Nat.lt_succ_iff.1 ((Nat.log2_lt h0).2 h);have hK:=gc (k:=52 - n.log2) h0;rw [show n.log2+(52 - n.log2)=52 from by omega] at hK
 have H0:n <<< (52 - n.log2)≠0:=by rw [Nat.shiftLeft_eq];exact Nat.mul_ne_zero h0 (Nat.pos_iff_ne_zero.1 (Nat.two_pow_pos _))
 have k1:=Nat.log2_self_le H0;have k2:=Nat.lt_log2_self (n:=n <<< (52 - n.log2));rw [hK] at k1 k2;generalize hk:n <<< (52 - n.log2)=K at *
 have e:double.nearest false n 0=(n.log2+1022)*4503599627370496+K:=by
  unfold Format.nearest;have e2:double.binade=4503599627370496:=rfl;have e3:double.infRung=9218868437227405312:=rfl
  have e4:double.leastPlace=-1074:=by decide
  have e5:double.fractionBits=52:=rfl;rw [if_neg h0,e2,e3,e4,e5]
  dsimp only
  have m1:max ((0:Int)+(n.log2:Int) - ((52:Nat):Int)) (-1074)=(n.log2:Int) - 52:=by omega
  rw [m1]
  have m2:((0:Int) - ((n.log2:Int) - 52)).toNat=52 - n.log2:=by omega
  have m3:((n.log2:Int) - 52 - 0).toNat=0:=by omega
  have m4:((n.log2:Int) - 52 - -1074).toNat=n.log2+1022:=by omega
  rw [m2,m3,hk,Kl,m4,Nat.min_eq_left (by omega)];rfl
 rw [e,jJ (by omega),if_neg (by omega)]
 have d1:((n.log2+1022)*4503599627370496+K) % 4503599627370496=K - 4503599627370496:=by omega
 have d2:((n.log2+1022)*4503599627370496+K) / 4503599627370496=n.log2+1023:=by omega
 rw [d1,d2,show 4503599627370496+(K - 4503599627370496)=K from by omega,show -1074+((n.log2+1023 - 1:Nat):Int)=(n.log2:Int) - 52 from by omega]
theorem np {m:Nat} {i:Int} (hm:m<2 ^ 53) (hi:i≤-30):∃ R:Int,(Datum.number false m i).toInt .zero=some R∧0≤R∧R≤8388608:=by
 have hz:i.toNat=0:=by omega
 have h1:=sd (neg:=false) (n:=m) (drop:=(-i).toNat) (k:=23) (Nat.lt_of_lt_of_le hm (Nat.pow_le_pow_right (by decide) (by omega)));rw [show (2:Nat) ^ 23=8388608 from rfl] at h1;refine ⟨(Toward.zero.cut false m (-i).toNat:Nat),?_,by omega,by omega⟩;unfold Datum.toInt Datum.integral
 dsimp only
 rw [hz,Nat.shiftLeft_zero];simp [signed]
theorem rB {ρ:Nat} (hρ:ρ≤4706261610602168320):∃ R:Int,(double.read ρ).toInt .zero=some R∧0≤R∧R≤8388608:=by
 have hmd:=Nat.mod_lt ρ (show 0<4503599627370496 from by decide);rw [jJ (by omega)];have e53:(9007199254740992:Nat)=2 ^ 53:=rfl
 by_cases hs:ρ<4503599627370496
 ·rw [if_pos hs]
  exact np (by rw [←e53];omega) (by omega)
 rw [if_neg hs];exact np (by rw [←e53];omega) (by omega)
theorem su {mag:Nat} {bw:Int}:Toward.even.cut false (mag <<< (bw - (bw+mag.log2 - 52)).toNat) (bw+mag.log2 - 52 - bw).toNat≤2 ^ 53:=by
 refine uH ?_;have h3:=Nat.lt_log2_self (n:=mag);rw [Nat.shiftLeft_eq]
 rcases Nat.lt_or_ge mag.log2 53 with q | q
 ·have z1:(bw - (bw+mag.log2 - 52)).toNat=52 - mag.log2:=by omega
  have z2:(bw+mag.log2 - 52 - bw).toNat=0:=by omega
  have h4:=Nat.mul_lt_mul_of_pos_right h3 (Nat.two_pow_pos (52 - mag.log2));rw [←Nat.pow_add,show mag.log2+1+(52 - mag.log2)=53 from by omega] at h4;rw [z1,z2,Nat.zero_add];exact h4
 have z1:(bw - (bw+mag.log2 - 52)).toNat=0:=by omega
 have z2:(bw+mag.log2 - 52 - bw).toNat=mag.log2 - 52:=by omega
 rw [z1,z2,Nat.pow_zero,Nat.mul_one,show mag.log2 - 52+53=mag.log2+1 from by omega];exact h3
theorem pQ {mag:Nat} {bw:Int} (h:mag<2 ^ 56) (h1:-200≤bw) (h2:bw≤-34):double.nearest false mag bw≤4706261610602168320:=by
 unfold Format.nearest;have e2:double.binade=4503599627370496:=rfl
 have e4:double.leastPlace=-1074:=by decide
 have e5:double.fractionBits=52:=rfl
 have w0:∀ x,double.word false x=x:=fun x=>rfl
 by_cases h0:mag=0
 ·rw [if_pos h0,w0];omega
 rw [if_neg h0,e2,e4,e5,w0];have hl:mag.log2≤55:=Nat.lt_succ_iff.1 ((Nat.log2_lt h0).2 h)
 have m1:max (bw+(mag.log2:Int) - ((52:Nat):Int)) (-1074)=bw+mag.log2 - 52:=by omega
 rw [m1];refine Nat.le_trans (Nat.min_le_left _ _) ?_;have hc:=su (mag:=mag) (bw:=bw);rw [show (2:Nat) ^ 53=9007199254740992 from rfl] at hc
 have hb:(bw+mag.log2 - 52 - -1074).toNat≤1043:=by omega
 have hb2:=Nat.mul_le_mul_right 4503599627370496 hb;exact Nat.le_trans (Nat.add_le_add hb2 hc) (by decide)
theorem pM {mag:Nat} {bw:Int} (h:mag<2 ^ 56) (h1:-200≤bw) (h2:bw≤-34) :
  ∃ R:Int,(double.read (double.nearest false mag bw)).toInt .zero=some R∧0≤R∧R≤8388608:=rB (pQ h h1 h2)
theorem my {n:Nat} (h:n<8796093022208):∃ r:Nat,double.sqrt (double.nearest false n 0)=some r∧∃ R:Int,(double.read r).toInt .zero=some R∧0≤R∧R≤8388608:=by
 by_cases h0:n=0
 ·subst h0
  exact ⟨_,rfl,_,rfl,by decide,by decide⟩
 have hL:n.log2≤42:=Nat.lt_succ_iff.1 ((Nat.log2_lt h0).2 h);have hK:=gc (k:=52 - n.log2) h0;rw [show n.log2+(52 - n.log2)=52 from by omega] at hK
 have H0:n <<< (52 - n.log2)≠0:=by rw [Nat.shiftLeft_eq];exact Nat.mul_ne_zero h0 (Nat.pos_iff_ne_zero.1 (Nat.two_pow_pos _))
 unfold Format.sqrt;rw [jS h0 (by omega)];generalize n <<< (52 - n.log2)=K at *;generalize hn:n.log2=l at *;unfold Datum.root
 dsimp only
 have e5:double.fractionBits=52:=rfl;rw [if_neg H0,e5,hK];simp only [Bool.false_eq_true,if_false,Option.map_some];refine ⟨_,rfl,?_⟩
 have hr:(((l:Int) - 52 - ((2*(52+2) - 52:Nat):Int)) % 2).toNat≤1:=by omega
 generalize hmm:(((l:Int) - 52 - ((2*(52+2) - 52:Nat):Int)) % 2).toNat=b at *;unfold Format.write
 dsimp only
 refine pM ?_ ?_ ?_
 ·have hx:=fL (K <<< (2*(52+2) - 52+b)) ((K <<< (2*(52+2) - 52+b)).log2 / 2+1) 0
  have hy:(K <<< (2*(52+2) - 52+b)).log2 / 2+1≤55:=by rw [gc H0];omega
  have hz:=Nat.pow_le_pow_right (n:=2) (by decide) hy
  have hb:∀ c:Bool,c.toNat≤1:=fun c=>by cases c <;> decide
  rw [show (2:Nat) ^ 55=36028797018963968 from rfl] at hz;rw [show (2:Nat) ^ 56=72057594037927936 from rfl];have:=hb (Datum.rootFrom (K <<< (2*(52+2) - 52+b)) ((K <<< (2*(52+2) - 52+b)).log2 / 2+1) 0*Datum.rootFrom (K <<< (2*(52+2) - 52+b)) ((K <<< (2*(52+2) - 52+b)).log2 / 2+1) 0 != K <<< (2*(52+2) - 52+b));omega
 ·omega
 omega
end M
theorem nF {n:Int} (h0:0≤n) (h:n≤8000000000000):∃ r:Nat,FloatKind.f64.format.sqrt (FloatKind.f64.nearest n)=some r∧∃ R:Int,floatToIntVal .f64 r .i64=some R∧0≤R∧R≤8388608:=by
 obtain ⟨r,h1,R,h2,h3,h4⟩:=M.my (n:=n.natAbs) (by omega);refine ⟨r,?_,R,?_,h3,h4⟩
 ·have e:FloatKind.f64.nearest n=Ieee.double.nearest false n.natAbs 0:=by
   unfold FloatKind.nearest FloatKind.encode Ieee.Format.write
   dsimp only
   rw [show decide (n<0)=false from by simp;omega];rfl
  rw [e];exact h1
 unfold floatToIntVal;rw [show (FloatKind.f64.decode r).toInt .zero=some R from h2]
 dsimp only
 rw [if_pos]
 have a1:IntKind.i64.min=-9223372036854775808:=by decide
 have a2:IntKind.i64.max=9223372036854775807:=by decide
 omega
end
section
open Go.RowKit
noncomputable def M.fd (n:Int):Bool:=decide (0≤n) && (M.root n*M.root n == n)
theorem M.gF {n r:Int} (h:r*r=n):M.fd n=true:=by
 have h0:0≤n:=by
  rw [←h]
  rcases Int.le_total 0 r with q | q
  ·exact Int.mul_nonneg q q
  exact Int.mul_nonneg_of_nonpos_of_nonpos q q
 have hr:=M.iU (n:=n) (r:=(r.natAbs:Int)) ⟨by omega,by rw [←h];exact Int.le_of_eq (Int.natAbs_mul_self' r),by
  have:(r.natAbs:Int)*(r.natAbs:Int)=r*r:=Int.natAbs_mul_self' r;rw [←h,←this,Int.mul_add,Int.add_mul]
  omega⟩
 unfold M.fd;rw [←hr,Int.natAbs_mul_self',h];simp [h0]
theorem M.sp {n r:Int} (h0:0≤r) (h1:r*r<n) (h2:n<(r+1)*(r+1)):M.fd n=false:=by
 have h3:0≤r*r:=Int.mul_nonneg h0 h0;have hr:=M.iU (n:=n) (r:=r) ⟨h0,by omega,h2⟩;unfold M.fd;rw [←hr,show (r*r == n)=false from by simp;omega];simp
theorem M.rD {n:Int} (h:n<0):M.fd n=false:=by
 unfold M.fd;rw [show decide (0≤n)=false from by simp;omega];rfl
theorem po (x r:Nat) (h:FloatKind.f64.format.sqrt x=some r) (W:World):(callFunc 196 #[.float .f64 x]).run Tryz.prog W=.ok (.value (.float .f64 r)) W:=by
 rw [run_callFunc_extern Tryz.func196 (by kernel_rfl) (by kernel_rfl) (by kernel_rfl) (e:=Extern.MathSqrt.sqrt) (by kernel_rfl)]
 have e:(Extern.MathSqrt.sqrt #[.float .f64 x]).run Tryz.prog W=.ok (.float .f64 r) W:=by
  change Sem.run Tryz.prog (match FloatKind.f64.format.sqrt x with
   | some r=>pure (Value.float .f64 r)
   | none=>do pure (Value.float .f64 (←choose (.nanBits .f64 x x)))) W=_
  rw [h];rfl
 rw [e];rfl
theorem t7 (x r:Nat) (h:FloatKind.f64.format.sqrt x=some r) (w:World) :
  Calls Tryz.prog 175 #[.float .f64 x] w fun e w'=>e=.returned (.float .f64 r)∧w=w':=by
 have hd:=po x r h;go_enter Tryz.func175,Tryz.ntmps175
 go_wp2;go_ret;exact ⟨rfl,rfl⟩
noncomputable def M.rt (n:Int):Int:=if M.fd n then M.root n else 0
theorem M.kY {n r:Int} (h0:0≤r) (h:r*r=n):M.rt n=r:=by
 unfold M.rt;rw [M.gF h,if_pos rfl,←h];exact M.oQ h0
theorem M.rW {n:Int} (h:M.fd n=false):M.rt n=0:=by
 unfold M.rt;rw [h];rfl
theorem f8 (n:Int) (w:World) (h1:n≤8000000000000) :
  Calls Tryz.prog 144 #[.int .i64 n] w fun e w'=>e=.returned (.tuple #[.int .i64 (M.rt n),.bool (M.fd n)])∧w=w':=by
 by_cases h0:n<0
 ·have hz:=M.rD h0
  have hv:=M.rW hz;go_enter Tryz.func144,Tryz.ntmps144
  go_wp2;go_ret2;exact ⟨by rw [hz,hv];rfl,rfl⟩
 obtain ⟨r,hs,R,hR,R0,R1⟩:=nF (n:=n) (by omega) h1
 have hc:=fun W=>run_convert_float_int (P:=Tryz.prog) W 164 3 .f64 .i64 r R (by kernel_rfl) (by kernel_rfl) hR
 have hs':FloatKind.f64.format.sqrt (floatOfInt .f64 n)=some r:=hs
 have hcall:=fun W=>t7 (floatOfInt .f64 n) r hs' W
 clear hs hs' hR;have HH:=wM hcall;clear hcall;go_enter Tryz.func144,Tryz.ntmps144
 go_wp2_with (go_at_call 175;refine (HH.out _).mono ?_;rintro e w' ⟨rfl,rfl⟩)
 go_loop [4] (fun vr=>∃ a:Int,vr=.int .i64 a∧0≤a∧a≤8388608) (fun vr=>(intOf vr).toNat)
 case atStart=>exact ⟨R,rfl,R0,R1⟩
 case round=>
 obtain ⟨a,rfl,a0,a1⟩:=hrel;have hb:=M.ge (x:=a) (y:=a) (m:=8388608) (n:=8388608) a0 a1 a0 a1
 by_cases c:n<a*a
 ·have ha:1≤a:=by
   rcases Int.lt_or_le a 1 with q | q
   ·obtain rfl:a=0:=by omega
    simp at c
    omega
   exact q
  go_wp2
  go_round
  case rel=>exact ⟨a - 1,rfl,by omega,by omega⟩
  case measure=>simp [intOf];omega
 clear HH hc;go_wp2
 go_loop [4] (fun vr=>∃ a:Int,vr=.int .i64 a∧0≤a∧a≤8388608∧a*a≤n) (fun vr=>(8388608 - intOf vr).toNat)
 case atStart=>exact ⟨a,rfl,a0,a1,by omega⟩
 case round=>
 obtain ⟨b,rfl,b0,b1,b2⟩:=hrel;have hbb:=M.ge (x:=b+1) (y:=b+1) (m:=8388609) (n:=8388609) (by omega) (by omega) (by omega) (by omega);have hb3:=M.ge (x:=b) (y:=b) (m:=8388608) (n:=8388608) b0 b1 b0 b1
 by_cases d:(b+1)*(b+1)≤n
 ·have hlt:b+1<8388608:=by
   rcases Int.lt_or_le (b+1) 8388608 with q | q
   ·exact q
   have:=Int.mul_le_mul q q (by omega) (by omega);omega
  go_wp2
  go_round
  case rel=>exact ⟨b+1,rfl,by omega,by omega,d⟩
  case measure=>simp [intOf];omega
 by_cases f:b*b=n
 ·have hz:=M.gF f
  have hv:=M.kY b0 f;go_wp2;go_ret2
  first | (rw [hz,hv];exact ⟨rfl,rfl⟩) | (rw [hv];exact ⟨rfl,rfl⟩) | (rw [hv];rfl) | exact ⟨rfl,rfl⟩ | rfl
 have hz:=M.sp (n:=n) b0 (by omega) (by omega);have hv:=M.rW hz;go_wp2;go_ret2
 first | (rw [hz,hv];exact ⟨rfl,rfl⟩) | (rw [hv];exact ⟨rfl,rfl⟩) | (rw [hv];rfl) | exact ⟨rfl,rfl⟩ | rfl
namespace M
theorem pS {t b:Int} (hb:b<0):bc t b=bc (-t) (-b)∧bR t b=bR (-t) (-b):=by
 have hg:M.gcd (-t) (-b)=M.gcd t b:=by unfold M.gcd;rw [Int.gcd_neg,Int.neg_gcd]
 rw [dh hb,dg hb,cf (by omega),ce (by omega),hg,Int.neg_tdiv,Int.neg_tdiv];exact ⟨rfl,rfl⟩
theorem fJ {t b:Int} (hb:b≠0):b*bc t b=t*bR t b∧0<bR t b∧Int.gcd (bc t b) (bR t b)=1:=by
 rcases Int.lt_or_gt_of_ne hb with h | h
 ·obtain ⟨e1,e2⟩:=pS (t:=t) h
  obtain ⟨k1,k2,k3⟩:=kR (t:=-t) (b:=-b) (by omega);rw [e1,e2];refine ⟨?_,k2,k3⟩;rw [Int.neg_mul,Int.neg_mul] at k1;omega
 exact kR h
theorem fZ {t b:Int} (hb:b≠0):(bc t b).natAbs≤t.natAbs∧(bR t b).natAbs≤b.natAbs:=by
 obtain ⟨k1,k2,k3⟩:=fJ (t:=t) hb
 have d1:bR t b ∣ b:=by
  have:bR t b ∣ bc t b*b:=⟨t,by rw [Int.mul_comm,k1,Int.mul_comm]⟩
  have h:=Int.dvd_gcd_mul_iff_dvd_mul.2 this;rw [Int.gcd_comm,k3] at h
  simpa using h
 have d2:bc t b ∣ t:=by
  have:bc t b ∣ bR t b*t:=⟨b,by rw [Int.mul_comm,←k1,Int.mul_comm]⟩
  have h:=Int.dvd_gcd_mul_iff_dvd_mul.2 this;rw [k3] at h
  simpa using h
 refine ⟨?_,Nat.le_of_dvd (by omega) (Int.natAbs_dvd_natAbs.2 d1)⟩
 by_cases ht:t=0
 ·subst ht
  have:b*bc 0 b=0:=by rw [k1];simp
  rcases Int.mul_eq_zero.1 this with h | h
  ·exact absurd h hb
  rw [h];simp
 exact Nat.le_of_dvd (by omega) (Int.natAbs_dvd_natAbs.2 d2)
theorem oW {a X1 Y1 E1 X2 Y2 E2:Int} (h:sD X1 Y1 E1 X2 Y2 E2≠0):yW a X1 Y1 E1 X2 Y2 E2*sD X1 Y1 E1 X2 Y2 E2=yK a X1 Y1 E1 X2 Y2 E2*sN a X1 Y1 E1 X2 Y2 E2∧0<yK a X1 Y1 E1 X2 Y2 E2∧Int.gcd (yW a X1 Y1 E1 X2 Y2 E2) (yK a X1 Y1 E1 X2 Y2 E2)=1∧(yW a X1 Y1 E1 X2 Y2 E2).natAbs≤(sN a X1 Y1 E1 X2 Y2 E2).natAbs∧(yK a X1 Y1 E1 X2 Y2 E2).natAbs≤(sD X1 Y1 E1 X2 Y2 E2).natAbs:=by
 unfold yW yK;rw [if_neg h,if_neg h];obtain ⟨k1,k2,k3⟩:=fJ (t:=sN a X1 Y1 E1 X2 Y2 E2) h;obtain ⟨k4,k5⟩:=fZ (t:=sN a X1 Y1 E1 X2 Y2 E2) h;exact ⟨by rw [Int.mul_comm,k1,Int.mul_comm],k2,k3,k4,k5⟩
theorem k9 {n m X1 E1 X2 E2:Int} (hm:m≠0) (he1:1≤E1) (he2:E1≤20) (AZ:1≤E2) (Ay:E2≤20) (hx1:X1≤10000) (hx2:X2≤10000) (hg:Int.gcd n m=1) (h:dj n m X1 E1 X2 E2=true):(m.natAbs:Int)≤8000∧(n.natAbs:Int)≤200*(m.natAbs:Int):=by
 obtain ⟨k1,k2,k3,k4,k5,k6⟩:=nO hm (by omega) (by omega) h;refine ⟨?_,ju (rf he1 AZ k1 hx1 hx2 k4 k6)⟩;have hd:=pm hg k6;generalize yl n m X1 E1 X2 E2=e at *;have p1:=M.aK (x:=E1) (y:=E2) (m:=20) (n:=20) (by omega) (by omega) (by omega) (by omega);have p2:=M.aK (x:=E1*E2) (y:=e) (m:=400) (n:=20) (by omega) (by omega) (by omega) (by omega);have p3:0<E1*E2*e:=Int.mul_pos (Int.mul_pos (by omega) (by omega)) (by omega);have:=Nat.le_of_dvd (by omega) (Int.natAbs_dvd_natAbs.2 hd);omega
theorem vI {a b X1 Y1 E1 X2 Y2 E2 n m:Int} (h1:Y1*Y1=cv a b X1 E1) (h2:Y2*Y2=cv a b X2 E2) (he1:E1≠0) (he2:E2≠0) (hm:m≠0) (hs:n*sD X1 Y1 E1 X2 Y2 E2=m*sN a X1 Y1 E1 X2 Y2 E2) (hd:sD X1 Y1 E1 X2 Y2 E2≠0) (h:dj n m X1 E1 X2 E2=true) :
  yl n m X1 E1 X2 E2*eO n m X1 Y1 E1 (Ai n m X1 E1 X2 E2) (yl n m X1 E1 X2 E2)=m*E1*E1*E1*CU n m X1 Y1 E1 X2 E2∧CU n m X1 Y1 E1 X2 E2*CU n m X1 Y1 E1 X2 E2=cv a b (Ai n m X1 E1 X2 E2) (yl n m X1 E1 X2 E2):=by
 obtain ⟨k1,k2,k3,k4,k5,k6⟩:=nO hm he1 he2 h;obtain ⟨y,hy1,hy2⟩:=tU h1 h2 he1 he2 hm hs hd k6
 have:CU n m X1 Y1 E1 X2 E2=y:=by
  unfold CU;rw [hy1];exact Int.mul_ediv_cancel_left y (Int.mul_ne_zero (Int.mul_ne_zero (Int.mul_ne_zero hm he1) he1) he1)
 rw [this];exact ⟨hy1,hy2⟩
theorem wE {n d X1 Y1 E1 x e Y up under y bottom:Int} (hd:0<d) (he1:0<E1) (he:0<e) (hY:e*eO n d X1 Y1 E1 x e=d*E1*E1*E1*Y) (k1:d*(E1*E1)*e*e*up=n*(X1*e*e - x*(E1*E1))*under) (ku:0<under) (k2:under*(E1*E1)*E1*y=(up*(E1*E1)*E1 - Y1*under)*bottom) (kb:0<bottom) (kg:Int.gcd y bottom=1):y*(e*e*e).tdiv bottom=Y:=by
 have q1:(d*E1*E1*E1*under*E1*E1)*(e*e*e*y)=(d*E1*E1*E1*under*E1*E1)*(Y*bottom):=by
  unfold eO at hY
  have s1:(d*E1*E1*E1*under*E1*E1)*(e*e*e*y)=d*E1*E1*e*e*e*(under*(E1*E1)*E1*y):=by clear hY k1 k2;grind
  have s2:d*E1*E1*e*e*e*((up*(E1*E1)*E1 - Y1*under)*bottom)=e*bottom*E1*E1*E1*(d*(E1*E1)*e*e*up) - d*E1*E1*e*e*e*Y1*under*bottom:=by clear hY k1 k2 s1;grind
  have s3:e*bottom*E1*E1*E1*(n*(X1*e*e - x*(E1*E1))*under) - d*E1*E1*e*e*e*Y1*under*bottom=bottom*under*E1*E1*(e*(n*(X1*e*e - x*E1*E1)*E1 - Y1*d*e*e)):=by clear hY k1 k2 s1 s2;grind
  rw [s1,k2,s2,k1,s3,hY];clear hY k1 k2 s1 s2 s3
  grind
 have q2:e*e*e*y=Y*bottom:=di (by
                            repeat' apply Int.mul_ne_zero
                            all_goals omega) q1
 have q3:bottom ∣ y*(e*e*e):=⟨Y,by rw [Int.mul_comm y,q2,Int.mul_comm]⟩
 have q4:=Int.dvd_gcd_mul_iff_dvd_mul.2 q3;rw [Int.gcd_comm,kg] at q4
 obtain ⟨k,hk⟩:=(by simpa using q4:bottom ∣ e*e*e)
 rw [hk,Int.mul_tdiv_cancel_left k (by omega)];rw [hk] at q2
 apply di (show bottom≠0 by omega)
 rw [Int.mul_comm bottom Y,←q2];clear q1 q2 q3 q4 hk hY k1 k2
 grind
theorem ug {m E1 e s Y r:Int} (hm:m≠0) (he1:0<E1) (he:0<e) (hY:e*s=m*E1*E1*E1*Y) (hr:0≤r) (h:r*r=Y*Y):(if decide (s<0) != decide (m<0) then -r else r)=Y:=by
 have hE:0<E1*E1*E1:=Int.mul_pos (Int.mul_pos he1 he1) he1
 have hY2:e*s=E1*E1*E1*(m*Y):=by rw [hY];clear hY h;grind
 have hr2:r=Y∨r=-Y:=by
  have:(r - Y)*(r+Y)=0:=by clear hY hY2;grind
  rcases Int.mul_eq_zero.1 this with h | h
  ·left;omega
  right;omega
 have hs1:s<0 ↔ m*Y<0:=by
  constructor
  ·intro q
   rcases Int.lt_or_le (m*Y) 0 with p | p
   ·exact p
   have a1:=Int.mul_nonneg (show 0≤E1*E1*E1 by omega) p;have a2:=Int.mul_neg_of_pos_of_neg he q;omega
  intro q
  rcases Int.lt_or_le s 0 with p | p
  ·exact p
  have a1:=Int.mul_nonneg (show 0≤e by omega) p;have a2:=Int.mul_neg_of_pos_of_neg hE q;omega
 have hs2:decide (s<0)=decide (m*Y<0):=by simpa using hs1
 rw [hs2];clear hY hY2 hs2 hs1 h
 rcases Int.lt_or_gt_of_ne hm with q | q
 ·rw [decide_eq_true q]
  rcases Int.lt_trichotomy Y 0 with p | p | p
  ·rw [decide_eq_false (by have:=Int.mul_pos_of_neg_of_neg q p;omega)]
   simp;omega
  ·subst p;rw [Int.mul_zero];simp;omega
  rw [decide_eq_true (Int.mul_neg_of_neg_of_pos q p)];simp;omega
 rw [decide_eq_false (show ¬ m<0 by omega)]
 rcases Int.lt_trichotomy Y 0 with p | p | p
 ·rw [decide_eq_true (Int.mul_neg_of_pos_of_neg q p)]
  simp;omega
 ·subst p;rw [Int.mul_zero];simp;omega
 rw [decide_eq_false (by have:=Int.mul_pos q p;omega)];simp;omega
end M
namespace M
noncomputable def ft (a X1 Y1 E1 X2 Y2 E2:Int):Bool:=if sD X1 Y1 E1 X2 Y2 E2=0 then true else dj (yW a X1 Y1 E1 X2 Y2 E2) (yK a X1 Y1 E1 X2 Y2 E2) X1 E1 X2 E2
noncomputable def Aj (a X1 Y1 E1 X2 Y2 E2:Int):Int:=if sD X1 Y1 E1 X2 Y2 E2=0 then 0 else if dj (yW a X1 Y1 E1 X2 Y2 E2) (yK a X1 Y1 E1 X2 Y2 E2) X1 E1 X2 E2 then Ai (yW a X1 Y1 E1 X2 Y2 E2) (yK a X1 Y1 E1 X2 Y2 E2) X1 E1 X2 E2 else 0
noncomputable def Ax (a X1 Y1 E1 X2 Y2 E2:Int):Int:=if sD X1 Y1 E1 X2 Y2 E2=0 then 0 else if dj (yW a X1 Y1 E1 X2 Y2 E2) (yK a X1 Y1 E1 X2 Y2 E2) X1 E1 X2 E2 then CU (yW a X1 Y1 E1 X2 Y2 E2) (yK a X1 Y1 E1 X2 Y2 E2) X1 Y1 E1 X2 E2 else 0
noncomputable def zk (a X1 Y1 E1 X2 Y2 E2:Int):Int:=if sD X1 Y1 E1 X2 Y2 E2=0 then 0 else if dj (yW a X1 Y1 E1 X2 Y2 E2) (yK a X1 Y1 E1 X2 Y2 E2) X1 E1 X2 E2 then yl (yW a X1 Y1 E1 X2 Y2 E2) (yK a X1 Y1 E1 X2 Y2 E2) X1 E1 X2 E2 else 0
theorem tX (n d X1 E1 X2 E2:Int):n*n*(E1*E1)*(E2*E2) - X1*d*d*(E2*E2) - X2*d*d*(E1*E1)=top n d X1 E1 X2 E2:=by unfold top;grind
theorem sa (d E1 E2:Int):d*d*(E1*E1)*(E2*E2)=bot d E1 E2:=by unfold bot;grind
theorem oY {Y:Int} (h:Y*Y≤4000000000000):-2000000≤Y∧Y≤2000000:=by
 refine ⟨Int.not_lt.1 fun q=>?_,Int.not_lt.1 fun q=>?_⟩
 ·have:=Int.mul_le_mul_of_nonneg_left (show (2000001:Int)≤-Y by omega) (show 0≤-Y by omega)
  have e:-Y*-Y=Y*Y:=Int.neg_mul_neg Y Y;rw [e] at this;omega
 have:=Int.mul_le_mul_of_nonneg_left (show (2000001:Int)≤Y by omega) (show 0≤Y by omega);omega
theorem dS {x b:Int} (hx:0≤x) (hb:0<b):0≤x.tdiv b∧x.tdiv b≤x:=by
 rw [Int.tdiv_eq_ediv_of_nonneg hx];exact ⟨Int.ediv_nonneg hx (by omega),Int.ediv_le_self _ hx⟩
end M
theorem mr (a b X1 Y1 E1 X2 Y2 E2:Int) (w:World) (ha1:-1000≤a) (ha2:a≤1000) (hx1:-10000≤X1) (hx2:X1≤10000) (hy1:-3000000≤Y1) (hy2:Y1≤3000000) (he1:1≤E1) (he2:E1≤20) (hx3:-10000≤X2) (hx4:X2≤10000) (hy3:-3000000≤Y2) (hy4:Y2≤3000000) (AZ:1≤E2) (Ay:E2≤20) (hb1:-10000≤b) (hb2:b≤10000) (hc1:Y1*Y1=M.cv a b X1 E1) (hc2:Y2*Y2=M.cv a b X2 E2) :
  Calls Tryz.prog 92 #[.agg #[.int .i64 a,.int .i64 b],.agg #[.int .i64 X1,.int .i64 Y1,.int .i64 E1],.agg #[.int .i64 X2,.int .i64 Y2,.int .i64 E2]] w fun e w'=>e=.returned (.tuple #[.agg #[.int .i64 (M.Aj a X1 Y1 E1 X2 Y2 E2),.int .i64 (M.Ax a X1 Y1 E1 X2 Y2 E2),.int .i64 (M.zk a X1 Y1 E1 X2 Y2 E2)],.bool (M.ft a X1 Y1 E1 X2 Y2 E2)])∧Below w.heap.size w w':=by
 have PS:=fun W=>ph a b X1 Y1 E1 X2 Y2 E2 W ha1 ha2 hx1 hx2 hy1 hy2 he1 he2 hx3 hx4 hy3 hy4 AZ Ay
 have hE1:(E1 == 0)=false:=by rw [beq_eq_false_iff_ne];omega
 have hE2:(E2 == 0)=false:=by rw [beq_eq_false_iff_ne];omega
 by_cases h0:M.sD X1 Y1 E1 X2 Y2 E2=0
 ·have e1:M.yW a X1 Y1 E1 X2 Y2 E2=1:=if_pos h0
  have e2:M.yK a X1 Y1 E1 X2 Y2 E2=0:=if_pos h0;have hf:=wM (show M.Aj a X1 Y1 E1 X2 Y2 E2=0∧M.Ax a X1 Y1 E1 X2 Y2 E2=0∧M.zk a X1 Y1 E1 X2 Y2 E2=0∧M.ft a X1 Y1 E1 X2 Y2 E2=true from ⟨if_pos h0,if_pos h0,if_pos h0,if_pos h0⟩);rw [e1,e2] at PS;rw [hf.out.1,hf.out.2.1,hf.out.2.2.1,hf.out.2.2.2];clear e1 e2 hf h0 hc1 hc2;have PS:=wM PS;have C:=(((aH.new w #[.int .i64 a,.int .i64 b] 25).alloc (.cells #[.int .i64 X1,.int .i64 Y1,.int .i64 E1] 27)).alloc (.cells #[.int .i64 X2,.int .i64 Y2,.int .i64 E2] 27)).alloc (.cells #[.int .i64 0,.int .i64 0,.int .i64 0] 27);have Q:=((aH.new (w.alloc (.cells #[.int .i64 a,.int .i64 b] 25)) #[.int .i64 X1,.int .i64 Y1,.int .i64 E1] 27).alloc (.cells #[.int .i64 X2,.int .i64 Y2,.int .i64 E2] 27)).alloc (.cells #[.int .i64 0,.int .i64 0,.int .i64 0] 27);rw [wN] at Q;have U:=(aH.new ((w.alloc (.cells #[.int .i64 a,.int .i64 b] 25)).alloc (.cells #[.int .i64 X1,.int .i64 Y1,.int .i64 E1] 27)) #[.int .i64 X2,.int .i64 Y2,.int .i64 E2] 27).alloc (.cells #[.int .i64 0,.int .i64 0,.int .i64 0] 27);rw [wN,wN] at U;have R:=aH.new (((w.alloc (.cells #[.int .i64 a,.int .i64 b] 25)).alloc (.cells #[.int .i64 X1,.int .i64 Y1,.int .i64 E1] 27)).alloc (.cells #[.int .i64 X2,.int .i64 Y2,.int .i64 E2] 27)) #[.int .i64 0,.int .i64 0,.int .i64 0] 27;rw [wN,wN,wN] at R;have B:=((((wP w.heap.size w).alloc (wQ _) (.cells #[.int .i64 a,.int .i64 b] 25)).alloc (by rw [wN];omega) (.cells #[.int .i64 X1,.int .i64 Y1,.int .i64 E1] 27)).alloc (by rw [wN,wN];omega) (.cells #[.int .i64 X2,.int .i64 Y2,.int .i64 E2] 27)).alloc (by rw [wN,wN,wN];omega) (.cells #[.int .i64 0,.int .i64 0,.int .i64 0] 27);generalize hw3:(((w.alloc (.cells #[.int .i64 a,.int .i64 b] 25)).alloc (.cells #[.int .i64 X1,.int .i64 Y1,.int .i64 E1] 27)).alloc (.cells #[.int .i64 X2,.int .i64 Y2,.int .i64 E2] 27)).alloc (.cells #[.int .i64 0,.int .i64 0,.int .i64 0] 27)=wc at *;have ⟨q0,q1,q2⟩:=Q.aO;have ⟨u0,u1,u2⟩:=U.aO;have f_:=C.box.c0;have g_:=C.box.c1;have ⟨r0,r1,r2⟩:=R.aO;go_enter Tryz.func92,Tryz.ntmps92
  go_wp2_with (go_at_call 148;(with_reducible refine (PS.out _).mono ?_);rintro e w4 ⟨rfl,hb4⟩;replace B:=d_ B hb4;replace R:=R.keep hb4;(obtain ⟨r0,r1,r2⟩:=R.aO);have f0:=R.xB 0;have f1:=R.xB 1;have f2:=R.xB 2;have rl:=R.lt)
  exact bodyPost_ret (v:=.tuple #[.agg #[.int .i64 0,.int .i64 0,.int .i64 0],.bool true]) (by simp [results,Tryz.results92,go_sem, *]) rfl (⟨rfl,wO (wO (wO B (by simp;omega) _) (by simp;omega) _) (by simp;omega) _⟩)
 have hsb:=M.un (a:=a) ha1 ha2 hx1 hx2 hy1 hy2 he1 he2 hx3 hx4 hy3 hy4 AZ Ay;obtain ⟨hs,hd0,hg,hn,hdd⟩:=M.oW (a:=a) h0
 have g1:=show M.Aj a X1 Y1 E1 X2 Y2 E2=_ from if_neg h0
 have g2:=show M.Ax a X1 Y1 E1 X2 Y2 E2=_ from if_neg h0
 have g3:=show M.zk a X1 Y1 E1 X2 Y2 E2=_ from if_neg h0
 have g4:=show M.ft a X1 Y1 E1 X2 Y2 E2=_ from if_neg h0
 rw [g1,g2,g3,g4];clear g1 g2 g3 g4;generalize M.yK a X1 Y1 E1 X2 Y2 E2=d,M.yW a X1 Y1 E1 X2 Y2 E2=n at *
 have hn1:-200000000000≤n∧n≤200000000000:=by omega
 have hd1:d≤200000000000:=by omega
 have hbd:=fun (k:M.dj n d X1 E1 X2 E2=true)=>M.k9 (n:=n) (m:=d) (by omega) he1 he2 AZ Ay hx2 hx4 hg k
 have Ap:=fun (k:M.dj n d X1 E1 X2 E2=true)=>M.vI hc1 hc2 (by omega) (by omega) (by omega) hs h0 k
 have hii:=fun (k:M.dj n d X1 E1 X2 E2=true)=>M.nO (by omega) (by omega) (by omega) k
 clear hsb hn hdd hs h0 hc1 hc2 hg
 by_cases hbig:8000<d∨200*d<(n.natAbs:Int)
 ·have hk:M.dj n d X1 E1 X2 E2=false:=by
   cases hq:M.dj n d X1 E1 X2 E2
   ·rfl
   have:=hbd hq;omega
  rw [hk];clear hbd Ap hii hk;have hz:=wM (show (if false=true then M.Ai n d X1 E1 X2 E2 else 0)=0∧(if false=true then M.CU n d X1 Y1 E1 X2 E2 else 0)=0∧(if false=true then M.yl n d X1 E1 X2 E2 else 0)=0 from ⟨rfl,rfl,rfl⟩);rw [hz.out.1,hz.out.2.1,hz.out.2.2];clear hz
  have PA:=fun W=>cm n W (by omega) (by omega)
  have hh:decide (200*d<(n.natAbs:Int))=true∨8000<d:=by rcases hbig with h | h;exact Or.inr h;exact Or.inl (decide_eq_true h)
  have hnn:(n.natAbs:Int)≤200000000000:=by omega
  generalize (n.natAbs:Int)=na at *;have PS:=wM PS;have PA:=wM PA;have C:=(((aH.new w #[.int .i64 a,.int .i64 b] 25).alloc (.cells #[.int .i64 X1,.int .i64 Y1,.int .i64 E1] 27)).alloc (.cells #[.int .i64 X2,.int .i64 Y2,.int .i64 E2] 27)).alloc (.cells #[.int .i64 0,.int .i64 0,.int .i64 0] 27);have Q:=((aH.new (w.alloc (.cells #[.int .i64 a,.int .i64 b] 25)) #[.int .i64 X1,.int .i64 Y1,.int .i64 E1] 27).alloc (.cells #[.int .i64 X2,.int .i64 Y2,.int .i64 E2] 27)).alloc (.cells #[.int .i64 0,.int .i64 0,.int .i64 0] 27);rw [wN] at Q;have U:=(aH.new ((w.alloc (.cells #[.int .i64 a,.int .i64 b] 25)).alloc (.cells #[.int .i64 X1,.int .i64 Y1,.int .i64 E1] 27)) #[.int .i64 X2,.int .i64 Y2,.int .i64 E2] 27).alloc (.cells #[.int .i64 0,.int .i64 0,.int .i64 0] 27);rw [wN,wN] at U;have R:=aH.new (((w.alloc (.cells #[.int .i64 a,.int .i64 b] 25)).alloc (.cells #[.int .i64 X1,.int .i64 Y1,.int .i64 E1] 27)).alloc (.cells #[.int .i64 X2,.int .i64 Y2,.int .i64 E2] 27)) #[.int .i64 0,.int .i64 0,.int .i64 0] 27;rw [wN,wN,wN] at R;have B:=((((wP w.heap.size w).alloc (wQ _) (.cells #[.int .i64 a,.int .i64 b] 25)).alloc (by rw [wN];omega) (.cells #[.int .i64 X1,.int .i64 Y1,.int .i64 E1] 27)).alloc (by rw [wN,wN];omega) (.cells #[.int .i64 X2,.int .i64 Y2,.int .i64 E2] 27)).alloc (by rw [wN,wN,wN];omega) (.cells #[.int .i64 0,.int .i64 0,.int .i64 0] 27);generalize hw3:(((w.alloc (.cells #[.int .i64 a,.int .i64 b] 25)).alloc (.cells #[.int .i64 X1,.int .i64 Y1,.int .i64 E1] 27)).alloc (.cells #[.int .i64 X2,.int .i64 Y2,.int .i64 E2] 27)).alloc (.cells #[.int .i64 0,.int .i64 0,.int .i64 0] 27)=wc at *;have ⟨q0,q1,q2⟩:=Q.aO;have ⟨u0,u1,u2⟩:=U.aO;have f_:=C.box.c0;have g_:=C.box.c1;have ⟨r0,r1,r2⟩:=R.aO
  by_cases h8:8000<d
  ·clear hh hbig
   go_enter Tryz.func92,Tryz.ntmps92
   go_wp2_with first | (go_at_call 148;(with_reducible refine (PS.out _).mono ?_);rintro e w4 ⟨rfl,hb4⟩;replace B:=d_ B hb4;replace R:=R.keep hb4;(obtain ⟨r0,r1,r2⟩:=R.aO);have f0:=R.xB 0;have f1:=R.xB 1;have f2:=R.xB 2;have rl:=R.lt) | (go_at_call 131;(with_reducible refine (PA.out _).mono ?_);rintro e w5 ⟨rfl,rfl⟩)
   exact bodyPost_ret (v:=.tuple #[.agg #[.int .i64 0,.int .i64 0,.int .i64 0],.bool false]) (by simp [results,Tryz.results92,go_sem, *]) rfl (⟨rfl,wO (wO (wO B (by simp;omega) _) (by simp;omega) _) (by simp;omega) _⟩)
  have h9:200*d<na:=by omega
  clear hh hbig;go_enter Tryz.func92,Tryz.ntmps92
  go_wp2_with first | (go_at_call 148;(with_reducible refine (PS.out _).mono ?_);rintro e w4 ⟨rfl,hb4⟩;replace B:=d_ B hb4;replace R:=R.keep hb4;(obtain ⟨r0,r1,r2⟩:=R.aO);have f0:=R.xB 0;have f1:=R.xB 1;have f2:=R.xB 2;have rl:=R.lt) | (go_at_call 131;(with_reducible refine (PA.out _).mono ?_);rintro e w5 ⟨rfl,rfl⟩)
  exact bodyPost_ret (v:=.tuple #[.agg #[.int .i64 0,.int .i64 0,.int .i64 0],.bool false]) (by simp [results,Tryz.results92,go_sem, *]) rfl (⟨rfl,wO (wO (wO B (by simp;omega) _) (by simp;omega) _) (by simp;omega) _⟩)
 have EC:d≤8000:=by omega
 have hn8:-1600000≤n∧n≤1600000:=by omega
 have hna:(n.natAbs:Int)≤200*d:=by omega
 have PA:=fun W=>cm n W (by omega) (by omega)
 have hnn:(n.natAbs:Int)≤1600000:=by omega
 have sb1:=M.aK (x:=n) (y:=n) (m:=1600000) (n:=1600000) (by omega) (by omega) (by omega) (by omega);have IM:=M.aK (x:=E1) (y:=E1) (m:=20) (n:=20) (by omega) (by omega) (by omega) (by omega);have IP:=M.aK (x:=n*n) (y:=E1*E1) (m:=2560000000000) (n:=400) (by omega) (by omega) (by omega) (by omega);have IQ:=M.aK (x:=E2) (y:=E2) (m:=20) (n:=20) (by omega) (by omega) (by omega) (by omega);have IR:=M.aK (x:=n*n*(E1*E1)) (y:=E2*E2) (m:=1024000000000000) (n:=400) (by omega) (by omega) (by omega) (by omega);have IU:=M.aK (x:=X1) (y:=d) (m:=10000) (n:=8000) (by omega) (by omega) (by omega) (by omega);have IV:=M.aK (x:=X1*d) (y:=d) (m:=80000000) (n:=8000) (by omega) (by omega) (by omega) (by omega);have IW:=M.aK (x:=X1*d*d) (y:=E2*E2) (m:=640000000000) (n:=400) (by omega) (by omega) (by omega) (by omega);have IX:=M.aK (x:=X2) (y:=d) (m:=10000) (n:=8000) (by omega) (by omega) (by omega) (by omega);have Dy:=M.aK (x:=X2*d) (y:=d) (m:=80000000) (n:=8000) (by omega) (by omega) (by omega) (by omega);have Dz:=M.aK (x:=X2*d*d) (y:=E1*E1) (m:=640000000000) (n:=400) (by omega) (by omega) (by omega) (by omega);have D1:=M.aK (x:=d) (y:=d) (m:=8000) (n:=8000) (by omega) (by omega) (by omega) (by omega);have D2:=M.aK (x:=d*d) (y:=E1*E1) (m:=64000000) (n:=400) (by omega) (by omega) (by omega) (by omega);have D3:=M.aK (x:=d*d*(E1*E1)) (y:=E2*E2) (m:=25600000000) (n:=400) (by omega) (by omega) (by omega) (by omega);have ht:n*n*(E1*E1)*(E2*E2) - X1*d*d*(E2*E2) - X2*d*d*(E1*E1)=M.top n d X1 E1 X2 E2:=M.tX ..;have hb:d*d*(E1*E1)*(E2*E2)=M.bot d E1 E2:=M.sa ..;have hbp:0<M.bot d E1 E2:=M.iQ (by omega) (by omega) (by omega)
 have PE:=fun W=>f7 (n*n*(E1*E1)*(E2*E2) - X1*d*d*(E2*E2) - X2*d*d*(E1*E1)) (d*d*(E1*E1)*(E2*E2)) W (by omega) (by omega) (by omega) (by omega) (by omega)
 have hpx:bc (n*n*(E1*E1)*(E2*E2) - X1*d*d*(E2*E2) - X2*d*d*(E1*E1)) (d*d*(E1*E1)*(E2*E2))=M.Ai n d X1 E1 X2 E2:=by rw [ht,hb];rfl
 have H8:bR (n*n*(E1*E1)*(E2*E2) - X1*d*d*(E2*E2) - X2*d*d*(E1*E1)) (d*d*(E1*E1)*(E2*E2))=bR (M.top n d X1 E1 X2 E2) (M.bot d E1 E2):=by rw [ht,hb]
 rw [hpx,H8] at PE;have hF:=M.fZ (t:=M.top n d X1 E1 X2 E2) (b:=M.bot d E1 E2) (by omega);have hF0:=(M.fJ (t:=M.top n d X1 E1 X2 E2) (b:=M.bot d E1 E2) (by omega)).2.1;have hxs:(M.Ai n d X1 E1 X2 E2).natAbs≤(M.top n d X1 E1 X2 E2).natAbs:=hF.1;have hR:=M.fb (show 0≤bR (M.top n d X1 E1 X2 E2) (M.bot d E1 E2) by omega)
 have PR:=fun W=>qw (bR (M.top n d X1 E1 X2 E2) (M.bot d E1 E2)) W (by omega) (by omega)
 have hre:M.root (bR (M.top n d X1 E1 X2 E2) (M.bot d E1 E2))=M.yl n d X1 E1 X2 E2:=rfl;rw [hre] at PR hR;have hok:M.dj n d X1 E1 X2 E2=(decide (M.yl n d X1 E1 X2 E2*M.yl n d X1 E1 X2 E2=bR (M.top n d X1 E1 X2 E2) (M.bot d E1 E2)) && decide (M.yl n d X1 E1 X2 E2≤20) && M.ins (M.Ai n d X1 E1 X2 E2) (-10000) 10000):=rfl
 have PI:=fun W=>dE (M.Ai n d X1 E1 X2 E2) (-10000) 10000 W
 have hF1:bR (M.top n d X1 E1 X2 E2) (M.bot d E1 E2)≤11000000000000:=by omega
 have hF2:M.yl n d X1 E1 X2 E2*M.yl n d X1 E1 X2 E2≤11000000000000:=Int.le_trans hR.2.1 hF1;clear hF hF0 hxs hre hbp hpx H8 ht hb hbd hna;generalize ID:M.Ai n d X1 E1 X2 E2=x at *;generalize hee:M.yl n d X1 E1 X2 E2=e at *;generalize bR (M.top n d X1 E1 X2 E2) (M.bot d E1 E2)=F at *;obtain ⟨R0,R1,R2⟩:=hR;clear R2;have R3:0≤e*e:=Int.mul_nonneg R0 R0;have PS:=wM PS;have PA:=wM PA;have PE:=wM PE;have PR:=wM PR;generalize (n.natAbs:Int)=na at *;have hfz:=wM (show (if false=true then x else 0)=0∧(if false=true then M.CU n d X1 Y1 E1 X2 E2 else 0)=0∧(if false=true then e else 0)=0 from ⟨rfl,rfl,rfl⟩)
 by_cases c1:e*e=F
 ·subst c1
  clear R1 hF1;have R4:=hF2
  by_cases c2:e≤20
  ·cases c3:M.ins x (-10000) 10000
   ·have hk:M.dj n d X1 E1 X2 E2=false:=by rw [hok,c3,Bool.and_false]
    rw [hk,hfz.out.1,hfz.out.2.1,hfz.out.2.2];clear hk hfz hok Ap hii;rw [c3] at PI;have PI:=wM PI;have C:=(((aH.new w #[.int .i64 a,.int .i64 b] 25).alloc (.cells #[.int .i64 X1,.int .i64 Y1,.int .i64 E1] 27)).alloc (.cells #[.int .i64 X2,.int .i64 Y2,.int .i64 E2] 27)).alloc (.cells #[.int .i64 0,.int .i64 0,.int .i64 0] 27);have Q:=((aH.new (w.alloc (.cells #[.int .i64 a,.int .i64 b] 25)) #[.int .i64 X1,.int .i64 Y1,.int .i64 E1] 27).alloc (.cells #[.int .i64 X2,.int .i64 Y2,.int .i64 E2] 27)).alloc (.cells #[.int .i64 0,.int .i64 0,.int .i64 0] 27);rw [wN] at Q;have U:=(aH.new ((w.alloc (.cells #[.int .i64 a,.int .i64 b] 25)).alloc (.cells #[.int .i64 X1,.int .i64 Y1,.int .i64 E1] 27)) #[.int .i64 X2,.int .i64 Y2,.int .i64 E2] 27).alloc (.cells #[.int .i64 0,.int .i64 0,.int .i64 0] 27);rw [wN,wN] at U;have R:=aH.new (((w.alloc (.cells #[.int .i64 a,.int .i64 b] 25)).alloc (.cells #[.int .i64 X1,.int .i64 Y1,.int .i64 E1] 27)).alloc (.cells #[.int .i64 X2,.int .i64 Y2,.int .i64 E2] 27)) #[.int .i64 0,.int .i64 0,.int .i64 0] 27;rw [wN,wN,wN] at R;have B:=((((wP w.heap.size w).alloc (wQ _) (.cells #[.int .i64 a,.int .i64 b] 25)).alloc (by rw [wN];omega) (.cells #[.int .i64 X1,.int .i64 Y1,.int .i64 E1] 27)).alloc (by rw [wN,wN];omega) (.cells #[.int .i64 X2,.int .i64 Y2,.int .i64 E2] 27)).alloc (by rw [wN,wN,wN];omega) (.cells #[.int .i64 0,.int .i64 0,.int .i64 0] 27);generalize hw3:(((w.alloc (.cells #[.int .i64 a,.int .i64 b] 25)).alloc (.cells #[.int .i64 X1,.int .i64 Y1,.int .i64 E1] 27)).alloc (.cells #[.int .i64 X2,.int .i64 Y2,.int .i64 E2] 27)).alloc (.cells #[.int .i64 0,.int .i64 0,.int .i64 0] 27)=wc at *;have ⟨q0,q1,q2⟩:=Q.aO;have ⟨u0,u1,u2⟩:=U.aO;have f_:=C.box.c0;have g_:=C.box.c1;have ⟨r0,r1,r2⟩:=R.aO;go_enter Tryz.func92,Tryz.ntmps92
    go_wp2_with first | (go_at_call 148;(with_reducible refine (PS.out _).mono ?_);rintro e w4 ⟨rfl,hb4⟩;replace B:=d_ B hb4;replace R:=R.keep hb4;replace Q:=Q.keep hb4;replace U:=U.keep hb4;replace C:=C.keep hb4;(obtain ⟨q0,q1,q2⟩:=Q.aO);(obtain ⟨u0,u1,u2⟩:=U.aO);(obtain ⟨r0,r1,r2⟩:=R.aO);have f0:=R.xB 0;have f1:=R.xB 1;have f2:=R.xB 2;have rl:=R.lt) | (go_at_call 131;(with_reducible refine (PA.out _).mono ?_);rintro e w5 ⟨rfl,rfl⟩)
    go_region
    all_goals
     go_wp2_with first | (go_at_call 149;(with_reducible refine (PE.out _).mono ?_);rintro e w6 ⟨rfl,hb6⟩;replace B:=B.trans ((aM (wP w4.heap.size w4) 1).mono B.size);replace R:=R.drew;replace Q:=Q.drew;replace U:=U.drew;replace C:=C.drew;replace B:=d_ B hb6;replace R:=R.keep hb6;replace Q:=Q.keep hb6;replace U:=U.keep hb6;replace C:=C.keep hb6;(obtain ⟨q0,q1,q2⟩:=Q.aO);(obtain ⟨u0,u1,u2⟩:=U.aO);(obtain ⟨r0,r1,r2⟩:=R.aO);have f0:=R.xB 0;have f1:=R.xB 1;have f2:=R.xB 2;have rl:=R.lt) | (go_at_call 150;(with_reducible refine (PR.out _).mono ?_);rintro e w7 ⟨rfl,rfl⟩) | (go_at_call 78;(with_reducible refine (PI.out _).mono ?_);rintro e w8 ⟨rfl,rfl⟩)
     exact bodyPost_ret (v:=.tuple #[.agg #[.int .i64 0,.int .i64 0,.int .i64 0],.bool false]) (by simp [results,Tryz.results92,go_sem, *]) rfl (⟨rfl,wO (wO (wO B (by simp;omega) _) (by simp;omega) _) (by simp;omega) _⟩)
   have hk:M.dj n d X1 E1 X2 E2=true:=by rw [hok,c3,decide_eq_true c2,decide_eq_true rfl];rfl
   rw [c3] at PI;have PI:=wM PI;clear hok;obtain ⟨i1,i2,i3,i4,i5,i6⟩:=hii hk;obtain ⟨y1,y2⟩:=Ap hk;rw [hk];have hft:=wM (show (if true=true then x else 0)=x∧(if true=true then M.CU n d X1 Y1 E1 X2 E2 else 0)=M.CU n d X1 Y1 E1 X2 E2∧(if true=true then e else 0)=e from ⟨rfl,rfl,rfl⟩);rw [hft.out.1,hft.out.2.1,hft.out.2.2];clear hft hfz Ap hii hk i5 i6;generalize M.CU n d X1 Y1 E1 X2 E2=Y at *;have hcv:=M.lN (a:=a) (b:=b) (x:=x) (e:=e) ha1 ha2 hb1 hb2 i3 i4 (by omega) i2;have hYb:-2000000≤Y∧Y≤2000000:=M.oY (by omega);clear hcv y2;have D4:=M.aK (x:=X1) (y:=e) (m:=10000) (n:=20) (by omega) (by omega) (by omega) (by omega);have D5:=M.aK (x:=X1*e) (y:=e) (m:=200000) (n:=20) (by omega) (by omega) (by omega) (by omega);have Fd:=M.aK (x:=x) (y:=E1*E1) (m:=10000) (n:=400) (by omega) (by omega) (by omega) (by omega);have Fe:=M.aK (x:=n) (y:=X1*e*e - x*(E1*E1)) (m:=1600000) (n:=8000000) (by omega) (by omega) (by omega) (by omega);have Ff:=M.aK (x:=d) (y:=E1*E1) (m:=8000) (n:=400) (by omega) (by omega) (by omega) (by omega);have Fg:=M.aK (x:=d*(E1*E1)) (y:=e) (m:=3200000) (n:=20) (by omega) (by omega) (by omega) (by omega);have Fh:=M.aK (x:=d*(E1*E1)*e) (y:=e) (m:=64000000) (n:=20) (by omega) (by omega) (by omega) (by omega);have p1:0<d*(E1*E1)*e*e:=Int.mul_pos (Int.mul_pos (Int.mul_pos hd0 (Int.mul_pos (by omega) (by omega))) (by omega)) (by omega)
   have P2:=fun W=>f7 (n*(X1*e*e - x*(E1*E1))) (d*(E1*E1)*e*e) W (by omega) (by omega) (by omega) (by omega) (by omega)
   have s1:=M.fZ (t:=n*(X1*e*e - x*(E1*E1))) (b:=d*(E1*E1)*e*e) (by omega);have a1:=M.fJ (t:=n*(X1*e*e - x*(E1*E1))) (b:=d*(E1*E1)*e*e) (by omega);generalize bR (n*(X1*e*e - x*(E1*E1))) (d*(E1*E1)*e*e)=under,bc (n*(X1*e*e - x*(E1*E1))) (d*(E1*E1)*e*e)=up at *
   have s2:-12800000000000≤up∧up≤12800000000000:=by omega
   have s3:under≤1280000000:=by omega
   obtain ⟨a1,a2,a3⟩:=a1;clear s1 a3;have Fi:=M.aK (x:=up) (y:=E1*E1) (m:=12800000000000) (n:=400) (by omega) (by omega) (by omega) (by omega);have Fj:=M.aK (x:=up*(E1*E1)) (y:=E1) (m:=5120000000000000) (n:=20) (by omega) (by omega) (by omega) (by omega);have Fk:=M.aK (x:=Y1) (y:=under) (m:=3000000) (n:=1280000000) (by omega) (by omega) (by omega) (by omega);have Fl:=M.aK (x:=under) (y:=E1*E1) (m:=1280000000) (n:=400) (by omega) (by omega) (by omega) (by omega);have Fm:=M.aK (x:=under*(E1*E1)) (y:=E1) (m:=512000000000) (n:=20) (by omega) (by omega) (by omega) (by omega);have p2:0<under*(E1*E1)*E1:=Int.mul_pos (Int.mul_pos a2 (Int.mul_pos (by omega) (by omega))) (by omega)
   have P3:=fun W=>f7 (up*(E1*E1)*E1 - Y1*under) (under*(E1*E1)*E1) W (by omega) (by omega) (by omega) (by omega) (by omega)
   have s1:=M.fZ (t:=up*(E1*E1)*E1 - Y1*under) (b:=under*(E1*E1)*E1) (by omega);have a3:=M.fJ (t:=up*(E1*E1)*E1 - Y1*under) (b:=under*(E1*E1)*E1) (by omega);generalize bR (up*(E1*E1)*E1 - Y1*under) (under*(E1*E1)*E1)=bottom,bc (up*(E1*E1)*E1 - Y1*under) (under*(E1*E1)*E1)=y at *;obtain ⟨a3,a4,a5⟩:=a3;have hY:=M.wE hd0 (by omega) (by omega) y1 a1 a2 a3 a4 a5
   have s4:bottom≤10240000000000:=by omega
   clear a1 a3 a5 y1 s1;have Fn:=M.aK (x:=e) (y:=e) (m:=20) (n:=20) (by omega) (by omega) (by omega) (by omega);have HK:=M.aK (x:=e*e) (y:=e) (m:=400) (n:=20) (by omega) (by omega) (by omega) (by omega);have ee:0≤e*e*e:=Int.mul_nonneg R3 R0;have hq:=M.dS ee a4
   have hb0:bottom≠0:=by omega
   have hb1_:(bottom == 0)=false:=by rw [beq_eq_false_iff_ne];omega
   have P2:=wM P2;have P3:=wM P3;have hY:=wM hY
   have hyb2:-2000000≤y*(e*e*e).tdiv bottom∧y*(e*e*e).tdiv bottom≤2000000:=by rw [hY.out];exact hYb
   have C:=(((aH.new w #[.int .i64 a,.int .i64 b] 25).alloc (.cells #[.int .i64 X1,.int .i64 Y1,.int .i64 E1] 27)).alloc (.cells #[.int .i64 X2,.int .i64 Y2,.int .i64 E2] 27)).alloc (.cells #[.int .i64 0,.int .i64 0,.int .i64 0] 27);have Q:=((aH.new (w.alloc (.cells #[.int .i64 a,.int .i64 b] 25)) #[.int .i64 X1,.int .i64 Y1,.int .i64 E1] 27).alloc (.cells #[.int .i64 X2,.int .i64 Y2,.int .i64 E2] 27)).alloc (.cells #[.int .i64 0,.int .i64 0,.int .i64 0] 27);rw [wN] at Q;have U:=(aH.new ((w.alloc (.cells #[.int .i64 a,.int .i64 b] 25)).alloc (.cells #[.int .i64 X1,.int .i64 Y1,.int .i64 E1] 27)) #[.int .i64 X2,.int .i64 Y2,.int .i64 E2] 27).alloc (.cells #[.int .i64 0,.int .i64 0,.int .i64 0] 27);rw [wN,wN] at U;have R:=aH.new (((w.alloc (.cells #[.int .i64 a,.int .i64 b] 25)).alloc (.cells #[.int .i64 X1,.int .i64 Y1,.int .i64 E1] 27)).alloc (.cells #[.int .i64 X2,.int .i64 Y2,.int .i64 E2] 27)) #[.int .i64 0,.int .i64 0,.int .i64 0] 27;rw [wN,wN,wN] at R;have B:=((((wP w.heap.size w).alloc (wQ _) (.cells #[.int .i64 a,.int .i64 b] 25)).alloc (by rw [wN];omega) (.cells #[.int .i64 X1,.int .i64 Y1,.int .i64 E1] 27)).alloc (by rw [wN,wN];omega) (.cells #[.int .i64 X2,.int .i64 Y2,.int .i64 E2] 27)).alloc (by rw [wN,wN,wN];omega) (.cells #[.int .i64 0,.int .i64 0,.int .i64 0] 27);generalize hw3:(((w.alloc (.cells #[.int .i64 a,.int .i64 b] 25)).alloc (.cells #[.int .i64 X1,.int .i64 Y1,.int .i64 E1] 27)).alloc (.cells #[.int .i64 X2,.int .i64 Y2,.int .i64 E2] 27)).alloc (.cells #[.int .i64 0,.int .i64 0,.int .i64 0] 27)=wc at *;have ⟨q0,q1,q2⟩:=Q.aO;have ⟨u0,u1,u2⟩:=U.aO;have f_:=C.box.c0;have g_:=C.box.c1;have ⟨r0,r1,r2⟩:=R.aO;go_enter Tryz.func92,Tryz.ntmps92
   go_wp2_with first | (go_at_call 148;(with_reducible refine (PS.out _).mono ?_);rintro e w4 ⟨rfl,hb4⟩;replace B:=d_ B hb4;replace R:=R.keep hb4;replace Q:=Q.keep hb4;replace U:=U.keep hb4;replace C:=C.keep hb4;(obtain ⟨q0,q1,q2⟩:=Q.aO);(obtain ⟨u0,u1,u2⟩:=U.aO);(obtain ⟨r0,r1,r2⟩:=R.aO);have f0:=R.xB 0;have f1:=R.xB 1;have f2:=R.xB 2;have rl:=R.lt) | (go_at_call 131;(with_reducible refine (PA.out _).mono ?_);rintro e w5 ⟨rfl,rfl⟩)
   go_region
   all_goals
    go_wp2_with first | (go_at_call 149;(with_reducible refine (PE.out _).mono ?_);rintro e w6 ⟨rfl,hb6⟩;replace B:=B.trans ((aM (wP w4.heap.size w4) 1).mono B.size);replace R:=R.drew;replace Q:=Q.drew;replace U:=U.drew;replace C:=C.drew;replace B:=d_ B hb6;replace R:=R.keep hb6;replace Q:=Q.keep hb6;replace U:=U.keep hb6;replace C:=C.keep hb6;(obtain ⟨q0,q1,q2⟩:=Q.aO);(obtain ⟨u0,u1,u2⟩:=U.aO);(obtain ⟨r0,r1,r2⟩:=R.aO);have f0:=R.xB 0;have f1:=R.xB 1;have f2:=R.xB 2;have rl:=R.lt) | (go_at_call 150;(with_reducible refine (PR.out _).mono ?_);rintro e w7 ⟨rfl,rfl⟩) | (go_at_call 78;(with_reducible refine (PI.out _).mono ?_);rintro e w8 ⟨rfl,rfl⟩) | (go_at_call 149;(with_reducible refine (P2.out _).mono ?_);rintro e w9 ⟨rfl,xA⟩;replace B:=d_ B xA;replace R:=R.keep xA;replace Q:=Q.keep xA;replace U:=U.keep xA;replace C:=C.keep xA;(obtain ⟨q0,q1,q2⟩:=Q.aO);(obtain ⟨u0,u1,u2⟩:=U.aO);(obtain ⟨r0,r1,r2⟩:=R.aO);have f0:=R.xB 0;have f1:=R.xB 1;have f2:=R.xB 2;have rl:=R.lt) | (go_at_call 149;(with_reducible refine (P3.out _).mono ?_);rintro e wa ⟨rfl,hba⟩;replace B:=d_ B hba;replace R:=R.keep hba;replace Q:=Q.keep hba;replace U:=U.keep hba;replace C:=C.keep hba;(obtain ⟨q0,q1,q2⟩:=Q.aO);(obtain ⟨u0,u1,u2⟩:=U.aO);(obtain ⟨r0,r1,r2⟩:=R.aO);have f0:=R.xB 0;have f1:=R.xB 1;have f2:=R.xB 2;have rl:=R.lt)
    exact bodyPost_ret (v:=.tuple #[.agg #[.int .i64 x,.int .i64 (y*(e*e*e).tdiv bottom),.int .i64 e],.bool true]) (by simp [results,Tryz.results92,go_sem, *]) rfl (⟨by rw [hY.out],wO (wO (wO B (by simp;omega) _) (by simp;omega) _) (by simp;omega) _⟩)
  have hk:M.dj n d X1 E1 X2 E2=false:=by rw [hok,decide_eq_false c2,Bool.and_false];rfl
  rw [hk,hfz.out.1,hfz.out.2.1,hfz.out.2.2];clear hk hfz hok Ap hii;have PI:=wM PI
  have c4:20<e:=by omega
  clear c2;have C:=(((aH.new w #[.int .i64 a,.int .i64 b] 25).alloc (.cells #[.int .i64 X1,.int .i64 Y1,.int .i64 E1] 27)).alloc (.cells #[.int .i64 X2,.int .i64 Y2,.int .i64 E2] 27)).alloc (.cells #[.int .i64 0,.int .i64 0,.int .i64 0] 27);have Q:=((aH.new (w.alloc (.cells #[.int .i64 a,.int .i64 b] 25)) #[.int .i64 X1,.int .i64 Y1,.int .i64 E1] 27).alloc (.cells #[.int .i64 X2,.int .i64 Y2,.int .i64 E2] 27)).alloc (.cells #[.int .i64 0,.int .i64 0,.int .i64 0] 27);rw [wN] at Q;have U:=(aH.new ((w.alloc (.cells #[.int .i64 a,.int .i64 b] 25)).alloc (.cells #[.int .i64 X1,.int .i64 Y1,.int .i64 E1] 27)) #[.int .i64 X2,.int .i64 Y2,.int .i64 E2] 27).alloc (.cells #[.int .i64 0,.int .i64 0,.int .i64 0] 27);rw [wN,wN] at U;have R:=aH.new (((w.alloc (.cells #[.int .i64 a,.int .i64 b] 25)).alloc (.cells #[.int .i64 X1,.int .i64 Y1,.int .i64 E1] 27)).alloc (.cells #[.int .i64 X2,.int .i64 Y2,.int .i64 E2] 27)) #[.int .i64 0,.int .i64 0,.int .i64 0] 27;rw [wN,wN,wN] at R;have B:=((((wP w.heap.size w).alloc (wQ _) (.cells #[.int .i64 a,.int .i64 b] 25)).alloc (by rw [wN];omega) (.cells #[.int .i64 X1,.int .i64 Y1,.int .i64 E1] 27)).alloc (by rw [wN,wN];omega) (.cells #[.int .i64 X2,.int .i64 Y2,.int .i64 E2] 27)).alloc (by rw [wN,wN,wN];omega) (.cells #[.int .i64 0,.int .i64 0,.int .i64 0] 27);generalize hw3:(((w.alloc (.cells #[.int .i64 a,.int .i64 b] 25)).alloc (.cells #[.int .i64 X1,.int .i64 Y1,.int .i64 E1] 27)).alloc (.cells #[.int .i64 X2,.int .i64 Y2,.int .i64 E2] 27)).alloc (.cells #[.int .i64 0,.int .i64 0,.int .i64 0] 27)=wc at *;have ⟨q0,q1,q2⟩:=Q.aO;have ⟨u0,u1,u2⟩:=U.aO;have f_:=C.box.c0;have g_:=C.box.c1;have ⟨r0,r1,r2⟩:=R.aO;go_enter Tryz.func92,Tryz.ntmps92
  go_wp2_with first | (go_at_call 148;(with_reducible refine (PS.out _).mono ?_);rintro e w4 ⟨rfl,hb4⟩;replace B:=d_ B hb4;replace R:=R.keep hb4;replace Q:=Q.keep hb4;replace U:=U.keep hb4;replace C:=C.keep hb4;(obtain ⟨q0,q1,q2⟩:=Q.aO);(obtain ⟨u0,u1,u2⟩:=U.aO);(obtain ⟨r0,r1,r2⟩:=R.aO);have f0:=R.xB 0;have f1:=R.xB 1;have f2:=R.xB 2;have rl:=R.lt) | (go_at_call 131;(with_reducible refine (PA.out _).mono ?_);rintro e w5 ⟨rfl,rfl⟩)
  go_region
  all_goals
   go_wp2_with first | (go_at_call 149;(with_reducible refine (PE.out _).mono ?_);rintro e w6 ⟨rfl,hb6⟩;replace B:=B.trans ((aM (wP w4.heap.size w4) 1).mono B.size);replace R:=R.drew;replace Q:=Q.drew;replace U:=U.drew;replace C:=C.drew;replace B:=d_ B hb6;replace R:=R.keep hb6;replace Q:=Q.keep hb6;replace U:=U.keep hb6;replace C:=C.keep hb6;(obtain ⟨q0,q1,q2⟩:=Q.aO);(obtain ⟨u0,u1,u2⟩:=U.aO);(obtain ⟨r0,r1,r2⟩:=R.aO);have f0:=R.xB 0;have f1:=R.xB 1;have f2:=R.xB 2;have rl:=R.lt) | (go_at_call 150;(with_reducible refine (PR.out _).mono ?_);rintro e w7 ⟨rfl,rfl⟩) | (go_at_call 78;(with_reducible refine (PI.out _).mono ?_);rintro e w8 ⟨rfl,rfl⟩)
   exact bodyPost_ret (v:=.tuple #[.agg #[.int .i64 0,.int .i64 0,.int .i64 0],.bool false]) (by simp [results,Tryz.results92,go_sem, *]) rfl (⟨rfl,wO (wO (wO B (by simp;omega) _) (by simp;omega) _) (by simp;omega) _⟩)
 have hk:M.dj n d X1 E1 X2 E2=false:=by rw [hok,decide_eq_false c1];rfl
 rw [hk,hfz.out.1,hfz.out.2.1,hfz.out.2.2];clear hk hfz hok Ap hii;have PI:=wM PI;have c1b:(e*e == F)=false:=beq_eq_false_iff_ne.2 c1
 have c1c:(e*e != F)=true:=by simp [c1]
 have C:=(((aH.new w #[.int .i64 a,.int .i64 b] 25).alloc (.cells #[.int .i64 X1,.int .i64 Y1,.int .i64 E1] 27)).alloc (.cells #[.int .i64 X2,.int .i64 Y2,.int .i64 E2] 27)).alloc (.cells #[.int .i64 0,.int .i64 0,.int .i64 0] 27);have Q:=((aH.new (w.alloc (.cells #[.int .i64 a,.int .i64 b] 25)) #[.int .i64 X1,.int .i64 Y1,.int .i64 E1] 27).alloc (.cells #[.int .i64 X2,.int .i64 Y2,.int .i64 E2] 27)).alloc (.cells #[.int .i64 0,.int .i64 0,.int .i64 0] 27);rw [wN] at Q;have U:=(aH.new ((w.alloc (.cells #[.int .i64 a,.int .i64 b] 25)).alloc (.cells #[.int .i64 X1,.int .i64 Y1,.int .i64 E1] 27)) #[.int .i64 X2,.int .i64 Y2,.int .i64 E2] 27).alloc (.cells #[.int .i64 0,.int .i64 0,.int .i64 0] 27);rw [wN,wN] at U;have R:=aH.new (((w.alloc (.cells #[.int .i64 a,.int .i64 b] 25)).alloc (.cells #[.int .i64 X1,.int .i64 Y1,.int .i64 E1] 27)).alloc (.cells #[.int .i64 X2,.int .i64 Y2,.int .i64 E2] 27)) #[.int .i64 0,.int .i64 0,.int .i64 0] 27;rw [wN,wN,wN] at R;have B:=((((wP w.heap.size w).alloc (wQ _) (.cells #[.int .i64 a,.int .i64 b] 25)).alloc (by rw [wN];omega) (.cells #[.int .i64 X1,.int .i64 Y1,.int .i64 E1] 27)).alloc (by rw [wN,wN];omega) (.cells #[.int .i64 X2,.int .i64 Y2,.int .i64 E2] 27)).alloc (by rw [wN,wN,wN];omega) (.cells #[.int .i64 0,.int .i64 0,.int .i64 0] 27);generalize hw3:(((w.alloc (.cells #[.int .i64 a,.int .i64 b] 25)).alloc (.cells #[.int .i64 X1,.int .i64 Y1,.int .i64 E1] 27)).alloc (.cells #[.int .i64 X2,.int .i64 Y2,.int .i64 E2] 27)).alloc (.cells #[.int .i64 0,.int .i64 0,.int .i64 0] 27)=wc at *;have ⟨q0,q1,q2⟩:=Q.aO;have ⟨u0,u1,u2⟩:=U.aO;have f_:=C.box.c0;have g_:=C.box.c1;have ⟨r0,r1,r2⟩:=R.aO;go_enter Tryz.func92,Tryz.ntmps92
 go_wp2_with first | (go_at_call 148;(with_reducible refine (PS.out _).mono ?_);rintro e w4 ⟨rfl,hb4⟩;replace B:=d_ B hb4;replace R:=R.keep hb4;replace Q:=Q.keep hb4;replace U:=U.keep hb4;replace C:=C.keep hb4;(obtain ⟨q0,q1,q2⟩:=Q.aO);(obtain ⟨u0,u1,u2⟩:=U.aO);(obtain ⟨r0,r1,r2⟩:=R.aO);have f0:=R.xB 0;have f1:=R.xB 1;have f2:=R.xB 2;have rl:=R.lt) | (go_at_call 131;(with_reducible refine (PA.out _).mono ?_);rintro e w5 ⟨rfl,rfl⟩)
 go_region
 all_goals
  go_wp2_with first | (go_at_call 149;(with_reducible refine (PE.out _).mono ?_);rintro e w6 ⟨rfl,hb6⟩;replace B:=B.trans ((aM (wP w4.heap.size w4) 1).mono B.size);replace R:=R.drew;replace Q:=Q.drew;replace U:=U.drew;replace C:=C.drew;replace B:=d_ B hb6;replace R:=R.keep hb6;replace Q:=Q.keep hb6;replace U:=U.keep hb6;replace C:=C.keep hb6;(obtain ⟨q0,q1,q2⟩:=Q.aO);(obtain ⟨u0,u1,u2⟩:=U.aO);(obtain ⟨r0,r1,r2⟩:=R.aO);have f0:=R.xB 0;have f1:=R.xB 1;have f2:=R.xB 2;have rl:=R.lt) | (go_at_call 150;(with_reducible refine (PR.out _).mono ?_);rintro e w7 ⟨rfl,rfl⟩) | (go_at_call 78;(with_reducible refine (PI.out _).mono ?_);rintro e w8 ⟨rfl,rfl⟩)
  exact bodyPost_ret (v:=.tuple #[.agg #[.int .i64 0,.int .i64 0,.int .i64 0],.bool false]) (by simp [results,Tryz.results92,go_sem, *]) rfl (⟨rfl,wO (wO (wO B (by simp;omega) _) (by simp;omega) _) (by simp;omega) _⟩)
end
section
namespace M
theorem ny {a b X1 Y1 E1 X2 Y2 E2:Int} (h1:Y1*Y1=cv a b X1 E1) (h2:Y2*Y2=cv a b X2 E2) (he1:1≤E1) (he2:1≤E2) (g1:Int.gcd X1 E1=1) (g2:Int.gcd X2 E2=1):sD X1 Y1 E1 X2 Y2 E2=0 ↔ X1=X2∧Y1=-Y2∧E1=E2:=by
 have p1:0<E1*E1:=Int.mul_pos (by omega) (by omega);have p2:0<E2*E2:=Int.mul_pos (by omega) (by omega);unfold sD
 split
 ·rename_i h
  obtain ⟨rfl,rfl,rfl⟩:=h
  constructor
  ·intro h
   have:2*Y1=0:=(Int.mul_eq_zero.1 h).resolve_right (by omega);exact ⟨rfl,by omega,rfl⟩
  intro h
  have:Y1=0:=by omega
  rw [this];simp
 rename_i h
 constructor
 ·intro k
  have k1:X2*E1*E1 - X1*E2*E2=0:=(Int.mul_eq_zero.1 k).resolve_left (Int.mul_ne_zero (by omega) (by omega));have q1:=kQ (b:=E1*E1) (t:=X1) p1 p1 (kD.2 g1) (Int.mul_comm _ _);have q2:=kQ (b:=E1*E1) (t:=X1) p1 p2 (kD.2 g2) (show E1*E1*X2=X1*(E2*E2) by clear h1 h2 h;grind);have hX:X1=X2:=q1.1.symm.trans q2.1;have hE2:E1*E1=E2*E2:=q1.2.symm.trans q2.2
  have hE:E1=E2:=by
   have e:(E1 - E2)*(E1+E2)=0:=by clear h1 h2 h;grind
   have:=(Int.mul_eq_zero.1 e).resolve_right (by omega);omega
  subst hX;subst hE
  have e:(Y1 - Y2)*(Y1+Y2)=0:=by rw [←h2] at h1;clear h2 h;grind
  rcases Int.mul_eq_zero.1 e with q | q
  ·exact absurd ⟨rfl,by omega,rfl⟩ h
  exact ⟨rfl,by omega,rfl⟩
 rintro ⟨rfl,-,rfl⟩;simp
theorem vj {a X1 Y1 E1 X2 Y2 E2:Int} (h:sD X1 Y1 E1 X2 Y2 E2≠0):((sN a X1 Y1 E1 X2 Y2 E2).tdiv (M.gcd (sN a X1 Y1 E1 X2 Y2 E2) (sD X1 Y1 E1 X2 Y2 E2))=yW a X1 Y1 E1 X2 Y2 E2∧(sD X1 Y1 E1 X2 Y2 E2).tdiv (M.gcd (sN a X1 Y1 E1 X2 Y2 E2) (sD X1 Y1 E1 X2 Y2 E2))=yK a X1 Y1 E1 X2 Y2 E2)∨((sN a X1 Y1 E1 X2 Y2 E2).tdiv (M.gcd (sN a X1 Y1 E1 X2 Y2 E2) (sD X1 Y1 E1 X2 Y2 E2))=-yW a X1 Y1 E1 X2 Y2 E2∧(sD X1 Y1 E1 X2 Y2 E2).tdiv (M.gcd (sN a X1 Y1 E1 X2 Y2 E2) (sD X1 Y1 E1 X2 Y2 E2))=-yK a X1 Y1 E1 X2 Y2 E2):=by
 unfold yW yK bc bR;rw [if_neg h,if_neg h]
 split
 ·right;exact ⟨(Int.neg_neg _).symm,(Int.neg_neg _).symm⟩
 left;exact ⟨rfl,rfl⟩
theorem tW (n m X1 E1 X2 E2:Int):top (-n) (-m) X1 E1 X2 E2=top n m X1 E1 X2 E2:=by unfold top;grind
theorem sZ (m E1 E2:Int):bot (-m) E1 E2=bot m E1 E2:=by unfold bot;grind
theorem rb (n m X1 Y1 E1 x e:Int):eO (-n) (-m) X1 Y1 E1 x e=-eO n m X1 Y1 E1 x e:=by unfold eO;grind
theorem ni {a X1 Y1 E1 X2 Y2 E2:Int} (h0:sD X1 Y1 E1 X2 Y2 E2≠0) (hk:ft a X1 Y1 E1 X2 Y2 E2=false):Aj a X1 Y1 E1 X2 Y2 E2=0∧Ax a X1 Y1 E1 X2 Y2 E2=0∧zk a X1 Y1 E1 X2 Y2 E2=0:=by
 unfold ft at hk;rw [if_neg h0] at hk;unfold Aj Ax zk;rw [if_neg h0,if_neg h0,if_neg h0,hk];exact ⟨rfl,rfl,rfl⟩
theorem kC {a b X1 Y1 E1 X2 Y2 E2 n m:Int} (h1:Y1*Y1=cv a b X1 E1) (h2:Y2*Y2=cv a b X2 E2) (hx1:X1≤10000) (hx2:X2≤10000) (he1:1≤E1) (he2:E1≤20) (AZ:1≤E2) (Ay:E2≤20) (h0:sD X1 Y1 E1 X2 Y2 E2≠0)
  (hnm:(n=yW a X1 Y1 E1 X2 Y2 E2∧m=yK a X1 Y1 E1 X2 Y2 E2)∨(n=-yW a X1 Y1 E1 X2 Y2 E2∧m=-yK a X1 Y1 E1 X2 Y2 E2)) :
  m≠0∧(∀ x e,1≤e→e≤20→-10000≤x→x≤10000→Int.gcd x e=1→bot m E1 E2*x=top n m X1 E1 X2 E2*(e*e)→ft a X1 Y1 E1 X2 Y2 E2=true∧Aj a X1 Y1 E1 X2 Y2 E2=x∧zk a X1 Y1 E1 X2 Y2 E2=e)∧
  (ft a X1 Y1 E1 X2 Y2 E2=true→∀ X Y E,X=Aj a X1 Y1 E1 X2 Y2 E2→Y=Ax a X1 Y1 E1 X2 Y2 E2→E=zk a X1 Y1 E1 X2 Y2 E2→1≤E∧E≤20∧-10000≤X∧X≤10000∧Int.gcd X E=1∧bot m E1 E2*X=top n m X1 E1 X2 E2*(E*E)∧E*eO n m X1 Y1 E1 X E=m*E1*E1*E1*Y∧Y*Y=cv a b X E∧(m.natAbs:Int)≤8000∧(n.natAbs:Int)≤1600000):=by
 obtain ⟨hs,hd0,hg,-,-⟩:=oW (a:=a) h0
 have ht:top n m X1 E1 X2 E2=top (yW a X1 Y1 E1 X2 Y2 E2) (yK a X1 Y1 E1 X2 Y2 E2) X1 E1 X2 E2:=by
  rcases hnm with ⟨rfl,rfl⟩ | ⟨rfl,rfl⟩
  ·rfl
  exact tW ..
 have hb:bot m E1 E2=bot (yK a X1 Y1 E1 X2 Y2 E2) E1 E2:=by
  rcases hnm with ⟨rfl,rfl⟩ | ⟨rfl,rfl⟩
  ·rfl
  exact sZ ..
 have hm0:m≠0:=by omega
 have hna:m.natAbs=(yK a X1 Y1 E1 X2 Y2 E2).natAbs∧n.natAbs=(yW a X1 Y1 E1 X2 Y2 E2).natAbs:=by omega
 have hsd:∀ x e,(eO n m X1 Y1 E1 x e=eO (yW a X1 Y1 E1 X2 Y2 E2) (yK a X1 Y1 E1 X2 Y2 E2) X1 Y1 E1 x e∧m=yK a X1 Y1 E1 X2 Y2 E2)∨(eO n m X1 Y1 E1 x e=-eO (yW a X1 Y1 E1 X2 Y2 E2) (yK a X1 Y1 E1 X2 Y2 E2) X1 Y1 E1 x e∧m=-yK a X1 Y1 E1 X2 Y2 E2):=by
  intro x e
  rcases hnm with ⟨rfl,rfl⟩ | ⟨rfl,rfl⟩
  ·left;exact ⟨rfl,rfl⟩
  right;exact ⟨rb ..,rfl⟩
 clear hnm;rw [ht,hb,hna.1,hna.2];clear ht hb hna;unfold ft Aj Ax zk;rw [if_neg h0,if_neg h0,if_neg h0,if_neg h0]
 have hbd:=fun (k:dj (yW a X1 Y1 E1 X2 Y2 E2) (yK a X1 Y1 E1 X2 Y2 E2) X1 E1 X2 E2=true)=>k9 (by omega) he1 he2 AZ Ay hx1 hx2 hg k
 have Ap:=fun (k:dj (yW a X1 Y1 E1 X2 Y2 E2) (yK a X1 Y1 E1 X2 Y2 E2) X1 E1 X2 E2=true)=>vI h1 h2 (by omega) (by omega) (by omega) hs h0 k
 have hii:=fun (k:dj (yW a X1 Y1 E1 X2 Y2 E2) (yK a X1 Y1 E1 X2 Y2 E2) X1 E1 X2 E2=true)=>nO (by omega) (by omega) (by omega) k
 generalize yK a X1 Y1 E1 X2 Y2 E2=D,yW a X1 Y1 E1 X2 Y2 E2=N at *;refine ⟨hm0,?_,?_⟩
 ·intro x e q1 q2 q3 q4 q5 q6
  obtain ⟨k1,k2,k3⟩:=uB (by omega) (by omega) (by omega) q1 q2 q3 q4 q5 q6;rw [k1];exact ⟨rfl,k2,k3⟩
 intro k X Y E eX eY eE;rw [if_pos k] at eX eY eE;obtain ⟨i1,i2,i3,i4,i5,i6⟩:=hii k;obtain ⟨y1,y2⟩:=Ap k;obtain ⟨b1,b2⟩:=hbd k;rw [←eX,←eE] at i5 i6;rw [←eX,←eE,←eY] at y1 y2;rw [←eE] at i1 i2;rw [←eX] at i3 i4;refine ⟨i1,i2,i3,i4,i5,i6,?_,y2,b1,by omega⟩
 rcases hsd X E with ⟨s1,s2⟩ | ⟨s1,s2⟩
 ·rw [s1,s2,y1]
 rw [s1,s2,Int.mul_neg,y1];clear hsd hbd Ap hii
 grind
end M
end
end Go.Proofs.YtggekfbfechonaaGreat
