/-
  Joined texts: contracts and plain lemmas.
-/
import Derived.Test.YtggekfbfechonaaGreatY1
import Derived.Test.YtggekfbfechonaaGreatY9
import Derived.Deep.DeepCutAuto
import Derived.Deep.RegionWith
import Derived.Test.YtggekfbfechonaaGreatY5
set_option linter.unusedSimpArgs false
set_option linter.unusedVariables false
set_option maxRecDepth 100000
set_option maxHeartbeats 8000000
namespace Go.Proofs.YtggekfbfechonaaGreat
section
open Go.RowKit
namespace M
noncomputable def yB (n d:Int):Option (Int × Int):=if CY n d then some (br n d,bX n d) else none
def fN (r:Option (Int × Int)):Int:=(r.getD (0,0)).1
def fD (r:Option (Int × Int)):Int:=(r.getD (0,0)).2
theorem rM (n d:Int):(.tuple #[.agg #[.int .i64 (M.pick (CY (n) (d)) (br (n) (d))),.int .i64 (M.pick (CY (n) (d)) (bX (n) (d)))],.bool (CY (n) (d))]:Value)=.tuple #[.agg #[.int .i64 (fN (yB n d)),.int .i64 (fD (yB n d))],.bool (yB n d).isSome]:=by
 unfold yB
 cases h:CY n d <;> simp [M.fe,M.bn,fN,fD]
theorem s9 {n d:Int} (h:gC n d=true):-1000000000≤n∧n≤1000000000∧1≤d∧d≤1000000000:=by
 unfold gC at h;simp only [Bool.and_eq_true] at h;have h1:=M.fH h.1.1;have h2:=M.fH h.1.2;omega
end M
theorem mO (n d:Int) (w:World) (h1:-4000000000000000000≤n) (h2:n≤4000000000000000000) (h3:-4000000000000000000≤d) (h4:d≤4000000000000000000) (h0:d≠0) :
  Calls Tryz.prog 79 #[.int .i64 n,.int .i64 d] w fun e w'=>e=.returned (.tuple #[.agg #[.int .i64 (M.fN (M.yB n d)),.int .i64 (M.fD (M.yB n d))],.bool (M.yB n d).isSome])∧Below w.heap.size w w':=by
 rw [←M.rM];exact rN n d w h1 h2 h3 h4 h0
theorem fb (n d:Int) (w:World) (h1:-4000000000000000000≤n) (h2:n≤4000000000000000000) (h3:-4000000000000000000≤d) (h4:d≤4000000000000000000) (h0:d≠0) :
  Calls Tryz.prog 74 #[.int .i64 n,.int .i64 d] w fun e w'=>e=.returned (.tuple #[.agg #[.int .i64 (M.fN (M.yB n d)),.int .i64 (M.fD (M.yB n d))],.bool (M.yB n d).isSome])∧Below w.heap.size w w':=by
 rw [←M.rM];exact jp n d w h1 h2 h3 h4 h0
namespace M
noncomputable def pn (a:Int):Int:=fN (yB a 4096)
noncomputable def pd (a:Int):Int:=fD (yB a 4096)
def aQ (lo hi:Int):Bool:=decide (lo≤hi) && decide (-409600000≤lo) && decide (hi≤409600000)
theorem b8 {lo hi:Int} (h:aQ lo hi=true):lo≤hi∧-409600000≤lo∧hi≤409600000:=by
 unfold aQ at h;simp only [Bool.and_eq_true,decide_eq_true_eq] at h;exact ⟨h.1.1,h.1.2,h.2⟩
theorem oj (a:Int):∃ g q n:Int,M.gcd a 4096=g∧1≤g∧g≤4096∧4096=g*q∧1≤q∧q≤4096∧a=n*g:=by
 have h1:(M.gcd a 4096) ∣ 4096:=Int.gcd_dvd_right ..;have h2:(M.gcd a 4096) ∣ a:=Int.gcd_dvd_left ..;have h3:=jJ (a:=a) (b:=4096) (by decide);obtain ⟨q,hq⟩:=h1;obtain ⟨n,hn⟩:=h2;generalize M.gcd a 4096=g at *
 have hq1:1≤q:=by
  rcases Int.lt_or_le q 1 with h | h
  ·have:=Int.mul_nonpos_of_nonneg_of_nonpos (a:=g) (b:=q) (by omega) (by omega)
   omega
  exact h
 have hg:g≤4096:=Int.le_of_dvd (by decide) ⟨q,hq⟩;have hq2:q≤4096:=Int.le_of_dvd (by decide) ⟨g,by rw [Int.mul_comm];exact hq⟩;exact ⟨g,q,n,rfl,by omega,hg,hq,hq1,hq2,by rw [hn,Int.mul_comm]⟩
theorem oh {a g q n:Int} (hg:M.gcd a 4096=g) (h1:1≤g) (hq:4096=g*q) (hn:a=n*g):yB a 4096=if gC n q then some (n,q) else none:=by
 have e1:br a 4096=n:=by rw [dB (by omega),hg,hn,Int.mul_tdiv_cancel _ (by omega)]
 have e2:bX a 4096=q:=by rw [dA (by omega),hg,hq,Int.mul_tdiv_cancel_left _ (by omega)]
 unfold yB CY;rw [e1,e2]
theorem eK {a:Int} (h:(yB a 4096).isSome=true):gC (pn a) (pd a)=true∧1≤pd a∧pd a≤4096∧(4096:Int) % pd a=0∧pn a*(4096 / pd a)=a∧1≤4096 / pd a∧4096 / pd a≤4096∧-1000000000≤pn a∧pn a≤1000000000:=by
 obtain ⟨g,q,n,hg,h1,h2,hq,h3,h4,hn⟩:=oj a;have hf:=oh hg h1 hq hn;unfold pn pd;rw [hf] at h ⊢
 split at h
 ·rename_i hok
  have hb:=s9 hok;rw [if_pos hok]
  show gC n q=true∧_
  have hdiv:(4096:Int) / q=g:=by rw [hq];exact Int.mul_ediv_cancel _ (by omega)
  refine ⟨hok,h3,h4,?_,?_,?_,?_,hb.1,hb.2.1⟩
  ·show (4096:Int) % q=0
   rw [hq];exact Int.mul_emod_left _ _
  ·show n*(4096 / q)=a
   rw [hdiv,hn]
  ·show 1≤(4096:Int) / q
   omega
  show (4096:Int) / q≤4096
  omega
 cases h
theorem bS {a:Int} (h1:-409600000≤a) (h2:a≤409600000):(yB a 4096).isSome=true:=by
 obtain ⟨g,q,n,hg,hg1,hg2,hq,h3,h4,hn⟩:=oj a;rw [oh hg hg1 hq hn]
 have hnb:-1000000000≤n∧n≤1000000000:=by
  constructor
  ·rcases Int.lt_or_le n (-1000000000) with h | h
   ·have:n*g≤n*1:=Int.mul_le_mul_of_nonpos_left (by omega) hg1
    omega
   exact h
  rcases Int.lt_or_le 1000000000 n with h | h
  ·have:n*1≤n*g:=Int.mul_le_mul_of_nonneg_left hg1 (by omega)
   omega
  exact h
 have Mp:M.gcd n q=1:=by
  have e1:M.gcd (n*g) (q*g)=M.gcd n q*g:=by
   unfold M.gcd;rw [Int.gcd_mul_right]
   have:(g.natAbs:Int)=g:=by omega
   rw [Int.natCast_mul,this]
  rw [←hn,Int.mul_comm q g,←hq,hg] at e1;have:=Int.eq_of_mul_eq_mul_right (a:=g) (b:=1) (c:=M.gcd n q) (by omega) (by omega);exact this.symm
 have hok:gC n q=true:=by
  unfold gC M.ins;rw [Mp];simp only [Bool.and_eq_true,decide_eq_true_eq];exact ⟨⟨by omega,hnb⟩,rfl⟩
 rw [if_pos hok];rfl
theorem uW {a:Int} (h:(yB a 4096).isSome=true):-4096000000000≤a∧a≤4096000000000:=by
 obtain ⟨-,-,-,-,h5,h6,h7,h8,h9⟩:=eK h;generalize 4096 / pd a=g at *;have:=aL (x:=pn a) (y:=g) (m:=1000000000) (n:=4096) (by omega) (by omega) (by omega) (by omega);omega
theorem oc {a b:Int} (hb:0<b) (h:a.tmod b<0):a.tdiv b - 1=a / b:=by
 have h1:=Int.mul_tdiv_add_tmod a b;have h2:=Int.lt_tmod_of_pos a hb;exact ((Int.ediv_emod_unique (r:=a.tmod b+b) hb).2 ⟨by rw [Int.mul_sub];omega,by omega,by omega⟩ |>.1).symm
theorem oZ {a b:Int} (hb:0<b) (h:¬ a.tmod b<0):a.tdiv b=a / b:=by
 have h1:=Int.mul_tdiv_add_tmod a b;have h2:=Int.tmod_lt_of_pos a hb;exact ((Int.ediv_emod_unique hb).2 ⟨by omega,by omega,h2⟩ |>.1).symm
end M
theorem iP (a b:Int) (w:World) (h1:-4000000000000000000≤a) (h2:a≤4000000000000000000) (hb:0<b) (hb2:b≤4000000000000000000) :
  Calls Tryz.prog 116 #[.int .i64 a,.int .i64 b] w fun e w'=>e=.returned (.int .i64 (a / b))∧w=w':=by
 have t1:=da (a:=a) (d:=b) h1 h2 (by omega);have m1:=Int.tmod_lt_of_pos a hb;have m2:=Int.lt_tmod_of_pos a hb;have hf:=M.oZ (a:=a) hb;have ht:=M.oc (a:=a) hb
 have hb0:¬ b=0:=by omega
 by_cases h:a.tmod b<0
 ·have ht2:=wH (ht h)
  clear hf ht;go_enter Tryz.func116,Tryz.ntmps116
  go_wp2;go_ret;exact ⟨by first | rfl | (rw [←ht2.out];rfl),rfl⟩
 have hf2:=wH (hf h);clear ht hf;go_enter Tryz.func116,Tryz.ntmps116
 go_wp2;go_ret;exact ⟨by first | rfl | (rw [←hf2.out];rfl),rfl⟩
theorem mM (a b:Int) (w:World) (h1:-4000000000000000000≤a) (h2:a≤4000000000000000000) (hb:0<b) (hb2:b≤4000000000000000000) :
  Calls Tryz.prog 162 #[.int .i64 a,.int .i64 b] w fun e w'=>e=.returned (.int .i64 (a / b))∧w=w':=by
 have t1:=da (a:=a) (d:=b) h1 h2 (by omega);have m1:=Int.tmod_lt_of_pos a hb;have m2:=Int.lt_tmod_of_pos a hb;have hf:=M.oZ (a:=a) hb;have ht:=M.oc (a:=a) hb
 have hb0:¬ b=0:=by omega
 have hb1:(b == 0)=false:=by rw [beq_eq_false_iff_ne];exact hb0
 by_cases h:a.tmod b<0
 ·have ht2:=wH (ht h)
  clear hf ht;go_enter Tryz.func162,Tryz.ntmps162
  go_wp2;go_ret;exact ⟨by first | rfl | (rw [←ht2.out];rfl),rfl⟩
 have hf2:=wH (hf h);clear ht hf;go_enter Tryz.func162,Tryz.ntmps162
 go_wp2;go_ret;exact ⟨by first | rfl | (rw [←hf2.out];rfl),rfl⟩
theorem eP {a b k:Int} (h1:-k≤a) (h2:a≤k) (hb:0<b) (hk:0≤k):-k≤a / b∧a / b≤k:=by
 have e1:=Int.mul_ediv_add_emod a b;have e2:=Int.emod_nonneg a (by omega:b≠0);have e3:=Int.emod_lt_of_pos a hb
 constructor
 ·rcases Int.lt_or_le (a / b) (-k) with h | h
  ·have:b*(a / b)≤b*(-k - 1):=Int.mul_le_mul_of_nonneg_left (by omega) (by omega)
   have h4:b*(-k - 1)≤1*(-k - 1):=Int.mul_le_mul_of_nonpos_right (by omega) (by omega)
   have h5:b*(-k - 1)=b*(-k) - b:=by rw [Int.mul_sub,Int.mul_one]
   have h6:b*(-k)≤1*(-k):=Int.mul_le_mul_of_nonpos_right (by omega) (by omega);omega
  exact h
 rcases Int.lt_or_le k (a / b) with h | h
 ·have h4:b*(k+1)≤b*(a / b):=Int.mul_le_mul_of_nonneg_left (by omega) (by omega)
  have h5:1*(k+1)≤b*(k+1):=Int.mul_le_mul_of_nonneg_right (by omega) (by omega);omega
 exact h
theorem ue (a b:Int) (w:World) (h1:-4000000000000000000≤a) (h2:a≤4000000000000000000) (hb:0<b) (hb2:b≤4000000000000000000) :
  Calls Tryz.prog 163 #[.int .i64 a,.int .i64 b] w fun e w'=>e=.returned (.int .i64 (-(-a / b)))∧w=w':=by
 have P:=fun W=>mM (-a) b W (by omega) (by omega) hb hb2
 have hq:=eP (a:=-a) (b:=b) (k:=4000000000000000000) (by omega) (by omega) hb (by omega);obtain ⟨q1,q2⟩:=hq;generalize -a / b=q at *;replace P:=wH P;go_enter Tryz.func163,Tryz.ntmps163
 go_wp2_with (go_at_call 162;(with_reducible refine (P.out _).mono ?_);rintro e w4 ⟨rfl,rfl⟩)
 go_ret;exact ⟨rfl,rfl⟩
theorem jN (lo hi:Int) (w:World) :
  Calls Tryz.prog 117 #[.agg #[.int .i64 lo,.int .i64 hi]] w fun e w'=>e=.returned (.bool (M.aQ lo hi))∧Below w.heap.size w w':=by
 unfold M.aQ
 by_cases h1:lo≤hi
 ·by_cases h2:-409600000≤lo
  ·by_cases h3:hi≤409600000
   all_goals
    go_enter Tryz.func117,Tryz.ntmps117
    go_wp2;go_ret;exact ⟨dT (by simp [h1,h2,h3]),(by repeat (first | exact wK _ _ | refine aV ?_ _ | refine aW ?_ (by assumption) | refine Below.drew ?_ | refine wJ ?_ (by first | exact wL _ | exact Nat.le_add_right _ _ | (simp <;> omega)) _ | refine aM ?_ _))⟩
  go_enter Tryz.func117,Tryz.ntmps117
  go_wp2;go_ret;exact ⟨dT (by simp [h1,h2] <;> omega),(by repeat (first | exact wK _ _ | refine aV ?_ _ | refine aW ?_ (by assumption) | refine Below.drew ?_ | refine wJ ?_ (by first | exact wL _ | exact Nat.le_add_right _ _ | (simp <;> omega)) _ | refine aM ?_ _))⟩
 go_enter Tryz.func117,Tryz.ntmps117
 go_wp2;go_ret;exact ⟨dT (by simp [h1] <;> omega),(by repeat (first | exact wK _ _ | refine aV ?_ _ | refine aW ?_ (by assumption) | refine Below.drew ?_ | refine wJ ?_ (by first | exact wL _ | exact Nat.le_add_right _ _ | (simp <;> omega)) _ | refine aM ?_ _))⟩
theorem mF (a b c d:Int) (w:World) :
  Calls Tryz.prog 65 #[.agg #[.int .i64 a,.int .i64 b],.agg #[.int .i64 c,.int .i64 d]] w fun e w'=>e=.returned (.agg #[.int .i64 (max a c),.int .i64 (min b d)])∧Below w.heap.size w w':=by
 go_enter Tryz.func65,Tryz.ntmps65
 go_wp2;exact bodyPost_ret (v:=.agg #[.int .i64 (max a c),.int .i64 (min b d)]) (by simp [results,Tryz.results65,go_sem, *]) rfl (⟨rfl,(by repeat (first | exact wK _ _ | refine aV ?_ _ | refine aW ?_ (by assumption) | refine Below.drew ?_ | refine wJ ?_ (by first | exact wL _ | exact Nat.le_add_right _ _ | (simp <;> omega)) _ | refine aM ?_ _))⟩)
theorem eu (lo hi:Int) (ok:Bool) (w:World) :
  Calls Tryz.prog 58 #[.agg #[.int .i64 lo,.int .i64 hi],.bool ok] w fun e w'=>e=.returned (.tuple #[.agg #[.int .i64 (M.pick (ok && M.aQ lo hi) (M.pn lo)),.int .i64 (M.pick (ok && M.aQ lo hi) (M.pd (lo))),.int .i64 (M.pick (ok && M.aQ lo hi) (M.pn (hi))),.int .i64 (M.pick (ok && M.aQ lo hi) (M.pd (hi)))],.bool (ok && M.aQ lo hi)])∧Below w.heap.size w w':=by
 have PV:=wH fun W=>jN lo hi W
 cases ok with
 | false=>
  go_enter Tryz.func58,Tryz.ntmps58
  go_wp2;exact bodyPost_ret (v:=.tuple #[.agg #[.int .i64 0,.int .i64 0,.int .i64 0,.int .i64 0],.bool false]) (by simp [results,Tryz.results58,go_sem, *]) rfl (⟨by simp [M.pick],(by repeat (first | exact wK _ _ | refine aV ?_ _ | refine aW ?_ (by assumption) | refine Below.drew ?_ | refine wJ ?_ (by first | exact wL _ | exact Nat.le_add_right _ _ | (simp <;> omega)) _ | refine aM ?_ _))⟩)
 | true=>
 cases hs:M.aQ lo hi with
 | false=>
  have Ea:=PV.out;rw [hs] at Ea;have Ea:=wH Ea;clear PV hs
  have R:=((aH.new (w.alloc (.cells #[.int .i64 lo,.int .i64 hi] 74)) #[.int .i64 0,.int .i64 0,.int .i64 0,.int .i64 0] 33))
  rw [wI] at R;have B:=((wK w.heap.size w).alloc (wL _) (.cells #[.int .i64 lo,.int .i64 hi] 74)).alloc (by rw [wI];omega) (.cells #[.int .i64 0,.int .i64 0,.int .i64 0,.int .i64 0] 33);go_enter Tryz.func58,Tryz.ntmps58
  go_wp2_with (go_at_call 117;(with_reducible refine (Ea.out _).mono ?_);rintro e w4 ⟨rfl,hb4⟩;have R2:=(R.keep hb4).aP;(have ⟨c0,c1,c2,c3,f0,f1,f2,f3,_⟩:=R2);have B4:=d_ B hb4)
  exact bodyPost_ret (v:=.tuple #[.agg #[.int .i64 0,.int .i64 0,.int .i64 0,.int .i64 0],.bool false]) (by simp [results,Tryz.results58,go_sem, *]) rfl (⟨by simp [M.pick],wJ (wJ (wJ (wJ B4 (by simp <;> omega) _) (by simp <;> omega) _) (by simp <;> omega) _) (by simp <;> omega) _⟩)
 | true=>
 obtain ⟨h1,h2,h3⟩:=M.b8 hs;have Ea:=PV.out;rw [hs] at Ea;have Ea:=wH Ea;clear PV hs
 have P1:=fun W=>fb lo 4096 W (by omega) (by omega) (by omega) (by omega) (by omega)
 have P2:=fun W=>fb hi 4096 W (by omega) (by omega) (by omega) (by omega) (by omega)
 have e1:=wH (show M.pn lo=M.fN (M.yB lo 4096) from rfl);have e2:=wH (show M.pd lo=M.fD (M.yB lo 4096) from rfl);have e3:=wH (show M.pn hi=M.fN (M.yB hi 4096) from rfl);have e4:=wH (show M.pd hi=M.fD (M.yB hi 4096) from rfl);generalize M.fD (M.yB hi 4096)=p4,M.fN (M.yB hi 4096)=p3,M.fD (M.yB lo 4096)=p2,M.fN (M.yB lo 4096)=p1,(M.yB hi 4096).isSome=o2,(M.yB lo 4096).isSome=o1 at *;replace P1:=wH P1;replace P2:=wH P2;have S:=(aH.new w #[.int .i64 lo,.int .i64 hi] 74).alloc (.cells #[.int .i64 0,.int .i64 0,.int .i64 0,.int .i64 0] 33)
 have R:=((aH.new (w.alloc (.cells #[.int .i64 lo,.int .i64 hi] 74)) #[.int .i64 0,.int .i64 0,.int .i64 0,.int .i64 0] 33))
 rw [wI] at R;have B:=((wK w.heap.size w).alloc (wL _) (.cells #[.int .i64 lo,.int .i64 hi] 74)).alloc (by rw [wI];omega) (.cells #[.int .i64 0,.int .i64 0,.int .i64 0,.int .i64 0] 33);generalize hw3:(w.alloc (.cells #[.int .i64 lo,.int .i64 hi] 74)).alloc (.cells #[.int .i64 0,.int .i64 0,.int .i64 0,.int .i64 0] 33)=wc at *;have AU:=S.box.c0;have AV:=S.box.c1;go_enter Tryz.func58,Tryz.ntmps58
 go_wp2_with (first
  | (go_at_call 117;(with_reducible refine (Ea.out _).mono ?_);rintro e w4 ⟨rfl,hb4⟩;replace S:=S.keep hb4;replace R:=R.keep hb4;replace B:=d_ B hb4;(replace ⟨AU,AV⟩:=S.b2);(replace ⟨wP,wQ,wU,wV,wM,wN,wT,wY⟩:=R.xJ))
  | (go_at_call 74;(with_reducible refine (P1.out _).mono ?_);rintro e w5 ⟨rfl,hb5⟩;replace S:=S.keep hb5;replace R:=R.keep hb5;replace B:=d_ B hb5;have F:=aH.new w5 #[.int .i64 p1,.int .i64 p2] 31;have b_:=bA w5 (.cells #[.int .i64 p1,.int .i64 p2] 31);replace S:=S.keep b_;replace R:=R.keep b_;replace B:=d_ B b_;clear b_;(replace ⟨AU,AV⟩:=S.b2);(replace ⟨wP,wQ,wU,wV,wM,wN,wT,wY⟩:=R.xJ);(replace ⟨AQ,AS⟩:=F.b2))
  | (go_at_call 74;(with_reducible refine (P2.out _).mono ?_);rintro e w6 ⟨rfl,hb6⟩;replace S:=S.keep hb6;replace R:=R.keep hb6;replace F:=F.keep hb6;replace B:=d_ B hb6;have G:=aH.new w6 #[.int .i64 p3,.int .i64 p4] 31;have b_:=bA w6 (.cells #[.int .i64 p3,.int .i64 p4] 31);replace S:=S.keep b_;replace R:=R.keep b_;replace F:=F.keep b_;replace B:=d_ B b_;clear b_;(replace ⟨AU,AV⟩:=S.b2);(replace ⟨wP,wQ,wU,wV,wM,wN,wT,wY⟩:=R.xJ);(replace ⟨AQ,AS⟩:=F.b2);(replace ⟨Ci,Cj⟩:=G.b2)))
 exact bodyPost_ret (v:=.tuple #[.agg #[.int .i64 p1,.int .i64 p2,.int .i64 p3,.int .i64 p4],.bool true]) (by simp [results,Tryz.results58,go_sem, *]) rfl (⟨by simp [M.pick,e1.out,e2.out,e3.out,e4.out],wJ (wJ (wJ (wJ B (by simp <;> omega) _) (by simp <;> omega) _) (by simp <;> omega) _) (by simp <;> omega) _⟩)
theorem f6 (a:Int) (w:World) (h:(M.yB a 4096).isSome=true) :
  Calls Tryz.prog 153 #[.agg #[.int .i64 (M.pn a),.int .i64 (M.pd a)]] w fun e w'=>e=.returned (.tuple #[.int .i64 a,.bool (M.ins a (-409600000) 409600000)])∧Below w.heap.size w w':=by
 obtain ⟨hok,d1,d2,hm,hp,g1,g2,n1,n2⟩:=M.eK h;have Mm:=M.uW h;obtain ⟨r1,r2⟩:=Mm
 have PF:=fun W=>mN (M.pn a) (M.pd a) W
 rw [hok] at PF;generalize M.pd a=d,M.pn a=n at *
 have hd0:¬ d=0:=by omega
 have ht:(4096:Int).tmod d=0:=by rw [Int.tmod_eq_emod_of_nonneg (by omega)];exact hm
 have hq:(4096:Int).tdiv d=4096 / d:=Int.tdiv_eq_ediv_of_nonneg (by omega)
 have PI:=fun W=>ch a (-409600000) 409600000 W
 replace PF:=wH PF;replace PI:=wH PI;clear h hok;generalize 4096 / d=g at *;have hq2:=wH hq;have hp2:=wH hp;have hw1:=wH (show IntKind.i64.wrap g=g from IntWalk.i64_in _ (by omega));have hw2:=wH (show IntKind.i64.wrap (n*g)=a by rw [hp];exact IntWalk.i64_in _ (by omega));clear hq hp;have hm2:=wH hm;have V:=aH.new w #[.int .i64 n,.int .i64 d] 31;have B:=(wK w.heap.size w).alloc (wL _) (.cells #[.int .i64 n,.int .i64 d] 31);generalize hw3:w.alloc (.cells #[.int .i64 n,.int .i64 d] 31)=wc at *;have xM:=V.box.c0;have xN:=V.box.c1;go_enter Tryz.func153,Tryz.ntmps153
 go_upto_region 3 with (go_at_call 132;(with_reducible refine (PF.out _).mono ?_);rintro e w4 ⟨rfl,hb4⟩;replace V:=V.keep hb4;replace B:=d_ B hb4;(replace ⟨xM,xN⟩:=V.b2))
 refine Rg.bO 7 [.is (.pointer (some ⟨w.heap.size,0,none⟩)),.is (.int .i64 n),.is (.pointer (some ⟨w.heap.size,1,none⟩)),.is (.int .i64 d),.is (.int .i64 g),.is (.int .i64 a),.is (.int .i64 a)] (by kernel_rfl) (by kernel_rfl) (by kernel_rfl) ⟨?_,?_,?_,?_,?_,?_,?_,trivial⟩ ?_
 ·intro _ zZ w_ hB hr
  have e1:zZ.tmps[1]?=some (.pointer (some ⟨w.heap.size,0,none⟩)):=hr 1 (by decide);exact Rg.aG rfl (by go_simp)
 ·intro _ zZ w_ hB hr
  have e14:=Rg.c_ (hr 14 (by decide));have k0:=aE hB V.box.c0;exact Rg.aG rfl (by go_simp)
 ·intro _ zZ w_ hB hr
  have e1:zZ.tmps[1]?=some (.pointer (some ⟨w.heap.size,0,none⟩)):=hr 1 (by decide);exact Rg.aG rfl (by go_simp)
 ·intro _ zZ w_ hB hr
  have e16:=Rg.c_ (hr 16 (by decide));have k1:=aE hB V.box.c1;exact Rg.aG rfl (by go_simp)
 ·intro _ zZ w_ hB hr
  have e17:=Rg.c_ (hr 17 (by decide));have ec:=Rg.ec zZ;exact Rg.aG rfl (by go_simp;first | done | (rw [hq2.out];first | done | rw [hw1.out] | (exact ⟨hd0,by rw [hw1.out]⟩)) | (simp only [hq2.out,hw1.out];done) | (simp [hq2.out,hw1.out,hd0];done))
 ·intro _ zZ w_ hB hr
  have e15:=Rg.c_ (hr 15 (by decide));have e18:=Rg.c_ (hr 18 (by decide));exact Rg.aG rfl (by go_simp;first | done | (rw [hw2.out];done) | exact hw2.out)
 ·intro _ zZ w_ hB hr
  have e19:=Rg.c_ (hr 19 (by decide));exact Rg.aG rfl (by go_simp)
 intro vals wz hB hv hne;have DK:vals 6=.int .i64 a:=hv 6 (by decide);simp only [Rg.ay,Rg.fill,Act.put,Nat.reduceAdd];clear hv;simp only [DK];clear DK;unfold Rg.aZ
 go_wp2_with (go_at_call 78;(with_reducible refine (PI.out _).mono ?_);rintro e w6 ⟨rfl,rfl⟩)
 go_ret2;exact ⟨rfl,d_ B hB⟩
theorem jo (a b:Int) (w:World) (h1:(M.yB a 4096).isSome=true) (h2:(M.yB b 4096).isSome=true) :
  Calls Tryz.prog 136 #[.agg #[.int .i64 (M.pn a),.int .i64 (M.pd a),.int .i64 (M.pn b),.int .i64 (M.pd b)]] w fun e w'=>e=.returned (.bool (M.aQ a b))∧Below w.heap.size w w':=by
 have P1:=wH fun W=>f6 a W h1
 have P2:=wH fun W=>f6 b W h2
 have hs:M.aQ a b=(M.ins a (-409600000) 409600000 && M.ins b (-409600000) 409600000 && decide (a≤b)):=by
  rw [Bool.eq_iff_iff];unfold M.aQ M.ins;simp only [Bool.and_eq_true,decide_eq_true_eq];omega
 rw [hs];clear hs;generalize M.pd b=d2,M.pn b=n2,M.pd a=d1,M.pn a=n1 at *;have V:=aH.new w #[.int .i64 n1,.int .i64 d1,.int .i64 n2,.int .i64 d2] 33;have B:=(wK w.heap.size w).alloc (wL _) (.cells #[.int .i64 n1,.int .i64 d1,.int .i64 n2,.int .i64 d2] 33);generalize hw3:w.alloc (.cells #[.int .i64 n1,.int .i64 d1,.int .i64 n2,.int .i64 d2] 33)=wc at *;have xM:=V.aP.c0;have xN:=V.aP.c1;have Cq:=V.aP.c2;have Cr:=V.aP.c3;generalize M.ins b (-409600000) 409600000=i2,M.ins a (-409600000) 409600000=i1 at *
 by_cases hab:a≤b <;> cases i1 <;> cases i2
 all_goals
  go_enter Tryz.func136,Tryz.ntmps136
  go_wp2_with (go_at_call 153;first | ((with_reducible refine (P1.out _).mono ?_);rintro e w4 ⟨rfl,hb4⟩;have V4:=V.keep hb4;have B4:=d_ B hb4;have y0:=V4.aP.c0;have y1:=V4.aP.c1;have y2:=V4.aP.c2;have y3:=V4.aP.c3) | ((with_reducible refine (P2.out _).mono ?_);rintro e w5 ⟨rfl,hb5⟩;have B5:=d_ B4 hb5))
  all_goals
   go_ret;exact ⟨by first | rfl | (simp [hab];done) | (exact dT (by simp [hab];done)) | (exact dT (by simp <;> omega)),B5⟩
theorem gn (a b:Int) (w:World) (h1:(M.yB a 4096).isSome=true) (h2:(M.yB b 4096).isSome=true) :
  Calls Tryz.prog 101 #[.agg #[.int .i64 (M.pn a),.int .i64 (M.pd a),.int .i64 (M.pn b),.int .i64 (M.pd b)]] w fun e w'=>e=.returned (.tuple #[.int .i64 a,.int .i64 b])∧Below w.heap.size w w':=by
 have P1:=wH fun W=>f6 a W h1
 have P2:=wH fun W=>f6 b W h2
 generalize M.ins b (-409600000) 409600000=i2,M.ins a (-409600000) 409600000=i1,M.pd b=d2,M.pn b=n2,M.pd a=d1,M.pn a=n1 at *;have V:=aH.new w #[.int .i64 n1,.int .i64 d1,.int .i64 n2,.int .i64 d2] 33;have B:=(wK w.heap.size w).alloc (wL _) (.cells #[.int .i64 n1,.int .i64 d1,.int .i64 n2,.int .i64 d2] 33);generalize hw3:w.alloc (.cells #[.int .i64 n1,.int .i64 d1,.int .i64 n2,.int .i64 d2] 33)=wc at *;have xM:=V.aP.c0;have xN:=V.aP.c1;have Cq:=V.aP.c2;have Cr:=V.aP.c3;go_enter Tryz.func101,Tryz.ntmps101
 go_wp2_with (go_at_call 153;first | ((with_reducible refine (P1.out _).mono ?_);rintro e w4 ⟨rfl,hb4⟩;have V4:=V.keep hb4;have B4:=d_ B hb4;have y0:=V4.aP.c0;have y1:=V4.aP.c1;have y2:=V4.aP.c2;have y3:=V4.aP.c3) | ((with_reducible refine (P2.out _).mono ?_);rintro e w5 ⟨rfl,hb5⟩;have B5:=d_ B4 hb5))
 go_ret2;exact ⟨rfl,B5⟩
end
section
namespace M
theorem jl {p:Int} (h:1≤p):∀ k:Nat,1≤eV p k
 | 0=>by simp [eV]
 | k+1=>by
  have h1:=jl h k;have:=Int.mul_le_mul h1 h (by omega) (by omega)
  simpa [eV] using this
theorem pu {p:Int} (h:1≤p) (k:Nat):eV p k≤eV p (k+1):=by
 have h1:=jl h k;have:=Int.mul_le_mul_of_nonneg_left h (show 0≤eV p k by omega);simp only [eV];omega
theorem kI {p:Int} (h:1≤p) {i j:Nat} (hij:i≤j):eV p i≤eV p j:=by
 induction j with
 | zero=>
      obtain rfl:i=0:=by omega
      exact Int.le_refl _
 | succ j ih=>
 rcases Nat.lt_or_ge i (j+1) with q | q
 ·exact Int.le_trans (ih (by omega)) (pu h j)
 obtain rfl:i=j+1:=by omega
 exact Int.le_refl _
def tt (p:Int) (d:Nat):Prop:=eV p d≤1000000000∧1000000000<eV p (d+1)
theorem tt.le {p:Int} {d j:Nat} (hp:1≤p) (h:tt p d) (hj:j≤d):eV p j≤1000000000:=Int.le_trans (kI hp hj) h.1
end M
end
section
open Go.RowKit
theorem mT (p:Int) (k:Nat) (w:World) (p1:1≤p) (hb:M.eV p k≤4000000000000000000) (hk:k≤1000) :
  Calls Tryz.prog 76 #[.int .i64 p,.int .i64 k] w fun e w'=>e=.returned (.int .i64 (M.eV p k))∧w=w':=by
 go_enter Tryz.func76,Tryz.ntmps76
 go_wp2
 go_loop [5,7] (fun vo vi=>∃ j:Nat,j≤k∧vi=.int .i64 j∧vo=.int .i64 (M.eV p j)) (fun _ vi=>(k - (intOf vi).toNat))
 case atStart=>exact ⟨0,by omega,rfl,rfl⟩
 case round=>
 obtain ⟨j,hj,rfl,rfl⟩:=hrel
 by_cases hlt:j<k
 ·have h1:=M.jl p1 j
  have h2:=M.kI p1 (show j+1≤k from hlt);have h3:M.eV p j*p≤4000000000000000000:=Int.le_trans h2 hb;have h4:0≤M.eV p j*p:=Int.mul_nonneg (by omega) (by omega);go_wp2
  go_round
  case rel=>exact ⟨j+1,by omega,by go_num,rfl⟩
  case measure=>simp [intOf];omega
 obtain rfl:j=k:=by omega
 go_wp2;go_ret;exact ⟨rfl,rfl⟩
theorem pv (a b:Int) (w:World) :
  Calls Tryz.prog 165 #[.int .i64 a,.int .i64 b] w fun e w'=>e=.returned (.int .i64 (min a b))∧w=w':=by
 by_cases h:a<b
 ·have h2:min a b=a:=by omega
  rw [h2];go_enter Tryz.func165,Tryz.ntmps165
  go_wp2;go_ret;exact ⟨rfl,rfl⟩
 have h2:min a b=b:=by omega
 rw [h2];go_enter Tryz.func165,Tryz.ntmps165
 go_wp2;go_ret;exact ⟨rfl,rfl⟩
theorem M.ut {a b:Int} (h:(M.yB a 4096).isSome=false∨(M.yB b 4096).isSome=false):M.aQ a b=false:=by
 cases hs:M.aQ a b with
 | false=>rfl
 | true=>
 obtain ⟨h1,h2,h3⟩:=M.b8 hs;rw [M.bS (by omega) (by omega),M.bS (by omega) (by omega)] at h;simp at h
theorem gp (a b:Int) (w:World) (h1:-4000000000000000000≤a) (h2:a≤4000000000000000000) (h3:-4000000000000000000≤b) (h4:b≤4000000000000000000) :
  Calls Tryz.prog 102 #[.int .i64 a,.int .i64 b] w fun e w'=>e=.returned (.tuple #[.agg #[.int .i64 (M.pick (M.aQ (a) (b)) (M.pn (a))),.int .i64 (M.pick (M.aQ (a) (b)) (M.pd (a))),.int .i64 (M.pick (M.aQ (a) (b)) (M.pn (b))),.int .i64 (M.pick (M.aQ (a) (b)) (M.pd (b)))],.bool (M.aQ (a) (b))])∧Below w.heap.size w w':=by
 have P1:=fun W=>mO a 4096 W h1 h2 (by omega) (by omega) (by omega)
 have P2:=fun W=>mO b 4096 W h3 h4 (by omega) (by omega) (by omega)
 have PG:=fun W (q1:(M.yB a 4096).isSome=true) (q2:(M.yB b 4096).isSome=true)=>jo a b W q1 q2
 have hno:=@M.ut a b;have e1:=wH (show M.pn a=M.fN (M.yB a 4096) from rfl);have e2:=wH (show M.pd a=M.fD (M.yB a 4096) from rfl);have e3:=wH (show M.pn b=M.fN (M.yB b 4096) from rfl);have e4:=wH (show M.pd b=M.fD (M.yB b 4096) from rfl);rw [e1.out,e2.out,e3.out,e4.out] at PG ⊢;clear e1 e2 e3 e4;generalize M.fD (M.yB b 4096)=p4,M.fN (M.yB b 4096)=p3,M.fD (M.yB a 4096)=p2,M.fN (M.yB a 4096)=p1,(M.yB b 4096).isSome=o2,(M.yB a 4096).isSome=o1 at *;replace P1:=wH P1;replace P2:=wH P2;have R:=aH.new w #[.int .i64 0,.int .i64 0,.int .i64 0,.int .i64 0] 33;have B:=(wK w.heap.size w).alloc (wL _) (.cells #[.int .i64 0,.int .i64 0,.int .i64 0,.int .i64 0] 33);generalize hw3:w.alloc (.cells #[.int .i64 0,.int .i64 0,.int .i64 0,.int .i64 0] 33)=wc at *
 cases o1 with
 | false=>
  rw [hno (Or.inl rfl)];clear hno PG;go_enter Tryz.func102,Tryz.ntmps102
  go_wp2_with (first
   | (go_at_call 79;(with_reducible refine (P1.out _).mono ?_);rintro e w4 ⟨rfl,hb4⟩;replace R:=R.keep hb4;replace B:=d_ B hb4;have F:=aH.new w4 #[.int .i64 p1,.int .i64 p2] 31;have b_:=bA w4 (.cells #[.int .i64 p1,.int .i64 p2] 31);replace R:=R.keep b_;replace B:=d_ B b_;clear b_;(replace ⟨wP,wQ,wU,wV,wM,wN,wT,wY⟩:=R.xJ);(replace ⟨AQ,AS⟩:=F.b2))
   | (go_at_call 79;(with_reducible refine (P2.out _).mono ?_);rintro e w5 ⟨rfl,hb5⟩;replace R:=R.keep hb5;replace F:=F.keep hb5;replace B:=d_ B hb5;have G:=aH.new w5 #[.int .i64 p3,.int .i64 p4] 31;have b_:=bA w5 (.cells #[.int .i64 p3,.int .i64 p4] 31);replace R:=R.keep b_;replace F:=F.keep b_;replace B:=d_ B b_;clear b_;(replace ⟨wP,wQ,wU,wV,wM,wN,wT,wY⟩:=R.xJ);(replace ⟨AQ,AS⟩:=F.b2);(replace ⟨Ci,Cj⟩:=G.b2);have O:=aH.new (w5.alloc (.cells #[.int .i64 p3,.int .i64 p4] 31)) #[.int .i64 p1,.int .i64 p2,.int .i64 p3,.int .i64 p4] 33;have b_:=bA (w5.alloc (.cells #[.int .i64 p3,.int .i64 p4] 31)) (.cells #[.int .i64 p1,.int .i64 p2,.int .i64 p3,.int .i64 p4] 33);replace R:=R.keep b_;replace F:=F.keep b_;replace G:=G.keep b_;replace B:=d_ B b_;clear b_;(rw [wI] at O);have yu:=O.aP.c0;have yv:=O.aP.c1;have yw:=O.aP.c2;have yx:=O.aP.c3;have wP:=R.aP.c0;have wQ:=R.aP.c1;have wU:=R.aP.c2;have wV:=R.aP.c3;have wM:=R.aP.f0;have wN:=R.aP.f1;have wT:=R.aP.f2;have wY:=R.aP.f3))
  exact bodyPost_ret (v:=.tuple #[.agg #[.int .i64 0,.int .i64 0,.int .i64 0,.int .i64 0],.bool false]) (by simp [results,Tryz.results102,go_sem, *]) rfl (⟨rfl,wJ (wJ (wJ (wJ B (by simp <;> omega) _) (by simp <;> omega) _) (by simp <;> omega) _) (by simp <;> omega) _⟩)
 | true=>
 cases o2 with
 | false=>
  rw [hno (Or.inr rfl)];clear hno PG;go_enter Tryz.func102,Tryz.ntmps102
  go_wp2_with (first
   | (go_at_call 79;(with_reducible refine (P1.out _).mono ?_);rintro e w4 ⟨rfl,hb4⟩;replace R:=R.keep hb4;replace B:=d_ B hb4;have F:=aH.new w4 #[.int .i64 p1,.int .i64 p2] 31;have b_:=bA w4 (.cells #[.int .i64 p1,.int .i64 p2] 31);replace R:=R.keep b_;replace B:=d_ B b_;clear b_;(replace ⟨wP,wQ,wU,wV,wM,wN,wT,wY⟩:=R.xJ);(replace ⟨AQ,AS⟩:=F.b2))
   | (go_at_call 79;(with_reducible refine (P2.out _).mono ?_);rintro e w5 ⟨rfl,hb5⟩;replace R:=R.keep hb5;replace F:=F.keep hb5;replace B:=d_ B hb5;have G:=aH.new w5 #[.int .i64 p3,.int .i64 p4] 31;have b_:=bA w5 (.cells #[.int .i64 p3,.int .i64 p4] 31);replace R:=R.keep b_;replace F:=F.keep b_;replace B:=d_ B b_;clear b_;(replace ⟨wP,wQ,wU,wV,wM,wN,wT,wY⟩:=R.xJ);(replace ⟨AQ,AS⟩:=F.b2);(replace ⟨Ci,Cj⟩:=G.b2);have O:=aH.new (w5.alloc (.cells #[.int .i64 p3,.int .i64 p4] 31)) #[.int .i64 p1,.int .i64 p2,.int .i64 p3,.int .i64 p4] 33;have b_:=bA (w5.alloc (.cells #[.int .i64 p3,.int .i64 p4] 31)) (.cells #[.int .i64 p1,.int .i64 p2,.int .i64 p3,.int .i64 p4] 33);replace R:=R.keep b_;replace F:=F.keep b_;replace G:=G.keep b_;replace B:=d_ B b_;clear b_;(rw [wI] at O);have yu:=O.aP.c0;have yv:=O.aP.c1;have yw:=O.aP.c2;have yx:=O.aP.c3;have wP:=R.aP.c0;have wQ:=R.aP.c1;have wU:=R.aP.c2;have wV:=R.aP.c3;have wM:=R.aP.f0;have wN:=R.aP.f1;have wT:=R.aP.f2;have wY:=R.aP.f3))
  exact bodyPost_ret (v:=.tuple #[.agg #[.int .i64 0,.int .i64 0,.int .i64 0,.int .i64 0],.bool false]) (by simp [results,Tryz.results102,go_sem, *]) rfl (⟨rfl,wJ (wJ (wJ (wJ B (by simp <;> omega) _) (by simp <;> omega) _) (by simp <;> omega) _) (by simp <;> omega) _⟩)
 | true=>
 have FV:=fun W=>PG W rfl rfl
 clear PG hno
 cases hs:M.aQ a b with
 | true=>
  rw [hs] at FV;replace FV:=wH FV;clear hs;go_enter Tryz.func102,Tryz.ntmps102
  go_wp2_with (first
   | (go_at_call 79;(with_reducible refine (P1.out _).mono ?_);rintro e w4 ⟨rfl,hb4⟩;replace R:=R.keep hb4;replace B:=d_ B hb4;have F:=aH.new w4 #[.int .i64 p1,.int .i64 p2] 31;have b_:=bA w4 (.cells #[.int .i64 p1,.int .i64 p2] 31);replace R:=R.keep b_;replace B:=d_ B b_;clear b_;(replace ⟨wP,wQ,wU,wV,wM,wN,wT,wY⟩:=R.xJ);(replace ⟨AQ,AS⟩:=F.b2))
   | (go_at_call 79;(with_reducible refine (P2.out _).mono ?_);rintro e w5 ⟨rfl,hb5⟩;replace R:=R.keep hb5;replace F:=F.keep hb5;replace B:=d_ B hb5;have G:=aH.new w5 #[.int .i64 p3,.int .i64 p4] 31;have b_:=bA w5 (.cells #[.int .i64 p3,.int .i64 p4] 31);replace R:=R.keep b_;replace F:=F.keep b_;replace B:=d_ B b_;clear b_;(replace ⟨wP,wQ,wU,wV,wM,wN,wT,wY⟩:=R.xJ);(replace ⟨AQ,AS⟩:=F.b2);(replace ⟨Ci,Cj⟩:=G.b2);have O:=aH.new (w5.alloc (.cells #[.int .i64 p3,.int .i64 p4] 31)) #[.int .i64 p1,.int .i64 p2,.int .i64 p3,.int .i64 p4] 33;have b_:=bA (w5.alloc (.cells #[.int .i64 p3,.int .i64 p4] 31)) (.cells #[.int .i64 p1,.int .i64 p2,.int .i64 p3,.int .i64 p4] 33);replace R:=R.keep b_;replace F:=F.keep b_;replace G:=G.keep b_;replace B:=d_ B b_;clear b_;(rw [wI] at O);have yu:=O.aP.c0;have yv:=O.aP.c1;have yw:=O.aP.c2;have yx:=O.aP.c3;have wP:=R.aP.c0;have wQ:=R.aP.c1;have wU:=R.aP.c2;have wV:=R.aP.c3;have wM:=R.aP.f0;have wN:=R.aP.f1;have wT:=R.aP.f2;have wY:=R.aP.f3)
   | (go_at_call 136;(with_reducible refine (FV.out _).mono ?_);rintro e w6 ⟨rfl,hb6⟩;replace R:=R.keep hb6;replace F:=F.keep hb6;replace G:=G.keep hb6;replace O:=O.keep hb6;replace B:=d_ B hb6;(replace ⟨wP,wQ,wU,wV,wM,wN,wT,wY⟩:=R.xJ);(replace ⟨AQ,AS⟩:=F.b2);(replace ⟨Ci,Cj⟩:=G.b2);(replace ⟨yu,yv,yw,yx⟩:=O.b4)))
  exact bodyPost_ret (v:=.tuple #[.agg #[.int .i64 p1,.int .i64 p2,.int .i64 p3,.int .i64 p4],.bool true]) (by simp [results,Tryz.results102,go_sem, *]) rfl (⟨rfl,wJ (wJ (wJ (wJ B (by simp <;> omega) _) (by simp <;> omega) _) (by simp <;> omega) _) (by simp <;> omega) _⟩)
 | false=>
 rw [hs] at FV;replace FV:=wH FV;clear hs;go_enter Tryz.func102,Tryz.ntmps102
 go_wp2_with (first
  | (go_at_call 79;(with_reducible refine (P1.out _).mono ?_);rintro e w4 ⟨rfl,hb4⟩;replace R:=R.keep hb4;replace B:=d_ B hb4;have F:=aH.new w4 #[.int .i64 p1,.int .i64 p2] 31;have b_:=bA w4 (.cells #[.int .i64 p1,.int .i64 p2] 31);replace R:=R.keep b_;replace B:=d_ B b_;clear b_;(replace ⟨wP,wQ,wU,wV,wM,wN,wT,wY⟩:=R.xJ);(replace ⟨AQ,AS⟩:=F.b2))
  | (go_at_call 79;(with_reducible refine (P2.out _).mono ?_);rintro e w5 ⟨rfl,hb5⟩;replace R:=R.keep hb5;replace F:=F.keep hb5;replace B:=d_ B hb5;have G:=aH.new w5 #[.int .i64 p3,.int .i64 p4] 31;have b_:=bA w5 (.cells #[.int .i64 p3,.int .i64 p4] 31);replace R:=R.keep b_;replace F:=F.keep b_;replace B:=d_ B b_;clear b_;(replace ⟨wP,wQ,wU,wV,wM,wN,wT,wY⟩:=R.xJ);(replace ⟨AQ,AS⟩:=F.b2);(replace ⟨Ci,Cj⟩:=G.b2);have O:=aH.new (w5.alloc (.cells #[.int .i64 p3,.int .i64 p4] 31)) #[.int .i64 p1,.int .i64 p2,.int .i64 p3,.int .i64 p4] 33;have b_:=bA (w5.alloc (.cells #[.int .i64 p3,.int .i64 p4] 31)) (.cells #[.int .i64 p1,.int .i64 p2,.int .i64 p3,.int .i64 p4] 33);replace R:=R.keep b_;replace F:=F.keep b_;replace G:=G.keep b_;replace B:=d_ B b_;clear b_;(rw [wI] at O);have yu:=O.aP.c0;have yv:=O.aP.c1;have yw:=O.aP.c2;have yx:=O.aP.c3;have wP:=R.aP.c0;have wQ:=R.aP.c1;have wU:=R.aP.c2;have wV:=R.aP.c3;have wM:=R.aP.f0;have wN:=R.aP.f1;have wT:=R.aP.f2;have wY:=R.aP.f3)
  | (go_at_call 136;(with_reducible refine (FV.out _).mono ?_);rintro e w6 ⟨rfl,hb6⟩;replace R:=R.keep hb6;replace F:=F.keep hb6;replace G:=G.keep hb6;replace O:=O.keep hb6;replace B:=d_ B hb6;(replace ⟨wP,wQ,wU,wV,wM,wN,wT,wY⟩:=R.xJ);(replace ⟨AQ,AS⟩:=F.b2);(replace ⟨Ci,Cj⟩:=G.b2);(replace ⟨yu,yv,yw,yx⟩:=O.b4)))
 exact bodyPost_ret (v:=.tuple #[.agg #[.int .i64 0,.int .i64 0,.int .i64 0,.int .i64 0],.bool false]) (by simp [results,Tryz.results102,go_sem, *]) rfl (⟨rfl,wJ (wJ (wJ (wJ B (by simp <;> omega) _) (by simp <;> omega) _) (by simp <;> omega) _) (by simp <;> omega) _⟩)
theorem tD (a b c d:Int) (w:World) (hab:M.aQ a b=true) (hcd:M.aQ c d=true) :
  Calls Tryz.prog 164 #[.agg #[.int .i64 (M.pn a),.int .i64 (M.pd a),.int .i64 (M.pn b),.int .i64 (M.pd b)],.agg #[.int .i64 (M.pn c),.int .i64 (M.pd c),.int .i64 (M.pn d),.int .i64 (M.pd d)]] w fun e w'=>e=.returned (.bool true)∧Below w.heap.size w w':=by
 obtain ⟨ab,a1,b1⟩:=M.b8 hab;obtain ⟨cd,c1,d1⟩:=M.b8 hcd
 have E1:=fun W=>jo a b W (M.bS (by omega) (by omega)) (M.bS (by omega) (by omega))
 have E2:=fun W=>jo c d W (M.bS (by omega) (by omega)) (M.bS (by omega) (by omega))
 rw [hab] at E1;rw [hcd] at E2;generalize M.pd d=d4,M.pn d=n4,M.pd c=d3,M.pn c=n3,M.pd b=d2,M.pn b=n2,M.pd a=d1,M.pn a=n1 at *;replace E1:=wH E1;replace E2:=wH E2;clear hab hcd;have U:=aH.new (w.alloc (.cells #[.int .i64 n1,.int .i64 d1,.int .i64 n2,.int .i64 d2] 33)) #[.int .i64 n3,.int .i64 d3,.int .i64 n4,.int .i64 d4] 33;rw [wI] at U;have B:=((wK w.heap.size w).alloc (wL _) (.cells #[.int .i64 n1,.int .i64 d1,.int .i64 n2,.int .i64 d2] 33)).alloc (by rw [wI];omega) (.cells #[.int .i64 n3,.int .i64 d3,.int .i64 n4,.int .i64 d4] 33);go_enter Tryz.func164,Tryz.ntmps164
 go_wp2_with (go_at_call 136;first | ((with_reducible refine (E1.out _).mono ?_);rintro e w4 ⟨rfl,hb4⟩;have U4:=U.keep hb4;have B4:=d_ B hb4;have y0:=U4.aP.c0;have y1:=U4.aP.c1;have y2:=U4.aP.c2;have y3:=U4.aP.c3) | ((with_reducible refine (E2.out _).mono ?_);rintro e w5 ⟨rfl,hb5⟩;have B5:=d_ B4 hb5))
 go_ret;exact ⟨rfl,B5⟩
theorem kc (a b c d:Int) (w:World) (hab:M.aQ a b=true) (hcd:M.aQ c d=true) :
  Calls Tryz.prog 120 #[.agg #[.int .i64 (M.pn a),.int .i64 (M.pd a),.int .i64 (M.pn b),.int .i64 (M.pd b)],.agg #[.int .i64 (M.pn c),.int .i64 (M.pd c),.int .i64 (M.pn d),.int .i64 (M.pd d)]] w fun e w'=>e=.returned (.tuple #[.agg #[.int .i64 (M.pick (M.aQ (max a c) (min b d)) (M.pn (max a c))),.int .i64 (M.pick (M.aQ (max a c) (min b d)) (M.pd (max a c))),.int .i64 (M.pick (M.aQ (max a c) (min b d)) (M.pn (min b d))),.int .i64 (M.pick (M.aQ (max a c) (min b d)) (M.pd (min b d)))],.bool (M.aQ (max a c) (min b d))])∧Below w.heap.size w w':=by
 obtain ⟨ab,a1,b1⟩:=M.b8 hab;obtain ⟨cd,c1,d1⟩:=M.b8 hcd
 have E1:=fun W=>gn a b W (M.bS (by omega) (by omega)) (M.bS (by omega) (by omega))
 have E2:=fun W=>gn c d W (M.bS (by omega) (by omega)) (M.bS (by omega) (by omega))
 have PT:=wH fun W=>tD a b c d W hab hcd
 have PX:=wH fun W=>d9 a c W
 have PY:=wH fun W=>pv b d W
 have PM:=fun W=>gp (max a c) (min b d) W (by omega) (by omega) (by omega) (by omega)
 generalize M.aQ (max a c) (min b d)=s,M.pick (M.aQ (max a c) (min b d)) (M.pd (min b d))=p4,M.pick (M.aQ (max a c) (min b d)) (M.pn (min b d))=p3,M.pick (M.aQ (max a c) (min b d)) (M.pd (max a c))=p2,M.pick (M.aQ (max a c) (min b d)) (M.pn (max a c))=p1 at *;replace PM:=wH PM;replace E1:=wH E1;replace E2:=wH E2;generalize hn1:M.pn a=n1 at *;generalize hd1:M.pd a=d1 at *;generalize hn2:M.pn b=n2 at *;generalize hd2:M.pd b=d2 at *;generalize hn3:M.pn c=n3 at *;generalize hd3:M.pd c=d3 at *;generalize hn4:M.pn d=n4 at *;generalize hd4:M.pd d=d4 at *;clear hn1 hn2 hn3 hn4 hd1 hd2 hd3 hd4;have V:=((aH.new w #[.int .i64 n1,.int .i64 d1,.int .i64 n2,.int .i64 d2] 33).alloc (.cells #[.int .i64 n3,.int .i64 d3,.int .i64 n4,.int .i64 d4] 33)).alloc (.cells #[.int .i64 0,.int .i64 0,.int .i64 0,.int .i64 0] 33);have U:=(aH.new (w.alloc (.cells #[.int .i64 n1,.int .i64 d1,.int .i64 n2,.int .i64 d2] 33)) #[.int .i64 n3,.int .i64 d3,.int .i64 n4,.int .i64 d4] 33).alloc (.cells #[.int .i64 0,.int .i64 0,.int .i64 0,.int .i64 0] 33);rw [wI] at U;have R:=aH.new ((w.alloc (.cells #[.int .i64 n1,.int .i64 d1,.int .i64 n2,.int .i64 d2] 33)).alloc (.cells #[.int .i64 n3,.int .i64 d3,.int .i64 n4,.int .i64 d4] 33)) #[.int .i64 0,.int .i64 0,.int .i64 0,.int .i64 0] 33;rw [wI,wI] at R;have B:=(((wK w.heap.size w).alloc (wL _) (.cells #[.int .i64 n1,.int .i64 d1,.int .i64 n2,.int .i64 d2] 33)).alloc (by rw [wI];omega) (.cells #[.int .i64 n3,.int .i64 d3,.int .i64 n4,.int .i64 d4] 33)).alloc (by rw [wI,wI];omega) (.cells #[.int .i64 0,.int .i64 0,.int .i64 0,.int .i64 0] 33);generalize hw3:((w.alloc (.cells #[.int .i64 n1,.int .i64 d1,.int .i64 n2,.int .i64 d2] 33)).alloc (.cells #[.int .i64 n3,.int .i64 d3,.int .i64 n4,.int .i64 d4] 33)).alloc (.cells #[.int .i64 0,.int .i64 0,.int .i64 0,.int .i64 0] 33)=wc at *;have xM:=V.aP.c0;have xN:=V.aP.c1;have Cq:=V.aP.c2;have Cr:=V.aP.c3;have xK:=U.aP.c0;have xL:=U.aP.c1;have Ef:=U.aP.c2;have Eg:=U.aP.c3;have wP:=R.aP.c0;have wQ:=R.aP.c1;have wU:=R.aP.c2;have wV:=R.aP.c3;go_enter Tryz.func120,Tryz.ntmps120
 go_wp2_with (first
  | (go_at_call 164;(with_reducible refine (PT.out _).mono ?_);rintro e w4 ⟨rfl,hb4⟩;replace V:=V.keep hb4;replace U:=U.keep hb4;replace R:=R.keep hb4;replace B:=d_ B hb4;(replace ⟨xM,xN,Cq,Cr⟩:=V.b4);(replace ⟨xK,xL,Ef,Eg⟩:=U.b4);(replace ⟨wP,wQ,wU,wV,wM,wN,wT,wY⟩:=R.xJ))
  | (go_at_call 101;(with_reducible refine (E1.out _).mono ?_);rintro e w5 ⟨rfl,hb5⟩;replace V:=V.keep hb5;replace U:=U.keep hb5;replace R:=R.keep hb5;replace B:=d_ B hb5;(replace ⟨xM,xN,Cq,Cr⟩:=V.b4);(replace ⟨xK,xL,Ef,Eg⟩:=U.b4);(replace ⟨wP,wQ,wU,wV,wM,wN,wT,wY⟩:=R.xJ))
  | (go_at_call 101;(with_reducible refine (E2.out _).mono ?_);rintro e w6 ⟨rfl,hb6⟩;replace V:=V.keep hb6;replace U:=U.keep hb6;replace R:=R.keep hb6;replace B:=d_ B hb6;(replace ⟨xM,xN,Cq,Cr⟩:=V.b4);(replace ⟨xK,xL,Ef,Eg⟩:=U.b4);(replace ⟨wP,wQ,wU,wV,wM,wN,wT,wY⟩:=R.xJ))
  | (go_at_call 119;(with_reducible refine (PX.out _).mono ?_);rintro e w7 ⟨rfl,rfl⟩)
  | (go_at_call 165;(with_reducible refine (PY.out _).mono ?_);rintro e w8 ⟨rfl,rfl⟩)
  | (go_at_call 102;(with_reducible refine (PM.out _).mono ?_);rintro e w9 ⟨rfl,wb⟩;replace V:=V.keep wb;replace U:=U.keep wb;replace R:=R.keep wb;replace B:=d_ B wb;(replace ⟨xM,xN,Cq,Cr⟩:=V.b4);(replace ⟨xK,xL,Ef,Eg⟩:=U.b4);(replace ⟨wP,wQ,wU,wV,wM,wN,wT,wY⟩:=R.xJ)))
 exact bodyPost_ret (v:=.tuple #[.agg #[.int .i64 p1,.int .i64 p2,.int .i64 p3,.int .i64 p4],.bool s]) (by simp [results,Tryz.results120,go_sem, *]) rfl (⟨rfl,wJ (wJ (wJ (wJ B (by simp <;> omega) _) (by simp <;> omega) _) (by simp <;> omega) _) (by simp <;> omega) _⟩)
namespace M
def hL (C:Nat) (n:Nat) (o:Out):Int:=match o with
 | .val x z=>max 0 (3*(bk (.val x z) - 1) - C)*4096 / p4 n
 | _=>0
def hH (C:Nat) (n:Nat) (o:Out):Int:=match o with
 | .val x z=>-(-((3*bk (.val x z)+C)*4096) / p4 n)
 | _=>0
theorem vV {a b x z:Int} {o:Out} (h:nx a b o=.val x z):Wh.sz x 1000∧Wh.sz z 1000:=by
 cases o with
 | inf=>cases h
 | bad=>cases h
 | val u v=>
 unfold nx at h
 dsimp only at h
 split at h
 ·cases h
 split at h
 ·rename_i hok
  injection h with h1 h2
  subst h1 h2;exact Wh.gy (Wh.gc hok)
 cases h
theorem ei {a b X E x z:Int} (hX1:-10000≤X) (hX2:X≤10000) (hE1:0≤E) (hE2:E≤20) {n:Nat} (h:aX a b X E n=.val x z):Wh.sz x 1000∧Wh.sz z 1000:=by
 unfold aX at h
 split at h
 ·cases h
 cases n with
 | zero=>
  have Fd:0≤E*E∧E*E≤400:=⟨Int.mul_nonneg hE1 hE1,by have:=Int.mul_le_mul hE2 hE2 hE1 (by omega);omega⟩
  injection h with h1 h2
  subst h1 h2;exact ⟨Wh.aN (Wh.bc (by omega) (by omega)) (by omega),Wh.aN (Wh.bc (by omega) (by omega)) (by omega)⟩
 | succ n=>exact vV h
theorem gY {x z:Int} (h:Wh.sz x 1000∧Wh.sz z 1000):0≤bk (.val x z)∧bk (.val x z)≤14000:=by
 have h1:=Wh.fp h.1;have h2:=Wh.fp h.2
 show 0≤max ((Wh.bl x.natAbs:Nat):Int) ((Wh.bl z.natAbs:Nat):Int)∧max ((Wh.bl x.natAbs:Nat):Int) ((Wh.bl z.natAbs:Nat):Int)≤14000
 omega
theorem rQ {C n:Nat} {B:Int} (hC:C≤60) (hn:n≤5) (h1:0≤B) (h2:B≤14000):aQ (max 0 (3*(B - 1) - C)*4096 / p4 n) (-(-((3*B+C)*4096) / p4 n))=true:=by
 have hp:=pC n hn;generalize p4 n=d at *;have q1:=eP (a:=max 0 (3*(B - 1) - C)*4096) (b:=d) (k:=300000000) (by omega) (by omega) (by omega) (by omega);have q2:=eP (a:=-((3*B+C)*4096)) (b:=d) (k:=300000000) (by omega) (by omega) (by omega) (by omega);have q3:max 0 (3*(B - 1) - C)*4096 / d≤(3*B+C)*4096 / d:=Int.ediv_le_ediv (by omega) (by omega)
 have q4:(3*B+C)*4096 / d≤-(-((3*B+C)*4096) / d):=by
  have e1:=Int.mul_ediv_add_emod ((3*B+C)*4096) d;have e2:=Int.emod_nonneg ((3*B+C)*4096) (by omega:d≠0);have e3:=Int.mul_ediv_add_emod (-((3*B+C)*4096)) d;have e4:=Int.emod_nonneg (-((3*B+C)*4096)) (by omega:d≠0);generalize -((3*B+C)*4096) / d=v,(3*B+C)*4096 / d=u at *
  rcases Int.lt_or_le (-v) u with h | h
  ·have:d*(u+v)≥d*1:=Int.mul_le_mul_of_nonneg_left (by omega) (by omega)
   rw [Int.mul_add] at this;omega
  exact h
 unfold aQ;simp only [Bool.and_eq_true,decide_eq_true_eq];omega
theorem vQ {a b X E:Int} {C n:Nat} (hC:C≤60) (hn:n≤5) (hX1:-10000≤X) (hX2:X≤10000) (hE1:0≤E) (hE2:E≤20):aQ (hL C n (aX a b X E n)) (hH C n (aX a b X E n))=true:=by
 cases h:aX a b X E n with
 | inf=>show aQ 0 0=true;decide
 | bad=>show aQ 0 0=true;decide
 | val x z=>
 have hb:=gY (ei hX1 hX2 hE1 hE2 h);exact rQ hC hn hb.1 hb.2
end M
theorem mC (a b d:Int) (w:World) (h1:-100000000000≤a) (h2:a≤100000000000) (h3:-100000000000≤b) (h4:b≤100000000000) (h5:1≤d) (h6:d≤100000) :
  Calls Tryz.prog 118 #[.int .i64 a,.int .i64 b,.int .i64 d] w fun e w'=>e=.returned (.tuple #[.agg #[.int .i64 (M.pick (M.aQ (a*4096 / d) (-(-(b*4096) / d))) (M.pn (a*4096 / d))),.int .i64 (M.pick (M.aQ (a*4096 / d) (-(-(b*4096) / d))) (M.pd (a*4096 / d))),.int .i64 (M.pick (M.aQ (a*4096 / d) (-(-(b*4096) / d))) (M.pn (-(-(b*4096) / d)))),.int .i64 (M.pick (M.aQ (a*4096 / d) (-(-(b*4096) / d))) (M.pd (-(-(b*4096) / d))))],.bool (M.aQ (a*4096 / d) (-(-(b*4096) / d)))])∧Below w.heap.size w w':=by
 have P1:=fun W=>mM (a*4096) d W (by omega) (by omega) (by omega) (by omega)
 have P2:=fun W=>ue (b*4096) d W (by omega) (by omega) (by omega) (by omega)
 have f1:=eP (a:=a*4096) (b:=d) (k:=1000000000000000) (by omega) (by omega) (by omega) (by omega);have f2:=eP (a:=-(b*4096)) (b:=d) (k:=1000000000000000) (by omega) (by omega) (by omega) (by omega)
 have PM:=fun W=>gp (a*4096 / d) (-(-(b*4096) / d)) W (by omega) (by omega) (by omega) (by omega)
 generalize -(-(b*4096) / d)=hi,a*4096 / d=lo,M.aQ (a*4096 / d) (-(-(b*4096) / d))=s,M.pick (M.aQ (a*4096 / d) (-(-(b*4096) / d))) (M.pd (-(-(b*4096) / d)))=p4,M.pick (M.aQ (a*4096 / d) (-(-(b*4096) / d))) (M.pn (-(-(b*4096) / d)))=p3,M.pick (M.aQ (a*4096 / d) (-(-(b*4096) / d))) (M.pd (a*4096 / d))=p2,M.pick (M.aQ (a*4096 / d) (-(-(b*4096) / d))) (M.pn (a*4096 / d))=p1 at *;replace P1:=wH P1;replace P2:=wH P2;replace PM:=wH PM;clear f1 f2;have R:=aH.new w #[.int .i64 0,.int .i64 0,.int .i64 0,.int .i64 0] 33;have B:=(wK w.heap.size w).alloc (wL _) (.cells #[.int .i64 0,.int .i64 0,.int .i64 0,.int .i64 0] 33);go_enter Tryz.func118,Tryz.ntmps118
 go_wp2_with (first
  | (go_at_call 162;(with_reducible refine (P1.out _).mono ?_);rintro e w4 ⟨rfl,rfl⟩)
  | (go_at_call 163;(with_reducible refine (P2.out _).mono ?_);rintro e w5 ⟨rfl,rfl⟩)
  | (go_at_call 102;(with_reducible refine (PM.out _).mono ?_);rintro e w6 ⟨rfl,hb6⟩;replace R:=R.keep hb6;replace B:=d_ B hb6;(replace ⟨wP,wQ,wU,wV,wM,wN,wT,wY⟩:=R.xJ)))
 exact bodyPost_ret (v:=.tuple #[.agg #[.int .i64 p1,.int .i64 p2,.int .i64 p3,.int .i64 p4],.bool s]) (by simp [results,Tryz.results118,go_sem, *]) rfl (⟨rfl,wJ (wJ (wJ (wJ B (by simp <;> omega) _) (by simp <;> omega) _) (by simp <;> omega) _) (by simp <;> omega) _⟩)
theorem jk (a b X Y E:Int) (n:Nat) (w:World) (hg:M.good a b=true) (hX1:-10000≤X) (hX2:X≤10000) (hE1:0≤E) (hE2:E≤20) (hn:n≤5) :
  Calls Tryz.prog 57 #[.agg #[.int .i64 a,.int .i64 b],.agg #[.int .i64 X,.int .i64 Y,.int .i64 E],.int .i64 (n:Int)] w fun e w'=>e=.returned (.tuple #[.agg #[.int .i64 (M.hL (M.hC a b) n (M.aX a b X E n)),.int .i64 (M.hH (M.hC a b) n (M.aX a b X E n))],.bool (M.isOk (M.aX a b X E n))])∧Below w.heap.size w w':=by
 have hin:=M.ag hg
 have PB:=fun W=>jZ a b X Y E n W hg hX1 hX2 hE1 hE2 hn
 have PC:=wH fun W=>dz a b W hin
 have hC:=M.iu hin
 have hsz:=fun x z (h:M.aX a b X E n=.val x z)=>M.gY (M.ei hX1 hX2 hE1 hE2 h)
 have hp:=M.pC n hn
 have IH:M.p4 n=3*M.eV 4 n:=by
  match n,hn with
  | 0,_=>decide
  | 1,_=>decide
  | 2,_=>decide
  | 3,_=>decide
  | 4,_=>decide
  | 5,_=>decide
 have PP:=wH fun W=>mT 4 n W (by omega) (by omega) (by omega)
 generalize M.hC a b=k,M.eV 4 n=ip at *;clear hg hin;have C:=((aH.new w #[.int .i64 a,.int .i64 b] 25).alloc (.cells #[.int .i64 X,.int .i64 Y,.int .i64 E] 27)).alloc (.cells #[.int .i64 0,.int .i64 0] 74);have Q:=(aH.new (w.alloc (.cells #[.int .i64 a,.int .i64 b] 25)) #[.int .i64 X,.int .i64 Y,.int .i64 E] 27).alloc (.cells #[.int .i64 0,.int .i64 0] 74);rw [wI] at Q;have R:=aH.new ((w.alloc (.cells #[.int .i64 a,.int .i64 b] 25)).alloc (.cells #[.int .i64 X,.int .i64 Y,.int .i64 E] 27)) #[.int .i64 0,.int .i64 0] 74;rw [wI,wI] at R;have B:=(((wK w.heap.size w).alloc (wL _) (.cells #[.int .i64 a,.int .i64 b] 25)).alloc (by rw [wI];omega) (.cells #[.int .i64 X,.int .i64 Y,.int .i64 E] 27)).alloc (by rw [wI,wI];omega) (.cells #[.int .i64 0,.int .i64 0] 74);generalize hw3:((w.alloc (.cells #[.int .i64 a,.int .i64 b] 25)).alloc (.cells #[.int .i64 X,.int .i64 Y,.int .i64 E] 27)).alloc (.cells #[.int .i64 0,.int .i64 0] 74)=wc at *;have ⟨q0,q1,q2⟩:=Q.aK;have f_:=C.box.c0;have g_:=C.box.c1
 cases ho:M.aX a b X E n with
 | inf=>
  rw [ho] at PB;replace PB:=wH PB;clear hsz hp IH;go_enter Tryz.func57,Tryz.ntmps57
  go_wp2_with (go_at_call 105;(with_reducible refine (PB.out _).mono ?_);rintro e w4 ⟨rfl,hb4⟩;replace C:=C.keep hb4;replace R:=R.keep hb4;replace B:=d_ B hb4;(replace ⟨f_,g_⟩:=C.b2);(replace ⟨wP,wQ,wM,wN⟩:=R.xu))
  exact bodyPost_ret (v:=.tuple #[.agg #[.int .i64 0,.int .i64 0],.bool true]) (by simp [results,Tryz.results57,go_sem, *]) rfl (⟨rfl,wJ (wJ B (by simp <;> omega) _) (by simp <;> omega) _⟩)
 | bad=>
  rw [ho] at PB;replace PB:=wH PB;clear hsz hp IH;go_enter Tryz.func57,Tryz.ntmps57
  go_wp2_with (go_at_call 105;(with_reducible refine (PB.out _).mono ?_);rintro e w4 ⟨rfl,hb4⟩;replace C:=C.keep hb4;replace R:=R.keep hb4;replace B:=d_ B hb4;(replace ⟨f_,g_⟩:=C.b2);(replace ⟨wP,wQ,wM,wN⟩:=R.xu))
  exact bodyPost_ret (v:=.tuple #[.agg #[.int .i64 0,.int .i64 0],.bool false]) (by simp [results,Tryz.results57,go_sem, *]) rfl (⟨rfl,wJ (wJ B (by simp <;> omega) _) (by simp <;> omega) _⟩)
 | val x z=>
 rw [ho] at PB;have hb:=hsz x z ho;have e1:M.hL k n (.val x z)=max 0 (3*(M.bk (.val x z) - 1) - k)*4096 / M.p4 n:=rfl;have e2:M.hH k n (.val x z)=-(-((3*M.bk (.val x z)+k)*4096) / M.p4 n):=rfl;rw [e1,e2];clear e1 e2 hsz ho;rw [show M.isInf (.val x z)=false from rfl,show M.isOk (.val x z)=true from rfl] at PB;rw [show M.isOk (.val x z)=true from rfl];generalize M.bk (.val x z)=bt at *;rw [IH];rw [IH] at hp
 have hm:max 0 (3*(bt - 1) - (k:Int))=max (3*(bt - 1) - (k:Int)) 0:=by omega
 rw [hm]
 have F1:=fun W=>iP (max (3*(bt - 1) - (k:Int)) 0*4096) (3*ip) W (by omega) (by omega) (by omega) (by omega)
 have F2:=fun W=>iP (-((3*bt+(k:Int))*4096)) (3*ip) W (by omega) (by omega) (by omega) (by omega)
 have F2:=fun x W (h:x=-((3*bt+(k:Int))*4096))=>(by subst h;exact F2 W:Calls Tryz.prog 116 #[.int .i64 x,.int .i64 (3*ip)] W fun e w'=>e=.returned (.int .i64 (-((3*bt+(k:Int))*4096) / (3*ip)))∧W=w')
 have F1:=fun x W (h:x=max (3*(bt - 1) - (k:Int)) 0*4096)=>(by subst h;exact F1 W:Calls Tryz.prog 116 #[.int .i64 x,.int .i64 (3*ip)] W fun e w'=>e=.returned (.int .i64 (max (3*(bt - 1) - (k:Int)) 0*4096 / (3*ip)))∧W=w')
 have g2:=eP (a:=-((3*bt+(k:Int))*4096)) (b:=3*ip) (k:=1000000000000000) (by omega) (by omega) (by omega) (by omega);generalize max (3*(bt - 1) - (k:Int)) 0*4096 / (3*ip)=lo at *;generalize -((3*bt+(k:Int))*4096) / (3*ip)=hi at *;obtain ⟨g2,g3⟩:=g2;obtain ⟨hb1,hb2⟩:=hb;obtain ⟨hp1,hp2⟩:=hp
 have hk2:(k:Int)≤60:=by omega
 clear hm IH hC;replace F1:=wH F1;replace F2:=wH F2;replace PB:=wH PB;go_enter Tryz.func57,Tryz.ntmps57
 go_wp2_with (first
  | (go_at_call 105;(with_reducible refine (PB.out _).mono ?_);rintro e w4 ⟨rfl,hb4⟩;replace C:=C.keep hb4;replace R:=R.keep hb4;replace B:=d_ B hb4;(replace ⟨f_,g_⟩:=C.b2);(replace ⟨wP,wQ,wM,wN⟩:=R.xu))
  | (go_at_call 75;(with_reducible refine (PC.out _).mono ?_);rintro e w5 ⟨rfl,hb5⟩;replace C:=C.keep hb5;replace R:=R.keep hb5;replace B:=d_ B hb5;(replace ⟨f_,g_⟩:=C.b2);(replace ⟨wP,wQ,wM,wN⟩:=R.xu))
  | (go_at_call 76;(with_reducible refine (PP.out _).mono ?_);rintro e w6 ⟨rfl,rfl⟩)
  | (go_at_call 116;first | ((with_reducible refine (F1.out _ _ (by omega)).mono ?_);rintro e w7 ⟨rfl,rfl⟩) | ((with_reducible refine (F2.out _ _ (by omega)).mono ?_);rintro e w8 ⟨rfl,rfl⟩)))
 exact bodyPost_ret (v:=.tuple #[.agg #[.int .i64 lo,.int .i64 (-hi)],.bool true]) (by simp [results,Tryz.results57,go_sem, *]) rfl (⟨rfl,wJ (wJ B (by simp <;> omega) _) (by simp <;> omega) _⟩)
theorem jc (a b X Y E:Int) (n:Nat) (w:World) (hg:M.good a b=true) (hX1:-10000≤X) (hX2:X≤10000) (hE1:0≤E) (hE2:E≤20) (hn:n≤5) :
  Calls Tryz.prog 60 #[.agg #[.int .i64 a,.int .i64 b],.agg #[.int .i64 X,.int .i64 Y,.int .i64 E],.int .i64 (n:Int)] w fun e w'=>e=.returned (.tuple #[.agg #[.int .i64 (M.pick (M.isOk (M.aX a b X E n)) (M.pn (M.hL (M.hC a b) n (M.aX a b X E n)))),.int .i64 (M.pick (M.isOk (M.aX a b X E n)) (M.pd (M.hL (M.hC a b) n (M.aX a b X E n)))),.int .i64 (M.pick (M.isOk (M.aX a b X E n)) (M.pn (M.hH (M.hC a b) n (M.aX a b X E n)))),.int .i64 (M.pick (M.isOk (M.aX a b X E n)) (M.pd (M.hH (M.hC a b) n (M.aX a b X E n))))],.bool (M.isOk (M.aX a b X E n))])∧Below w.heap.size w w':=by
 have hin:=M.ag hg
 have PB:=fun W=>ng a b X Y E n W hg hX1 hX2 hE1 hE2 hn
 have PC:=wH fun W=>gi a b W hin
 have hC:=M.iu hin;have hp:=M.pC n hn
 have PP:=wH fun W=>pk n W hn
 have PX:=wH fun x y W=>d9 x y W
 have hsp:=fun B h1 h2=>M.rQ (B:=B) hC hn h1 h2
 generalize M.hC a b=k at *;clear hg hin;have C:=((aH.new w #[.int .i64 a,.int .i64 b] 25).alloc (.cells #[.int .i64 X,.int .i64 Y,.int .i64 E] 27)).alloc (.cells #[.int .i64 0,.int .i64 0,.int .i64 0,.int .i64 0] 33);have Q:=(aH.new (w.alloc (.cells #[.int .i64 a,.int .i64 b] 25)) #[.int .i64 X,.int .i64 Y,.int .i64 E] 27).alloc (.cells #[.int .i64 0,.int .i64 0,.int .i64 0,.int .i64 0] 33);rw [wI] at Q;have R:=aH.new ((w.alloc (.cells #[.int .i64 a,.int .i64 b] 25)).alloc (.cells #[.int .i64 X,.int .i64 Y,.int .i64 E] 27)) #[.int .i64 0,.int .i64 0,.int .i64 0,.int .i64 0] 33;rw [wI,wI] at R;have B:=(((wK w.heap.size w).alloc (wL _) (.cells #[.int .i64 a,.int .i64 b] 25)).alloc (by rw [wI];omega) (.cells #[.int .i64 X,.int .i64 Y,.int .i64 E] 27)).alloc (by rw [wI,wI];omega) (.cells #[.int .i64 0,.int .i64 0,.int .i64 0,.int .i64 0] 33);generalize hw3:((w.alloc (.cells #[.int .i64 a,.int .i64 b] 25)).alloc (.cells #[.int .i64 X,.int .i64 Y,.int .i64 E] 27)).alloc (.cells #[.int .i64 0,.int .i64 0,.int .i64 0,.int .i64 0] 33)=wc at *;have ⟨q0,q1,q2⟩:=Q.aK;have f_:=C.box.c0;have g_:=C.box.c1
 cases ho:M.aX a b X E n with
 | inf=>
  rw [ho] at PB
  have PM:=fun W=>mC 0 0 1 W (by omega) (by omega) (by omega) (by omega) (by omega) (by omega)
  rw [show (0:Int)*4096 / 1=0 by decide,show -(-((0:Int)*4096) / 1)=0 by decide,show M.aQ 0 0=true by decide] at PM;rw [show M.hL k n .inf=0 from rfl,show M.hH k n .inf=0 from rfl,show M.isOk .inf=true from rfl];generalize M.pick true (M.pd 0)=p2,M.pick true (M.pn 0)=p1 at *;replace PB:=wH PB;replace PM:=wH PM;clear hsp hp;go_enter Tryz.func60,Tryz.ntmps60
  go_wp2_with (first
   | (go_at_call 106;(with_reducible refine (PB.out _).mono ?_);rintro e w4 ⟨v4,en,rfl,xF,hb4⟩;obtain ⟨rfl,A4,l4,c4,rfl⟩:=xF;replace C:=C.keep hb4;replace R:=R.keep hb4;replace B:=d_ B hb4;(replace ⟨f_,g_⟩:=C.b2);(replace ⟨wP,wQ,wU,wV,wM,wN,wT,wY⟩:=R.xJ))
   | (go_at_call 118;(with_reducible refine (PM.out _).mono ?_);rintro e w5 ⟨rfl,hb5⟩;replace C:=C.keep hb5;replace R:=R.keep hb5;replace B:=d_ B hb5;(replace ⟨f_,g_⟩:=C.b2);(replace ⟨wP,wQ,wU,wV,wM,wN,wT,wY⟩:=R.xJ)))
  exact bodyPost_ret (v:=.tuple #[.agg #[.int .i64 p1,.int .i64 p2,.int .i64 p1,.int .i64 p2],.bool true]) (by simp [results,Tryz.results60,go_sem, *]) rfl (⟨rfl,wJ (wJ (wJ (wJ B (by simp <;> omega) _) (by simp <;> omega) _) (by simp <;> omega) _) (by simp <;> omega) _⟩)
 | bad=>
  rw [ho] at PB;rw [show M.isOk .bad=false from rfl];replace PB:=wH PB;clear hsp hp;go_enter Tryz.func60,Tryz.ntmps60
  go_wp2_with (go_at_call 106;(with_reducible refine (PB.out _).mono ?_);rintro e w4 ⟨v4,en,rfl,xF,hb4⟩;obtain ⟨rfl,A4,l4,c4,rfl,hl4⟩:=xF;(have hl5:(l4:Int)≤n:=by omega);replace C:=C.keep hb4;replace R:=R.keep hb4;replace B:=d_ B hb4;(replace ⟨f_,g_⟩:=C.b2);(replace ⟨wP,wQ,wU,wV,wM,wN,wT,wY⟩:=R.xJ))
  exact bodyPost_ret (v:=.tuple #[.agg #[.int .i64 0,.int .i64 0,.int .i64 0,.int .i64 0],.bool false]) (by simp [results,Tryz.results60,go_sem, *]) rfl (⟨rfl,wJ (wJ (wJ (wJ B (by simp <;> omega) _) (by simp <;> omega) _) (by simp <;> omega) _) (by simp <;> omega) _⟩)
 | val x z=>
 rw [ho] at PB;have hb:=M.gY (M.ei hX1 hX2 hE1 hE2 ho);have e1:M.hL k n (.val x z)=max 0 (3*(M.bk (.val x z) - 1) - k)*4096 / M.p4 n:=rfl;have e2:M.hH k n (.val x z)=-(-((3*M.bk (.val x z)+k)*4096) / M.p4 n):=rfl;rw [e1,e2,show M.isOk (.val x z)=true from rfl];have hs:=hsp _ hb.1 hb.2;clear e1 e2 ho hsp
 have PD:=wH fun (s r:Bool) v v' W i j (h1:aF W i v (Wh.a_ x.natAbs)) (h2:aF W j v' (Wh.a_ z.natAbs)) (hx:Wh.sz x 1000) (hz:Wh.sz z 1000) (hs:s=decide (x<0)) (hr:r=decide (z<0))=>(hs ▸ hr ▸ jx x z v v' W i j h1 h2 (Wh.aY.2 (Wh.aN hx (by omega))) (Wh.aY.2 (Wh.aN hz (by omega))) (Nat.le_trans (Wh.fp hx) (by omega)) (Nat.le_trans (Wh.fp hz) (by omega)):Calls Tryz.prog 107 #[.agg #[.bool s,v,.bool r,v']] W fun e w'=>e=.returned (.int .i64 (M.bk (.val x z)))∧Below W.heap.size W w')
 generalize M.bk (.val x z)=bt at *
 have PM:=fun W=>mC (max 0 (3*(bt - 1) - (k:Int))) (3*bt+(k:Int)) (M.p4 n) W (by omega) (by omega) (by omega) (by omega) (by omega) (by omega)
 rw [hs] at PM;generalize M.pick true (M.pn (max 0 (3*(bt - 1) - (k:Int))*4096 / M.p4 n))=p1 at *;generalize M.pick true (M.pd (max 0 (3*(bt - 1) - (k:Int))*4096 / M.p4 n))=p2 at *;generalize M.pick true (M.pn (-(-((3*bt+(k:Int))*4096) / M.p4 n)))=p3 at *;generalize M.pick true (M.pd (-(-((3*bt+(k:Int))*4096) / M.p4 n)))=p4 at *;obtain ⟨hb1,hb2⟩:=hb
 have hk2:(k:Int)≤60:=by omega
 have PM:=wH fun x W (h:x=max 0 (3*(bt - 1) - (k:Int)))=>(by subst h;exact PM W:Calls Tryz.prog 118 #[.int .i64 x,.int .i64 (3*bt+(k:Int)),.int .i64 (M.p4 n)] W fun e w'=>e=.returned (.tuple #[.agg #[.int .i64 p1,.int .i64 p2,.int .i64 p3,.int .i64 p4],.bool true])∧Below W.heap.size W w')
 clear hs hC hp;generalize M.p4 n=pp at *;replace PB:=wH PB;go_enter Tryz.func60,Tryz.ntmps60
 go_upto_region 6 with (go_at_call 106;(with_reducible refine (PB.out _).mono ?_);rintro e w4 ⟨v4,en,rfl,xF,hb4⟩;obtain ⟨rfl,zx,zz,g,cap,s,av,lv,cv,r,bv,mv,dv,rfl,Ew,Ex,Ey,Ez,hss,hrr,ox,oz⟩:=xF;have ox:=wH ox;have oz:=wH oz;have zx:=wH zx;have zz:=wH zz;replace C:=C.keep hb4;replace R:=R.keep hb4;replace B:=d_ B hb4;(replace ⟨f_,g_⟩:=C.b2);(replace ⟨wP,wQ,wU,wV,wM,wN,wT,wY⟩:=R.xJ))
 refine Rg.bO 9 [.is (.slice (some ⟨g,0,none⟩) (n+1) cap),.is (.int .i64 (n:Int)),.is (.pointer (some ⟨g,n*4,none⟩)),.is (.agg #[.bool s,.slice av lv cv,.bool r,.slice bv mv dv]),.is (.int .i64 bt),.is (.agg #[.int .i64 a,.int .i64 b]),.is (.int .i64 (k:Int)),.is (.int .i64 bt),.is (.int .i64 (k:Int))] (by kernel_rfl) (by kernel_rfl) (by kernel_rfl) ⟨?_,?_,?_,?_,?_,?_,?_,?_,?_,trivial⟩ ?_
 ·intro _ zZ w_ hB hr
  have e8:zZ.tmps[8]?=some (.slice (some ⟨g,0,none⟩) (n+1) cap):=hr 8 (by decide);exact Rg.aG rfl (by go_simp)
 ·intro _ zZ w_ hB hr
  have e2:zZ.tmps[2]?=some (.int .i64 (n:Int)):=hr 2 (by decide);exact Rg.aG rfl (by go_simp)
 ·intro _ zZ w_ hB hr
  have e28:=Rg.c_ (hr 28 (by decide));have e29:=Rg.c_ (hr 29 (by decide))
  have hlt_:(n:Int)<((n+1:Nat):Int):=by omega
  have hlt2_:n<n+1:=by omega
  exact Rg.aG rfl (by first | (go_simp;done) | (go_simp;omega))
 ·intro _ zZ w_ hB hr
  have e30:=Rg.c_ (hr 30 (by decide));have k0:=aE hB Ew;have k1:=aE hB Ex;have k2:=aE hB Ey;have k3:=aE hB Ez;exact Rg.aG rfl (by first | (go_simp;done))
 ·intro _ zZ w_ hB hr
  have e31:=Rg.c_ (hr 31 (by decide));have ef:=Rg.ef zZ;exact Rg.bo rfl (by go_simp) (PD.out s r _ _ _ _ _ (aF.below ox.out hB) (aF.below oz.out hB) zx.out zz.out hss.out hrr.out)
 ·intro _ zZ w_ hB hr
  have e3:zZ.tmps[3]?=some (.pointer (some ⟨w.heap.size,0,none⟩)):=hr 3 (by decide);have k0:=aE hB C.box.c0;have k1:=aE hB C.box.c1;exact Rg.aG rfl (by go_simp)
 ·intro _ zZ w_ hB hr
  have e33:=Rg.c_ (hr 33 (by decide));have ef:=Rg.ef zZ;exact Rg.bo rfl (by go_simp) (PC.out _)
 ·intro _ zZ w_ hB hr
  have e32:=Rg.c_ (hr 32 (by decide));exact Rg.aG rfl (by go_simp)
 ·intro _ zZ w_ hB hr
  have e34:=Rg.c_ (hr 34 (by decide));exact Rg.aG rfl (by go_simp)
 intro vals wz hB hv hne;have At:vals 7=.int .i64 bt:=hv 7 (by decide);have Ce:vals 8=.int .i64 (k:Int):=hv 8 (by decide);simp only [Rg.ay,Rg.fill,Act.put,Nat.reduceAdd];clear hv;simp only [At,Ce];clear At Ce;have C2:=C.keep hB;have R2:=R.keep hB;have B2:=d_ B hB;clear C R B f_ g_ wP wQ wU wV wM wN wT wY;unfold Rg.aZ;have ⟨y0,y1,y2,y3,x0,x1,x2,x3,_⟩:=R2.aP
 go_wp2_with (first
  | (go_at_call 119;(with_reducible refine (PX.out _ _ _).mono ?_);rintro e w5 ⟨rfl,rfl⟩)
  | (go_at_call 81;(with_reducible refine (PP.out _).mono ?_);rintro e w6 ⟨rfl,rfl⟩)
  | (go_at_call 118;(with_reducible refine (PM.out _ _ (by omega)).mono ?_);rintro e w7 ⟨rfl,wg⟩;replace R2:=R2.keep wg;replace B2:=d_ B2 wg;(replace ⟨R2_c0,R2_c1,R2_c2,R2_c3,R2_f0,R2_f1,R2_f2,R2_f3⟩:=R2.xJ)))
 exact bodyPost_ret (v:=.tuple #[.agg #[.int .i64 p1,.int .i64 p2,.int .i64 p3,.int .i64 p4],.bool true]) (by simp [results,Tryz.results60,go_sem, *]) rfl (⟨rfl,wJ (wJ (wJ (wJ B2 (by simp <;> omega) _) (by simp <;> omega) _) (by simp <;> omega) _) (by simp <;> omega) _⟩)
end
section
open Go Go.RowKit
namespace Rg
variable {P:Program} {Q:Exit→Act→World→Prop}
def Val.pure:Val→Bool
 | .is _=>true
 | .num _=>true
 | .such _=>true
 | _=>false
theorem Val.qJ {V:Val} (h:V.pure=true) {u:Value} {w w':World} (hu:V.ok u w):V.ok u w':=by
 cases V with
 | is _=>exact hu
 | num _=>exact hu
 | such _=>exact hu
 | _=>cases h
def qX (P:Program) (ops:Array Oper) (Q:Exit→Act→World→Prop) (a0:Act) (T:List Val) (J:World→Prop) (k0:Nat):List Oper→Nat→Prop
 | [],_=>True
 | o
   :: os,k=>(∀ (a:Act) (w:World),J w→(∀ t ∈ o.looksAt ops,pW ops a0 T o a w t)→
   if k=k0 then Region.wanted o (yielded ops a.tmps)=true∧o.wp P a w (fun a' w'=>(∃ v,a'=a.put o.dst v)∧J w'∧∀ v,(Ak T k).ok v w') Q else Does P ops Q (Ak T k) o a w)∧qX P ops Q a0 T J k0 os (k+1)
theorem rq {ops:Array Oper} {a0:Act} {T:List Val} {J:World→Prop} {k0:Nat} (hJ:∀ w w',J w→Below w.heap.size w w'→J w') (hp:∀ j,j≠k0→(Ak T j).pure=true):∀ (os:List Oper) (k:Nat),qX P ops Q a0 T J k0 os k→nX P Q .any ops J (fun i v w=>(Ak T i).ok v w) a0 os k
 | [],_,_=>trivial
 | o :: os,k,h=>by
  refine ⟨fun a w vals hS hv hr=>?_,rq hJ hp os (k+1) h.2⟩
  have h1:=h.1 a w hS (fun t ht=>by
   have:=hr t ht;unfold rd at this;unfold pW
   split
   ·rename_i e he
    rw [he] at this;have h2:=List.find?_some he;rw [Bool.and_eq_true] at h2;exact ⟨_,this,hv e (Array.mem_toList_iff.1 (List.mem_of_find?_eq_some he)) h2.1⟩
   rename_i he
   rw [he] at this
   exact this)
  unfold uI
  split at h1
  ·rename_i hk
   rw [if_pos h1.1];refine Oper.wp_mono ?_ h1.2;rintro a' w' ⟨⟨v,e⟩,h2,h3⟩;refine ⟨v,e,h3 v,h2,fun j u hu=>?_⟩
   by_cases hj:j=k0
   ·subst hj
    subst hk;exact h3 u
   exact Val.qJ (hp j hj) hu
  unfold Does at h1
  split
  ·rename_i hw
   rw [if_pos hw] at h1;refine Oper.wp_mono ?_ h1;rintro a' w' ⟨v,e1,e2,e3⟩;exact ⟨v,e1,e2,hJ _ _ hS e3,fun j u hu=>Val.keep e3 _ _ hu⟩
  rename_i hw
  rw [if_neg hw] at h1;exact h1
theorem uB {id:Nat} {ops:Array Oper} {a0:Act} {w:World} (k0:Nat) (T:List Val) (J:World→Prop) (hm:P.follows .mixedOrders=true) (hok:eg .any ops a0.tmps.size=true)
  (hJ:∀ w w',J w→Below w.heap.size w w'→J w') (hp:∀ j,j≠k0→(Ak T j).pure=true) (h0:J w)
  (hR:qX P ops Q a0 T J k0 ops.toList 0)
  (hF:∀ (vals:Nat→Value) (w':World),J w'→(∀ i,i<ops.size→(Ak T i).ok (vals i) w')→Q .normal (fill (fun _=>true) vals ops.toList 0 a0) w'):(Code.region id ops true).wp P Q a0 w:=
 region J (fun i v w'=>(Ak T i).ok v w') hm hok (hJ _ _ h0 ((wK _ w).drew)) (rq hJ hp _ _ hR) hF
end Rg
end
section
open Go.RowKit
namespace M
def bL (a b X E:Int):Nat→Int
 | 0=>hL (hC a b) 0 (aX a b X E 0)
 | k+1=>max (bL a b X E k) (hL (hC a b) (k+1) (aX a b X E (k+1)))
def bH (a b X E:Int):Nat→Int
 | 0=>hH (hC a b) 0 (aX a b X E 0)
 | k+1=>min (bH a b X E k) (hH (hC a b) (k+1) (aX a b X E (k+1)))
def CX (a b X E:Int):Nat→Nat→Nat
 | 0,k=>k
 | f+1,k=>if isOk (aX a b X E (k+1))=true then CX a b X E f (k+1) else k
def bN (a b X E:Int):Nat:=CX a b X E 5 0
def AK (a b X E:Int):Bool:=aQ (bL a b X E (bN a b X E)) (bH a b X E (bN a b X E))
theorem qg {a b X E:Int}:∀ f k:Nat,k≤CX a b X E f k
 | 0,_=>wL _
 | f+1,k=>by
  unfold CX
  split
  ·exact Nat.le_of_succ_le (qg f (k+1))
  exact wL _
theorem qh {a b X E:Int}:∀ f k:Nat,CX a b X E f k≤k+f
 | 0,_=>wL _
 | f+1,k=>by
  unfold CX
  split
  ·have:=qh (a:=a) (b:=b) (X:=X) (E:=E) f (k+1);omega
  omega
theorem vD {a b X E:Int}:bN a b X E≤5:=qh 5 0
theorem t6 {a b X E:Int}:isOk (aX a b X E 0)=true:=by
 unfold aX
 split <;> rfl
theorem rP {a b X E:Int} {n:Nat} (hin:M.bK a b=true) (hn:n≤5) (hX1:-10000≤X) (hX2:X≤10000) (hE1:0≤E) (hE2:E≤20):-409600000≤hL (hC a b) n (aX a b X E n)∧hL (hC a b) n (aX a b X E n)≤409600000∧-409600000≤hH (hC a b) n (aX a b X E n)∧hH (hC a b) n (aX a b X E n)≤409600000:=by
 have:=b8 (vQ (a:=a) (b:=b) (C:=hC a b) (iu hin) hn hX1 hX2 hE1 hE2);omega
theorem uM {a b X E:Int} (hin:M.bK a b=true) (hX1:-10000≤X) (hX2:X≤10000) (hE1:0≤E) (hE2:E≤20):∀ k:Nat,k≤5→-409600000≤bL a b X E k∧bL a b X E k≤409600000∧-409600000≤bH a b X E k∧bH a b X E k≤409600000
 | 0,h=>rP hin h hX1 hX2 hE1 hE2
 | k+1,h=>by
  have h1:=uM hin hX1 hX2 hE1 hE2 k (by omega);have h2:=rP (n:=k+1) hin h hX1 hX2 hE1 hE2;unfold bL bH;omega
theorem nc {a b X E:Int} {k:Nat}:∀ n:Nat,k≤n→bL a b X E k≤bL a b X E n∧bH a b X E n≤bH a b X E k
 | 0,h=>by
        obtain rfl:k=0:=by omega
        exact ⟨Int.le_refl _,Int.le_refl _⟩
 | n+1,h=>by
  by_cases e:k=n+1
  ·subst e;exact ⟨Int.le_refl _,Int.le_refl _⟩
  have:=nc (a:=a) (b:=b) (X:=X) (E:=E) (k:=k) n (by omega);have e1:bL a b X E (n+1)=max (bL a b X E n) (hL (hC a b) (n+1) (aX a b X E (n+1))):=rfl;have e2:bH a b X E (n+1)=min (bH a b X E n) (hH (hC a b) (n+1) (aX a b X E (n+1))):=rfl;omega
theorem vF {a b X E:Int} (hin:M.bK a b=true) (hX1:-10000≤X) (hX2:X≤10000) (hE1:0≤E) (hE2:E≤20) {k:Nat} (hk:k≤bN a b X E) (h:aQ (bL a b X E k) (bH a b X E k)=false):AK a b X E=false:=by
 cases hb:AK a b X E with
 | false=>rfl
 | true=>
 have hN:=vD (a:=a) (b:=b) (X:=X) (E:=E);have h1:=b8 hb;have h2:=nc (a:=a) (b:=b) (X:=X) (E:=E) _ hk;have h3:=uM hin hX1 hX2 hE1 hE2 k (by omega)
 exfalso
 have:aQ (bL a b X E k) (bH a b X E k)=true:=by
  unfold aQ;simp only [Bool.and_eq_true,decide_eq_true_eq];omega
 rw [this] at h;cases h
end M
theorem cw (a b X Y E:Int) (w:World) (hg:M.good a b=true) (hX1:-10000≤X) (hX2:X≤10000) (hE1:0≤E) (hE2:E≤20) :
  Calls Tryz.prog 61 #[.agg #[.int .i64 a,.int .i64 b],.agg #[.int .i64 X,.int .i64 Y,.int .i64 E]] w fun e w'=>e=.returned (.tuple #[.agg #[.int .i64 (M.bL a b X E (M.bN a b X E)),.int .i64 (M.bH a b X E (M.bN a b X E))],.int .i64 ((M.bN a b X E:Nat):Int),.bool (M.AK a b X E)])∧Below w.heap.size w w':=by
 have P0:=fun W=>jk a b X Y E 0 W hg hX1 hX2 hE1 hE2 (by omega)
 rw [M.t6,show ((0:Nat):Int)=0 from rfl] at P0
 have PK:=wH fun (k:Nat) W (hk:k≤5)=>jk a b X Y E k W hg hX1 hX2 hE1 hE2 hk
 have P0:=wH P0;have hL0:=wH (show M.hL (M.hC a b) 0 (M.aX a b X E 0)=M.bL a b X E 0 from rfl);have hH0:=wH (show M.hH (M.hC a b) 0 (M.aX a b X E 0)=M.bH a b X E 0 from rfl);have hin:=M.ag hg
 have hbd:=wH fun k hk=>M.rP (a:=a) (b:=b) (X:=X) (E:=E) (n:=k) hin hk hX1 hX2 hE1 hE2
 have hbb:=wH fun k hk=>M.uM (a:=a) (b:=b) (X:=X) (E:=E) hin hX1 hX2 hE1 hE2 k hk
 clear hg hin;have C:=((aH.new w #[.int .i64 a,.int .i64 b] 25).alloc (.cells #[.int .i64 X,.int .i64 Y,.int .i64 E] 27)).alloc (.cells #[.int .i64 0,.int .i64 0] 74);have Q:=(aH.new (w.alloc (.cells #[.int .i64 a,.int .i64 b] 25)) #[.int .i64 X,.int .i64 Y,.int .i64 E] 27).alloc (.cells #[.int .i64 0,.int .i64 0] 74);rw [wI] at Q;have R:=aH.new ((w.alloc (.cells #[.int .i64 a,.int .i64 b] 25)).alloc (.cells #[.int .i64 X,.int .i64 Y,.int .i64 E] 27)) #[.int .i64 0,.int .i64 0] 74;rw [wI,wI] at R;have B:=(((wK w.heap.size w).alloc (wL _) (.cells #[.int .i64 a,.int .i64 b] 25)).alloc (by rw [wI];omega) (.cells #[.int .i64 X,.int .i64 Y,.int .i64 E] 27)).alloc (by rw [wI,wI];omega) (.cells #[.int .i64 0,.int .i64 0] 74);generalize hw3:((w.alloc (.cells #[.int .i64 a,.int .i64 b] 25)).alloc (.cells #[.int .i64 X,.int .i64 Y,.int .i64 E] 27)).alloc (.cells #[.int .i64 0,.int .i64 0] 74)=wc at *;have ⟨q0,q1,q2⟩:=Q.aK;have f_:=C.box.c0;have g_:=C.box.c1;generalize hu0:M.hL (M.hC a b) 0 (M.aX a b X E 0)=u0 at *;generalize hv0:M.hH (M.hC a b) 0 (M.aX a b X E 0)=v0 at *;clear hu0 hv0;go_enter Tryz.func61,Tryz.ntmps61
 go_wp2_with (go_at_call 57;(with_reducible refine (P0.out _).mono ?_);rintro e w4 ⟨rfl,hb4⟩;replace C:=C.keep hb4;replace R:=R.keep hb4;replace B:=d_ B hb4;replace Q:=Q.keep hb4;have Ev:=wH R.lt;replace Q:=Q.alloc (.cells #[.int .i64 u0,.int .i64 v0] 74);have T:=aH.new w4 #[.int .i64 u0,.int .i64 v0] 74;have b_:=bA w4 (.cells #[.int .i64 u0,.int .i64 v0] 74);replace C:=C.keep b_;replace R:=R.keep b_;replace B:=d_ B b_;clear b_;(replace ⟨f_,g_⟩:=C.b2);(replace ⟨wP,wQ,wM,wN⟩:=R.xu);(replace ⟨xP,xQ⟩:=T.b2))
 go_loopw [9] (fun vi wr=>∃ k:Nat,k≤5∧vi=.int .i64 k∧Hid (M.CX a b X E (5 - k) k=M.bN a b X E)∧aH wr w4.heap.size 74 #[.int .i64 (M.bL a b X E k),.int .i64 (M.bH a b X E k)]∧aH wr w.heap.size 25 #[.int .i64 a,.int .i64 b]∧aH wr (w.heap.size+1) 27 #[.int .i64 X,.int .i64 Y,.int .i64 E]∧aH wr (w.heap.size+1+1) 74 #[.int .i64 0,.int .i64 0]∧Below w.heap.size w wr) (fun vi _=>5 - (intOf vi).toNat)
 case atStart=>exact ⟨0,by omega,rfl,wH rfl,by rw [←hL0.out,←hH0.out];exact T,C,Q,R,B⟩
 case round=>
 clear C Q R B T P0 hL0 hH0 f_ g_ wP wQ wM wN xP xQ q0 q1 q2;have hR9:=Ev.out;obtain ⟨k,hk,rfl,hN,T,C,Q,R,B⟩:=hrel;have xP:=T.box.c0;have xQ:=T.box.c1;have Bp:=T.box.f0;have Br:=T.box.f1;have f_:=C.box.c0;have g_:=C.box.c1;have wP:=R.box.c0;have wQ:=R.box.c1;have wM:=R.box.f0;have wN:=R.box.f1;have ⟨q0,q1,q2⟩:=Q.aK
 by_cases hlt:k<5
 ·have P1:=fun W=>PK.out (k+1) W (by omega)
  have hNs:M.CX a b X E (5 - k) k=if M.isOk (M.aX a b X E (k+1))=true then M.CX a b X E (5 - (k+1)) (k+1) else k:=by
   rw [show 5 - k=(5 - (k+1))+1 by omega];rfl
  have eL:M.bL a b X E (k+1)=max (M.bL a b X E k) (M.hL (M.hC a b) (k+1) (M.aX a b X E (k+1))):=rfl;have eH:M.bH a b X E (k+1)=min (M.bH a b X E k) (M.hH (M.hC a b) (k+1) (M.aX a b X E (k+1))):=rfl;generalize M.hH (M.hC a b) (k+1) (M.aX a b X E (k+1))=hh,M.hL (M.hC a b) (k+1) (M.aX a b X E (k+1))=hl at *
  have PC:=wH fun W=>mF (M.bL a b X E k) (M.bH a b X E k) hl hh W
  cases hok:M.isOk (M.aX a b X E (k+1)) with
  | false=>
   rw [hok,if_neg (by decide)] at hNs;have Ct:=wH (show M.bN a b X E=k by rw [←hN.out,hNs]);rw [hok] at P1
   have PV:=wH fun W=>jN (M.bL a b X E k) (M.bH a b X E k) W
   have EJ:=wH (show M.AK a b X E=M.aQ (M.bL a b X E k) (M.bH a b X E k) by unfold M.AK;rw [Ct.out]);clear hNs eL eH hok hN PC;have P1:=wH P1;have hk1:=wH (show ((k+1:Nat):Int)=(k:Int)+1 by omega);have P1:=P1.out;rw [hk1.out] at P1;have P1:=wH P1
   go_upto_region 8 with (go_at_call 57;(with_reducible refine (P1.out _).mono ?_);rintro e w5 ⟨rfl,hb5⟩;replace C:=C.keep hb5;replace R:=R.keep hb5;replace T:=T.keep hb5;replace B:=d_ B hb5;replace Q:=Q.keep hb5;replace Q:=Q.alloc (.cells #[.int .i64 hl,.int .i64 hh] 74);have S:=aH.new w5 #[.int .i64 hl,.int .i64 hh] 74;have b_:=bA w5 (.cells #[.int .i64 hl,.int .i64 hh] 74);replace C:=C.keep b_;replace R:=R.keep b_;replace T:=T.keep b_;replace B:=d_ B b_;clear b_;(replace ⟨f_,g_⟩:=C.b2);(replace ⟨wP,wQ,wM,wN⟩:=R.xu);(replace ⟨xP,xQ⟩:=T.b2);(replace ⟨AU,AV⟩:=S.b2))
   generalize w5.alloc (.cells #[.int .i64 hl,.int .i64 hh] 74)=wd at *;generalize hbk:M.bL a b X E k=bl at *;generalize BR:M.bH a b X E k=bh at *;replace hbk:=wH hbk;replace BR:=wH BR;refine Rg.uB 7 [.is (.agg #[.int .i64 bl,.int .i64 bh]),.is (.int .i64 (k:Int)),.is (.bool true),.is (.bool true),.is (.agg #[.int .i64 bl,.int .i64 bh]),.is (.bool (M.aQ bl bh)),.is (.bool (M.aQ bl bh)),.at (fun _ W=>aH W (w.heap.size+1+1) 74 #[.int .i64 bl,.int .i64 bh]),.is (.int .i64 (k:Int)),.is (.bool (M.aQ bl bh))] (fun W=>aH W w4.heap.size 74 #[.int .i64 bl,.int .i64 bh]∧(∃ u v,aH W (w.heap.size+1+1) 74 #[u,v])∧Below w.heap.size w W) (by kernel_rfl) (by kernel_rfl) ?_ (fun j hj=>match j,hj with | 0,hj=>rfl | 1,hj=>rfl | 2,hj=>rfl | 3,hj=>rfl | 4,hj=>rfl | 5,hj=>rfl | 6,hj=>rfl | 7,hj=>absurd rfl hj | 8,hj=>rfl | 9,hj=>rfl | n+10,_=>rfl) ?_ ⟨?_,?_,?_,?_,?_,?_,?_,?_,?_,?_,trivial⟩ ?_
   ·exact fun W W_ h hb=>⟨h.1.keep hb,⟨_,_,h.2.1.choose_spec.choose_spec.keep hb⟩,h.2.2.trans (hb.mono h.2.2.size)⟩
   ·exact ⟨T,⟨_,_,R⟩,B⟩
   ·intro zZ w_ hJ hr
    rw [if_neg (by decide)];have e7:zZ.tmps[7]?=some (.pointer (some ⟨w4.heap.size,0,none⟩)):=hr 7 (by decide);have k0:=hJ.1.box.c0;have k1:=hJ.1.box.c1;exact Rg.aG rfl (by go_simp)
   ·intro zZ w_ hJ hr
    rw [if_neg (by decide)];have e9:zZ.tmps[9]?=some (.int .i64 (k:Int)):=hr 9 (by decide);exact Rg.aG rfl (by go_simp)
   ·intro zZ w_ hJ hr
    rw [if_neg (by decide)];have e8:zZ.tmps[8]?=some (.bool true):=hr 8 (by decide);exact Rg.aG rfl (by go_simp)
   ·intro zZ w_ hJ hr
    rw [if_neg (by decide)];have e37:=Rg.c_ (hr 37 (by decide));exact Rg.aG rfl (by go_simp)
   ·intro zZ w_ hJ hr
    rw [if_neg (by decide)];have e7:zZ.tmps[7]?=some (.pointer (some ⟨w4.heap.size,0,none⟩)):=hr 7 (by decide);have e38:=Rg.c_ (hr 38 (by decide));have k0:=hJ.1.box.c0;have k1:=hJ.1.box.c1;exact Rg.aG (Rg.ai (j:=3) (b:=true) rfl (Rg.xO rfl e38)) (by go_simp)
   ·intro zZ w_ hJ hr
    rw [if_neg (by decide)];have e38:=Rg.c_ (hr 38 (by decide));have e39:=Rg.c_ (hr 39 (by decide));have ef:=Rg.ef zZ;exact Rg.bo (Rg.ai (j:=3) (b:=true) rfl (Rg.xO rfl e38)) (by go_simp) (PV.out _)
   ·intro zZ w_ hJ hr
    rw [if_neg (by decide)];have e38:=Rg.c_ (hr 38 (by decide));have e40:=Rg.c_ (hr 40 (by decide));have ec:=Rg.ec zZ;exact Rg.aG rfl (by first | (go_simp;done))
   ·intro zZ w_ hJ hr
    rw [if_pos rfl];have e4:zZ.tmps[4]?=some (.pointer (some ⟨w.heap.size+1+1,0,none⟩)):=hr 4 (by decide);have e35:=Rg.c_ (hr 35 (by decide));obtain ⟨Mc,⟨u_,v_,hJ2⟩,hJ3⟩:=hJ;have e35:zZ.tmps[35]?=some (.agg #[.int .i64 bl,.int .i64 bh]):=Rg.c_ (hr 35 (by decide));have e4:zZ.tmps[4]?=some (.pointer (some ⟨w.heap.size+1+1,0,none⟩)):=hr 4 (by decide);have ⟨y0,y1,x0,x1,_⟩:=hJ2.box;refine ⟨rfl,?_⟩;unfold Oper.wp
    go_simp
    exact ⟨⟨Mc.bp (show w4.heap.size≠w.heap.size+1+1 by omega) _ _,⟨_,_,aH.set2 hJ2 _ _⟩,dY hJ3 (by omega) _ _⟩,fun _ _ hb=>(aH.set2 hJ2 _ _).keep hb⟩
   ·intro zZ w_ hJ hr
    rw [if_neg (by decide)];have e36:=Rg.c_ (hr 36 (by decide));exact Rg.aG rfl (by go_simp)
   ·intro zZ w_ hJ hr
    rw [if_neg (by decide)];have e41:=Rg.c_ (hr 41 (by decide));exact Rg.aG rfl (by go_simp)
   intro vals wz hJ2 hv;have Ce:vals 8=.int .i64 (k:Int):=hv 8 (by decide);have yp:vals 9=.bool (M.aQ bl bh):=hv 9 (by decide);have hst:=hv 7 (by decide);simp only [Rg.ay,Rg.fill,Act.put,Nat.reduceAdd];clear hv;simp only [Ce,yp];clear Ce yp;have ⟨y0,y1,x0,x1,_⟩:=aH.box (Rg.aj hst);have B2:=hJ2.2.2;clear hst hJ2;go_wp2;exact bodyPost_ret (v:=.tuple #[.agg #[.int .i64 bl,.int .i64 bh],.int .i64 (k:Int),.bool (M.aQ bl bh)]) (by simp [results,Tryz.results61,go_sem, *]) rfl (⟨by rw [Ct.out,EJ.out,hbk.out,BR.out],B2⟩)
  | true=>
  rw [hok,if_pos rfl] at hNs;have JS:=wH (hNs.symm.trans hN.out);rw [hok] at P1;have eL:=wH eL;have eH:=wH eH;clear hNs hok hN;have hk1:=wH (show ((k+1:Nat):Int)=(k:Int)+1 by omega);rw [hk1.out] at P1;have P1:=wH P1;generalize hbk:M.bL a b X E k=bl at *;generalize BR:M.bH a b X E k=bh at *;clear hbk BR
  go_wp2_with (first
   | (go_at_call 57;(with_reducible refine (P1.out _).mono ?_);rintro e w5 ⟨rfl,hb5⟩;replace C:=C.keep hb5;replace R:=R.keep hb5;replace T:=T.keep hb5;replace B:=d_ B hb5;replace Q:=Q.keep hb5;replace Q:=Q.alloc (.cells #[.int .i64 hl,.int .i64 hh] 74);have S:=aH.new w5 #[.int .i64 hl,.int .i64 hh] 74;have b_:=bA w5 (.cells #[.int .i64 hl,.int .i64 hh] 74);replace C:=C.keep b_;replace R:=R.keep b_;replace T:=T.keep b_;replace B:=d_ B b_;clear b_;(replace ⟨f_,g_⟩:=C.b2);(replace ⟨wP,wQ,wM,wN⟩:=R.xu);(replace ⟨xP,xQ,Bp,Br⟩:=T.xu);(replace ⟨AU,AV⟩:=S.b2))
   | (go_at_call 65;(with_reducible refine (PC.out _).mono ?_);rintro e w6 ⟨rfl,hb6⟩;replace C:=C.keep hb6;replace R:=R.keep hb6;replace T:=T.keep hb6;replace S:=S.keep hb6;replace B:=d_ B hb6;replace Q:=Q.keep hb6;(replace ⟨f_,g_⟩:=C.b2);(replace ⟨wP,wQ,wM,wN⟩:=R.xu);(replace ⟨xP,xQ,Bp,Br⟩:=T.xu);(replace ⟨AU,AV⟩:=S.b2)))
  go_roundw
  case rel=>exact ⟨k+1,by omega,by go_num,JS,by rw [eL.out,eH.out];exact aH.set2 T _ _,(C.other (show w.heap.size≠w4.heap.size by omega) _).other (show w.heap.size≠w4.heap.size by omega) _,(Q.other (show w.heap.size+1≠w4.heap.size by omega) _).other (show w.heap.size+1≠w4.heap.size by omega) _,(R.other (show w.heap.size+1+1≠w4.heap.size by omega) _).other (show w.heap.size+1+1≠w4.heap.size by omega) _,wJ (wJ B (by simp <;> omega) _) (by simp <;> omega) _⟩
  case measure=>simp [intOf] <;> omega
 obtain rfl:k=5:=by omega
 have Ct:=wH (show M.bN a b X E=5 by rw [←hN.out];rfl)
 have PV:=wH fun W=>jN (M.bL a b X E 5) (M.bH a b X E 5) W
 have EJ:=wH (show M.AK a b X E=M.aQ (M.bL a b X E 5) (M.bH a b X E 5) by unfold M.AK;rw [Ct.out]);clear hN PK
 obtain ⟨k,hk5⟩:∃ k:Nat,k=5:=⟨5,rfl⟩
 rw [←hk5] at Ct PV EJ T ⊢;rw [←hk5] at xP xQ
 have hlt5:¬ (k:Int)<5:=by omega
 go_upto_region 8 with fail
 generalize hbk:M.bL a b X E k=bl at *;generalize BR:M.bH a b X E k=bh at *;replace hbk:=wH hbk;replace BR:=wH BR;refine Rg.uB 7 [.is (.agg #[.int .i64 bl,.int .i64 bh]),.is (.int .i64 (k:Int)),.is (.bool true),.is (.bool true),.is (.agg #[.int .i64 bl,.int .i64 bh]),.is (.bool (M.aQ bl bh)),.is (.bool (M.aQ bl bh)),.at (fun _ W=>aH W (w.heap.size+1+1) 74 #[.int .i64 bl,.int .i64 bh]),.is (.int .i64 (k:Int)),.is (.bool (M.aQ bl bh))] (fun W=>aH W w4.heap.size 74 #[.int .i64 bl,.int .i64 bh]∧(∃ u v,aH W (w.heap.size+1+1) 74 #[u,v])∧Below w.heap.size w W) (by kernel_rfl) (by kernel_rfl) ?_ (fun j hj=>match j,hj with | 0,hj=>rfl | 1,hj=>rfl | 2,hj=>rfl | 3,hj=>rfl | 4,hj=>rfl | 5,hj=>rfl | 6,hj=>rfl | 7,hj=>absurd rfl hj | 8,hj=>rfl | 9,hj=>rfl | n+10,_=>rfl) ?_ ⟨?_,?_,?_,?_,?_,?_,?_,?_,?_,?_,trivial⟩ ?_
 ·exact fun W W_ h hb=>⟨h.1.keep hb,⟨_,_,h.2.1.choose_spec.choose_spec.keep hb⟩,h.2.2.trans (hb.mono h.2.2.size)⟩
 ·exact ⟨T,⟨_,_,R⟩,B⟩
 ·intro zZ w_ hJ hr
  rw [if_neg (by decide)];have e7:zZ.tmps[7]?=some (.pointer (some ⟨w4.heap.size,0,none⟩)):=hr 7 (by decide);have k0:=hJ.1.box.c0;have k1:=hJ.1.box.c1;exact Rg.aG rfl (by go_simp)
 ·intro zZ w_ hJ hr
  rw [if_neg (by decide)];have e9:zZ.tmps[9]?=some (.int .i64 (k:Int)):=hr 9 (by decide);exact Rg.aG rfl (by go_simp)
 ·intro zZ w_ hJ hr
  rw [if_neg (by decide)];have e8:zZ.tmps[8]?=some (.bool true):=hr 8 (by decide);exact Rg.aG rfl (by go_simp)
 ·intro zZ w_ hJ hr
  rw [if_neg (by decide)];have e37:=Rg.c_ (hr 37 (by decide));exact Rg.aG rfl (by go_simp)
 ·intro zZ w_ hJ hr
  rw [if_neg (by decide)];have e7:zZ.tmps[7]?=some (.pointer (some ⟨w4.heap.size,0,none⟩)):=hr 7 (by decide);have e38:=Rg.c_ (hr 38 (by decide));have k0:=hJ.1.box.c0;have k1:=hJ.1.box.c1;exact Rg.aG (Rg.ai (j:=3) (b:=true) rfl (Rg.xO rfl e38)) (by go_simp)
 ·intro zZ w_ hJ hr
  rw [if_neg (by decide)];have e38:=Rg.c_ (hr 38 (by decide));have e39:=Rg.c_ (hr 39 (by decide));have ef:=Rg.ef zZ;exact Rg.bo (Rg.ai (j:=3) (b:=true) rfl (Rg.xO rfl e38)) (by go_simp) (PV.out _)
 ·intro zZ w_ hJ hr
  rw [if_neg (by decide)];have e38:=Rg.c_ (hr 38 (by decide));have e40:=Rg.c_ (hr 40 (by decide));have ec:=Rg.ec zZ;exact Rg.aG rfl (by first | (go_simp;done))
 ·intro zZ w_ hJ hr
  rw [if_pos rfl];have e4:zZ.tmps[4]?=some (.pointer (some ⟨w.heap.size+1+1,0,none⟩)):=hr 4 (by decide);have e35:=Rg.c_ (hr 35 (by decide));obtain ⟨Mc,⟨u_,v_,hJ2⟩,hJ3⟩:=hJ;have e35:zZ.tmps[35]?=some (.agg #[.int .i64 bl,.int .i64 bh]):=Rg.c_ (hr 35 (by decide));have e4:zZ.tmps[4]?=some (.pointer (some ⟨w.heap.size+1+1,0,none⟩)):=hr 4 (by decide);have ⟨y0,y1,x0,x1,_⟩:=hJ2.box;refine ⟨rfl,?_⟩;unfold Oper.wp
  go_simp
  exact ⟨⟨Mc.bp (show w4.heap.size≠w.heap.size+1+1 by omega) _ _,⟨_,_,aH.set2 hJ2 _ _⟩,dY hJ3 (by omega) _ _⟩,fun _ _ hb=>(aH.set2 hJ2 _ _).keep hb⟩
 ·intro zZ w_ hJ hr
  rw [if_neg (by decide)];have e36:=Rg.c_ (hr 36 (by decide));exact Rg.aG rfl (by go_simp)
 ·intro zZ w_ hJ hr
  rw [if_neg (by decide)];have e41:=Rg.c_ (hr 41 (by decide));exact Rg.aG rfl (by go_simp)
 intro vals wz hJ2 hv;have Ce:vals 8=.int .i64 (k:Int):=hv 8 (by decide);have yp:vals 9=.bool (M.aQ bl bh):=hv 9 (by decide);have hst:=hv 7 (by decide);simp only [Rg.ay,Rg.fill,Act.put,Nat.reduceAdd];clear hv;simp only [Ce,yp];clear Ce yp;have ⟨y0,y1,x0,x1,_⟩:=aH.box (Rg.aj hst);have B2:=hJ2.2.2;clear hst hJ2;go_wp2;exact bodyPost_ret (v:=.tuple #[.agg #[.int .i64 bl,.int .i64 bh],.int .i64 (k:Int),.bool (M.aQ bl bh)]) (by simp [results,Tryz.results61,go_sem, *]) rfl (⟨by rw [Ct.out,EJ.out,hbk.out,BR.out],B2⟩)
end
end Go.Proofs.YtggekfbfechonaaGreat
